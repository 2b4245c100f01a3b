/- strings.Join at a blank; row.Text. Printed by pv/gen_rtx2.py. No condition. -/
import Derived.Test.YtoojllfijfjmoaaDoorM45
import Derived.Test.YtoojllfijfjmoaaDoorM15
import Derived.Test.YtoojllfijfjmoaaDoorM46
import Derived.Test.YtoojllfijfjmoaaDoorM31
import Derived.Test.YtoojllfijfjmoaaDoorM6
import Derived.Test.YtoojllfijfjmoaaDoorM44
import Derived.Test.YtoojllfijfjmoaaDoorM36
import Derived.Test.YtoojllfijfjmoaaDoorM41

namespace Go.Proofs.YtoojllfijfjmoaaDoor.W
open Go.RowKit Anv Go.Lib
def jt (s : List UInt8) (r : List (List UInt8)) (k : Nat) : List UInt8 := s ++ (r.take k).flatMap fun t => 32 :: t
def textRow (zs : List Int) : List UInt8 := 91 :: (jn (zs.map textZ) ++ [93])
end Go.Proofs.YtoojllfijfjmoaaDoor.W

/- row.Zero, Unit, IsZero; the laws' live; RowMakes. Printed by pv/gen_row2.py. No condition. -/
namespace Go.Proofs.YtoojllfijfjmoaaDoor.W
open Go.RowKit Anv Go.Lib
theorem fN_zero : fN (none, 0, 0) = (Value.agg #[.bool false, .slice none 0 0]).cells.toList := by
  show [Value.bool (neg 0), Value.slice none (zl 0) 0] = _
  rw [neg_zero, zl_zero]; rfl
theorem es_zeros (n : Nat) (w : World) : (pfEs FN (List.replicate n (none, 0, 0))).P w := fun e he => by
  rw [List.eq_of_mem_replicate he]
  exact zin_none w
def allz (es : List NE) : Bool := es.all fun e => decide (zz e = 0)
end Go.Proofs.YtoojllfijfjmoaaDoor.W

/- RowMakes: the law's walk. Printed by pv/gen_row3.py. No condition. -/
namespace Go.Proofs.YtoojllfijfjmoaaDoor.W
open Go.RowKit Anv Go.Lib
end Go.Proofs.YtoojllfijfjmoaaDoor.W

/- Plain laws of the texts of rows: what a text is read as, or where it goes wrong. No program. No condition. -/
namespace Go.Proofs.YtoojllfijfjmoaaDoor.W
open Anv
def stp (c : UInt8) : Prop := c.toNat = 32 ∨ c.toNat = 93
def ndg (c : UInt8) : Prop := c.toNat = 45 ∨ (48 ≤ c.toNat ∧ c.toNat ≤ 57)
def Rz (t : List UInt8) (z : Int) : Prop := (∃ d, t = 45 :: d ∧ Ok 1 d ∧ z = sg true (numOf d)) ∨ ((t.getD 0 0).toNat ≠ 45 ∧ Ok 0 t ∧ z = sg false (numOf t))
def Rb (t : List UInt8) (b : Nat) : Prop := (∃ d b', t = 45 :: d ∧ Fb 1 d b' ∧ b = b' + 1) ∨ ((t.getD 0 0).toNat ≠ 45 ∧ Fb 0 t b)
theorem head45 {t d : List UInt8} (h : t = 45 :: d) (k : (t.getD 0 0).toNat ≠ 45) : False := k (by rw [h]; rfl)
theorem rz_eq {t : List UInt8} {z y : Int} (h : Rz t z) (k : Rz t y) : z = y := by
  rcases h with ⟨d, h1, _, h3⟩ | ⟨h1, _, h3⟩ <;> rcases k with ⟨e, k1, _, k3⟩ | ⟨k1, _, k3⟩
  · rw [h1] at k1; cases k1; rw [h3, k3]
  · exact (head45 h1 k1).elim
  · exact (head45 k1 h1).elim
  · rw [h3, k3]
def cutw (s : List UInt8) (p q : Nat) : List UInt8 := (s.drop p).take (q - p)
def Seg (s : List UInt8) (p q : Nat) : Prop := p ≤ q ∧ q ≤ s.length ∧ (∀ i, p ≤ i → i < q → ¬ stp (s.getD i 0)) ∧ (q < s.length → stp (s.getD q 0))
def Sen (s : List UInt8) (p q : Nat) : Prop := p ≤ q ∧ q ≤ s.length ∧ (∀ i, p ≤ i → i < q → ndg (s.getD i 0)) ∧ (q < s.length → ¬ ndg (s.getD q 0))
inductive Go (s : List UInt8) : Nat → List Int → List Int ⊕ Nat → Prop
  | bad {p q b : Nat} {zs : List Int} (h : Seg s p q) (hb : Rb (cutw s p q) b) : Go s p zs (.inr (p + b))
  | fin {p : Nat} {zs : List Int} {z : Int} (h : Seg s p s.length) (hz : Rz (cutw s p s.length) z) : Go s p zs (.inr s.length)
  | more {p q : Nat} {zs : List Int} {z : Int} (h : Seg s p q) (hz : Rz (cutw s p q) z) (hc : (s.getD q 0).toNat = 93) (hq : q + 1 < s.length) : Go s p zs (.inr (q + 1))
  | done {p q : Nat} {zs : List Int} {z : Int} (h : Seg s p q) (hz : Rz (cutw s p q) z) (hc : (s.getD q 0).toNat = 93) (hq : q + 1 = s.length) : Go s p zs (.inl (zs ++ [z]))
  | next {p q : Nat} {zs : List Int} {z : Int} {r : List Int ⊕ Nat} (h : Seg s p q) (hz : Rz (cutw s p q) z) (hq : q < s.length) (hc : (s.getD q 0).toNat = 32) (hr : Go s (q + 1) (zs ++ [z]) r) : Go s p zs r
inductive Rd0 (s : List UInt8) : List Int ⊕ Nat → Prop
  | no (h : s = [] ∨ (s.getD 0 0).toNat ≠ 91) : Rd0 s (.inr 0)
  | void (h : (s.getD 0 0).toNat = 91) (h1 : (s.getD 1 0).toNat = 93) (h2 : s.length = 2) : Rd0 s (.inl [])
  | tail (h : (s.getD 0 0).toNat = 91) (h1 : (s.getD 1 0).toNat = 93) (h2 : 2 < s.length) : Rd0 s (.inr 2)
  | go (h : (s.getD 0 0).toNat = 91) (h0 : s ≠ []) (h1 : ¬ (1 < s.length ∧ (s.getD 1 0).toNat = 93)) {r : List Int ⊕ Nat} (hr : Go s 1 [] r) : Rd0 s r
end Go.Proofs.YtoojllfijfjmoaaDoor.W

/- Texts of rows: told and read back; the readers of words, by what the plain laws say of a word. No condition. -/
namespace Go.Proofs.YtoojllfijfjmoaaDoor.W
open Go.RowKit Anv Go.Lib
theorem rz_text (z : Int) : Rz (textZ z) z := by
  rcases textZ_cases z with ⟨_, h0, ht, hs⟩ | ⟨_, ht, hs⟩
  · exact .inl ⟨_, ht, ok_textN _ 1 fun _ => h0, by rw [numOf_textN, hs]⟩
  · have h2 := ok_textN z.natAbs 0 (fun e => by cases e)
    have h3 := ok_first h2
    refine .inr ⟨by rw [ht]; omega, by rw [ht]; exact h2, by rw [ht, numOf_textN, hs]⟩
end Go.Proofs.YtoojllfijfjmoaaDoor.W

/- Pairs of ints, the greater and the less of two; block lengths, levels: plain. No condition. -/
namespace Go.Proofs.YtoojllfijfjmoaaDoor.W
open Go.RowKit Anv Go.Lib
theorem bool_em (b : Bool) : b = true ∨ b = false := by cases b <;> simp
def ar2 (a b : Int) (j : Nat) : Int := if j = 0 then a else b
section
variable {N : Nat} {dq : List Deferred} {a : Act} {l : List (Nat × Value)} {w : World} {d : Nat} {ty : TypeId} {pos : String} {af : Array Edge} {gd : Option (Nat × Bool)}
theorem rn_arr2 {P : Program} {T E : TypeId} {x y : Operand} {m n : Int} (h : EnvD dq N a l) (hT : P.underlying T = some (.array 2 E)) (hE : ∃ i, P.info? E = some i ∧ i.size = 1) (hz : ∃ i, P.info? T = some i ∧ i.zero = some (.agg #[.int .i64 0, .int .i64 0])) (hx : evl l x = some (.int .i64 m)) (hy : evl l y = some (.int .i64 n)) :
    (execOp a.eval ⟨some d, .build T #[(0, x), (1, y)], ty, pos, af, gd⟩).run P w = .ok (.value (.agg #[.int .i64 m, .int .i64 n])) w := by
  have hzv : (zeroValue T).run P w = .ok (.agg #[.int .i64 0, .int .i64 0]) w := by obtain ⟨i, hi, hv⟩ := hz; simp [zeroValue, typeInfo, hi, hv]
  simp [execOp, h.ev hx, h.ev hy, Instr.build, hzv, run_underlying hT, Sem.run_bind, run_sizeOf hE, Instr.fill, Value.cells]
theorem rn_idxAr2 {P : Program} {T E : TypeId} {x y : Operand} {m n : Int} {j : Nat} (h : EnvD dq N a l) (hT : P.underlying T = some (.array 2 E)) (hE : TOne P E) (hx : evl l x = some (.agg #[.int .i64 m, .int .i64 n])) (hy : evl l y = some (.int .i64 (j : Nat))) (hj : j < 2) :
    (execOp a.eval ⟨some d, .index T x y, ty, pos, af, gd⟩).run P w = .ok (.value (.int .i64 (ar2 m n j))) w := by
  have hs := run_sizeOf (P := P) (w := w) hE.size
  rcases (show j = 0 ∨ j = 1 by omega) with rfl | rfl
  · simp [execOp, h.ev hx, h.ev hy, Instr.index, asIntOf, run_underlying hT, Sem.run_bind, part, hE.agg, hs, ar2]
  · simp [execOp, h.ev hx, h.ev hy, Instr.index, asIntOf, run_underlying hT, Sem.run_bind, part, hE.agg, hs, ar2]
theorem rn_maxI {P : Program} {x y : Operand} {T T' : Nat} {m n : Int} (h : EnvD dq N a l) (hx : evl l x = some (.int .i64 m)) (hy : evl l y = some (.int .i64 n)) :
    (execOp a.eval ⟨some d, .call ⟨.builtin .max, #[x, y], #[T, T']⟩, ty, pos, af, gd⟩).run P w = .ok (.value (.int .i64 (max m n))) w := by
  have hv := h.ev hx
  have hv' := h.ev hy
  have e : (max m n : Int) = if m < n then n else m := by split <;> omega
  rw [e]
  generalize a.eval = ρ at hv hv' ⊢
  simp [hv, hv', go_sem]
  split <;> omega
theorem rn_maxN {P : Program} {x y : Operand} {T T' : Nat} {m n : Nat} (h : EnvD dq N a l) (hx : evl l x = some (.int .i64 (m : Nat))) (hy : evl l y = some (.int .i64 (n : Nat))) :
    (execOp a.eval ⟨some d, .call ⟨.builtin .max, #[x, y], #[T, T']⟩, ty, pos, af, gd⟩).run P w = .ok (.value (.int .i64 (max m n : Nat))) w := by
  have h1 := rn_maxI (P := P) (d := d) (ty := ty) (pos := pos) (af := af) (gd := gd) (w := w) (T := T) (T' := T') h hx hy
  rwa [show (max (m : Int) (n : Int)) = ((max m n : Nat) : Int) by omega] at h1
end
def RP (n1 n2 k1 k2 : Int) : Prop := 0 ≤ n1 ∧ n1 ≤ 4096 ∧ 0 ≤ n2 ∧ n2 ≤ 4096 ∧ 1 ≤ k1 ∧ k1 ≤ 8 ∧ 1 ≤ k2 ∧ k2 ≤ 8
instance (n1 n2 k1 k2 : Int) : Decidable (RP n1 n2 k1 k2) := by unfold RP; infer_instance
def upN (n k : Nat) : Nat := (n + k - 1) / k
def blkN (n1 n2 k1 k2 : Nat) : Nat := max (upN n1 k1) (upN n2 k2)
def EP (n1 n2 k1 k2 : Nat) (t : Int) : Prop := max t 1 < (min n1 n2 : Nat) ∧ blkN n1 n2 k1 k2 < max n1 n2
instance (n1 n2 k1 k2 : Nat) (t : Int) : Decidable (EP n1 n2 k1 k2 t) := by unfold EP; infer_instance
def depF (k1 k2 : Nat) (t : Int) : Nat → Nat → Nat → Nat
  | 0, _, _ => 0
  | f + 1, n1, n2 => if EP n1 n2 k1 k2 t then depF k1 k2 t f (blkN n1 n2 k1 k2) (blkN n1 n2 k1 k2) + 1 else 0
theorem rp_at {n1 n2 k1 k2 : Int} (h : RP n1 n2 k1 k2) (j : Nat) : (0 ≤ ar2 n1 n2 j ∧ ar2 n1 n2 j ≤ 4096) ∧ (1 ≤ ar2 k1 k2 j ∧ ar2 k1 k2 j ≤ 8) := by
  unfold RP at h
  unfold ar2
  split <;> omega
theorem rp_of {n1 n2 k1 k2 : Int} (h : ∀ i, i < 2 → 0 ≤ ar2 n1 n2 i ∧ ar2 n1 n2 i ≤ 4096) (k : ∀ i, i < 2 → 1 ≤ ar2 k1 k2 i ∧ ar2 k1 k2 i ≤ 8) : RP n1 n2 k1 k2 := by
  have h0 := h 0 (by decide)
  have h1 := h 1 (by decide)
  have g0 := k 0 (by decide)
  have g1 := k 1 (by decide)
  simp [ar2] at h0 h1 g0 g1
  unfold RP
  omega
theorem ar_step {C : Nat → Prop} {j : Nat} (h : ∀ i, i < j → C i) (hj : C j) : ∀ i, i < j + 1 → C i := fun i hi => by
  rcases Nat.lt_or_ge i j with h1 | h1
  · exact h i h1
  · obtain rfl : i = j := by omega
    exact hj
theorem mul_le8 {k m : Nat} (hk : k ≤ 8) (hm : m ≤ 4096) : k * m ≤ 32768 := Nat.mul_le_mul hk hm
end Go.Proofs.YtoojllfijfjmoaaDoor.W

/- Package split: block lengths, levels; the reference's. Printed by pv/gen_sp1.py. No condition. -/
namespace Go.Proofs.YtoojllfijfjmoaaDoor.W
open Go.RowKit Anv Go.Lib
set_option maxRecDepth 100000 in
set_option maxHeartbeats 2000000 in
theorem sp_up {n k : Nat} {w0 : World} (hn : n ≤ 4096) (hk : 1 ≤ k) (hk8 : k ≤ 8) :
    Calls Tryd.prog 41 #[.int .i64 (n : Nat), .int .i64 (k : Nat)] w0 fun e w' => e = .returned (.int .i64 (upN n k : Nat)) ∧ Below w0.heap.size w0 w' := by
  refine enter Tryd.func41 rfl Tryd.ntmps41 rfl ?_
  intro a henv hst
  refine wp_seq ?_
  refine region_seq ?_
  refine sv (v := .int .i64 0) henv rfl (rn_assign henv rfl) ?_
  clear henv a; intro a henv
  refine wpList_nil ?_
  refine th_n ?_
  refine wp_seq ?_
  refine region_seq ?_
  revert a
  refine mA rfl rfl ?_
  refine mA rfl rfl ?_
  refine sA (v := .int .i64 (n + k : Nat)) rfl (fun _ henv => rn_add henv rfl rfl (by rw [IntWalk.i64_in _ (by omega)]; omega)) ?_
  refine sA (v := .int .i64 ((n + k) - 1 : Nat)) rfl (fun _ henv => rn_sub henv rfl rfl (by rw [IntWalk.i64_in _ (by omega)]; omega)) ?_
  refine mA rfl rfl ?_
  refine sA (v := .int .i64 (((n + k) - 1) / k : Nat)) rfl (fun _ henv => rn_quo henv rfl rfl (by omega) (quo_i64 (t := (n + k) - 1) (c := k) (by omega))) ?_
  refine aA rfl rfl ?_
  intro a henv
  refine wpList_nil ?_
  refine th_n ?_
  refine wp_ret ?_
  refine leave henv (res1 Tryd.results41 (RV.tmp henv rfl)) ?_
  exact ⟨rfl, hst.below⟩
set_option maxRecDepth 100000 in
set_option maxHeartbeats 2000000 in
theorem sp_right {n1 n2 k1 k2 : Int} {w0 : World} :
    Calls Tryd.prog 40 #[.int .i64 n1, .int .i64 n2, .int .i64 k1, .int .i64 k2] w0 fun e w' => e = .returned (.bool (decide (RP n1 n2 k1 k2))) ∧ Below w0.heap.size w0 w' := by
  refine enter Tryd.func40 rfl Tryd.ntmps40 rfl ?_
  intro a henv hst
  refine wp_seq ?_
  refine region_seq ?_
  refine sv (v := .bool false) henv rfl (rn_assign henv rfl) ?_
  clear henv a; intro a henv
  refine wpList_nil ?_
  refine th_n ?_
  refine wp_seq ?_
  refine wp_seq ?_
  refine region_seq ?_
  revert a
  refine mA rfl rfl ?_
  refine mA rfl rfl ?_
  refine sA (v := .agg #[.int .i64 n1, .int .i64 n2]) rfl (fun _ henv => rn_arr2 henv Tryd.underlying101 (ty_int.size) zero__2_int rfl rfl) ?_
  refine mA rfl rfl ?_
  intro a henv
  refine wpList_nil ?_
  refine th_n ?_
  refine wp_block ?_
  refine wp_loop_ghost (fun mz a w => ∃ j : Nat, 2 - j = mz ∧ Env 39 a [(2, .int .i64 k1), (3, .int .i64 k2), (15, .agg #[.int .i64 n1, .int .i64 n2]), (16, .int .i64 (j : Nat))] ∧ St w0 w [] [] ∧ j ≤ 2 ∧ ∀ i, i < j → 0 ≤ ar2 n1 n2 i ∧ ar2 n1 n2 i ≤ 4096) _ ⟨0, rfl, henv.sub ⟨rfl, rfl, rfl, rfl, trivial⟩, hst.pick [] [] (by decide), (by decide), (fun i hi => absurd hi (Nat.not_lt_zero _))⟩ ?_
  clear henv hst a
  rintro mz a w51 ⟨j, rfl, henv, hst, hj, hqn1⟩
  refine wp_seq ?_
  refine region_seq ?_
  refine sv (v := .bool (decide (((j : Nat) : Int) < (2 : Int)))) henv rfl (rn_bin henv rfl rfl rfl) ?_
  clear henv a; intro a henv
  refine wpList_nil ?_
  refine th_n ?_
  refine wp_seq ?_
  refine if_split henv rfl (fun hc52 => ?_) (fun hc52 => ?_)
  · have hx53 := of_decide_eq_true hc52
    have hlt : j < 2 := by omega
    refine wp_skip ?_
    refine th_n ?_
    refine wp_seq ?_
    refine wp_block ?_
    refine wp_seq ?_
    refine region_seq ?_
    revert a
    refine sA (v := .int .i64 (ar2 n1 n2 j)) rfl (fun _ henv => rn_idxAr2 (m := n1) (n := n2) (j := j) henv Tryd.underlying101 ty_int rfl rfl (by omega)) ?_
    refine aA rfl rfl ?_
    intro a henv
    refine wpList_nil ?_
    refine th_n ?_
    refine wp_seq ?_
    refine region_seq ?_
    revert a
    refine mA rfl rfl ?_
    refine sA (v := .bool (decide ((ar2 n1 n2 j) < (0 : Int)))) rfl (fun _ henv => rn_bin henv rfl rfl rfl) ?_
    refine mA rfl rfl ?_
    intro a henv
    rcases bool_em (decide ((ar2 n1 n2 j) < (0 : Int))) with hg54 | hg54
    · rw [hg54] at henv
      have hx55 := of_decide_eq_true hg54
      revert a
      refine kA rfl rfl rfl rfl rfl ?_
      refine kA rfl rfl rfl rfl rfl ?_
      refine sA (v := .bool true) rfl (fun _ henv => rn_pick henv rfl rfl) ?_
      intro a henv
      refine wpList_nil ?_
      refine th_n ?_
      refine if_t henv rfl (rfl) ?_
      refine wp_seq ?_
      refine region_seq ?_
      refine sv (v := .bool false) henv rfl (rn_assign henv rfl) ?_
      clear henv a; intro a henv
      refine wpList_nil ?_
      refine th_n ?_
      refine wp_ret ?_
      refine bl_r (th_r (th_r (bl_r (th_r ?_))))
      refine leave henv (res1 Tryd.results40 (RV.tmp henv rfl)) ?_
      exact ⟨by rw [decide_eq_false fun h => by have := rp_at h j; omega], hst.below⟩
    · rw [hg54] at henv
      have hx56 := of_decide_eq_false hg54
      revert a
      refine gA (v := .int .i64 (ar2 n1 n2 j)) rfl rfl rfl rfl (fun _ henv => rn_move henv rfl) ?_
      refine gA (v := .bool (decide ((ar2 n1 n2 j) > (4096 : Int)))) rfl rfl rfl rfl (fun _ henv => rn_bin henv rfl rfl rfl) ?_
      refine sA (v := .bool (decide ((ar2 n1 n2 j) > (4096 : Int)))) rfl (fun _ henv => rn_pick henv rfl rfl) ?_
      intro a henv
      refine wpList_nil ?_
      refine th_n ?_
      refine if_split henv rfl (fun hc57 => ?_) (fun hc57 => ?_)
      · have hx58 := of_decide_eq_true hc57
        refine wp_seq ?_
        refine region_seq ?_
        refine sv (v := .bool false) henv rfl (rn_assign henv rfl) ?_
        clear henv a; intro a henv
        refine wpList_nil ?_
        refine th_n ?_
        refine wp_ret ?_
        refine bl_r (th_r (th_r (bl_r (th_r ?_))))
        refine leave henv (res1 Tryd.results40 (RV.tmp henv rfl)) ?_
        exact ⟨by rw [decide_eq_false fun h => by have := rp_at h j; omega], hst.below⟩
      · have hx59 := of_decide_eq_false hc57
        refine wp_skip ?_
        refine bl_n (th_n ?_)
        refine region_seq ?_
        revert a
        refine sA (v := .int .i64 (j + 1 : Nat)) rfl (fun _ henv => rn_add henv rfl rfl (by rw [IntWalk.i64_in _ (by omega)]; omega)) ?_
        refine mA rfl rfl ?_
        intro a henv
        refine wpList_nil ?_
        exact th_n ⟨_, (by omega), ⟨j + 1, rfl, henv.sub ⟨rfl, rfl, rfl, rfl, trivial⟩, hst.pick [] [] (by decide), (by omega), (ar_step hqn1 (by omega))⟩⟩
  · have hx60 := of_decide_eq_false hc52
    obtain rfl : j = 2 := by omega
    refine wp_exit ?_
    refine th_x (th_x (bl_x (th_n ?_)))
    refine wp_seq ?_
    refine wp_seq ?_
    refine region_seq ?_
    revert a
    refine mA rfl rfl ?_
    refine mA rfl rfl ?_
    refine sA (v := .agg #[.int .i64 k1, .int .i64 k2]) rfl (fun _ henv => rn_arr2 henv Tryd.underlying101 (ty_int.size) zero__2_int rfl rfl) ?_
    refine mA rfl rfl ?_
    intro a henv
    refine wpList_nil ?_
    refine th_n ?_
    refine wp_block ?_
    refine wp_loop_ghost (fun mz a w => ∃ j : Nat, 2 - j = mz ∧ Env 39 a [(28, .agg #[.int .i64 k1, .int .i64 k2]), (29, .int .i64 (j : Nat))] ∧ St w0 w [] [] ∧ j ≤ 2 ∧ ∀ i, i < j → 1 ≤ ar2 k1 k2 i ∧ ar2 k1 k2 i ≤ 8) _ ⟨0, rfl, henv.sub ⟨rfl, rfl, trivial⟩, hst.pick [] [] (by decide), (by decide), (fun i hi => absurd hi (Nat.not_lt_zero _))⟩ ?_
    clear henv hst a
    rintro mz a w61 ⟨j, rfl, henv, hst, hj, hqk1⟩
    refine wp_seq ?_
    refine region_seq ?_
    refine sv (v := .bool (decide (((j : Nat) : Int) < (2 : Int)))) henv rfl (rn_bin henv rfl rfl rfl) ?_
    clear henv a; intro a henv
    refine wpList_nil ?_
    refine th_n ?_
    refine wp_seq ?_
    refine if_split henv rfl (fun hc62 => ?_) (fun hc62 => ?_)
    · have hx63 := of_decide_eq_true hc62
      have hlt : j < 2 := by omega
      refine wp_skip ?_
      refine th_n ?_
      refine wp_seq ?_
      refine wp_block ?_
      refine wp_seq ?_
      refine region_seq ?_
      revert a
      refine sA (v := .int .i64 (ar2 k1 k2 j)) rfl (fun _ henv => rn_idxAr2 (m := k1) (n := k2) (j := j) henv Tryd.underlying101 ty_int rfl rfl (by omega)) ?_
      refine aA rfl rfl ?_
      intro a henv
      refine wpList_nil ?_
      refine th_n ?_
      refine wp_seq ?_
      refine region_seq ?_
      revert a
      refine mA rfl rfl ?_
      refine sA (v := .bool (decide ((ar2 k1 k2 j) < (1 : Int)))) rfl (fun _ henv => rn_bin henv rfl rfl rfl) ?_
      refine mA rfl rfl ?_
      intro a henv
      rcases bool_em (decide ((ar2 k1 k2 j) < (1 : Int))) with hg64 | hg64
      · rw [hg64] at henv
        have hx65 := of_decide_eq_true hg64
        revert a
        refine kA rfl rfl rfl rfl rfl ?_
        refine kA rfl rfl rfl rfl rfl ?_
        refine sA (v := .bool true) rfl (fun _ henv => rn_pick henv rfl rfl) ?_
        intro a henv
        refine wpList_nil ?_
        refine th_n ?_
        refine if_t henv rfl (rfl) ?_
        refine wp_seq ?_
        refine region_seq ?_
        refine sv (v := .bool false) henv rfl (rn_assign henv rfl) ?_
        clear henv a; intro a henv
        refine wpList_nil ?_
        refine th_n ?_
        refine wp_ret ?_
        refine bl_r (th_r (th_r (bl_r (th_r ?_))))
        refine leave henv (res1 Tryd.results40 (RV.tmp henv rfl)) ?_
        exact ⟨by rw [decide_eq_false fun h => by have := rp_at h j; omega], hst.below⟩
      · rw [hg64] at henv
        have hx66 := of_decide_eq_false hg64
        revert a
        refine gA (v := .int .i64 (ar2 k1 k2 j)) rfl rfl rfl rfl (fun _ henv => rn_move henv rfl) ?_
        refine gA (v := .bool (decide ((ar2 k1 k2 j) > (8 : Int)))) rfl rfl rfl rfl (fun _ henv => rn_bin henv rfl rfl rfl) ?_
        refine sA (v := .bool (decide ((ar2 k1 k2 j) > (8 : Int)))) rfl (fun _ henv => rn_pick henv rfl rfl) ?_
        intro a henv
        refine wpList_nil ?_
        refine th_n ?_
        refine if_split henv rfl (fun hc67 => ?_) (fun hc67 => ?_)
        · have hx68 := of_decide_eq_true hc67
          refine wp_seq ?_
          refine region_seq ?_
          refine sv (v := .bool false) henv rfl (rn_assign henv rfl) ?_
          clear henv a; intro a henv
          refine wpList_nil ?_
          refine th_n ?_
          refine wp_ret ?_
          refine bl_r (th_r (th_r (bl_r (th_r ?_))))
          refine leave henv (res1 Tryd.results40 (RV.tmp henv rfl)) ?_
          exact ⟨by rw [decide_eq_false fun h => by have := rp_at h j; omega], hst.below⟩
        · have hx69 := of_decide_eq_false hc67
          refine wp_skip ?_
          refine bl_n (th_n ?_)
          refine region_seq ?_
          revert a
          refine sA (v := .int .i64 (j + 1 : Nat)) rfl (fun _ henv => rn_add henv rfl rfl (by rw [IntWalk.i64_in _ (by omega)]; omega)) ?_
          refine mA rfl rfl ?_
          intro a henv
          refine wpList_nil ?_
          exact th_n ⟨_, (by omega), ⟨j + 1, rfl, henv.sub ⟨rfl, rfl, trivial⟩, hst.pick [] [] (by decide), (by omega), (ar_step hqk1 (by omega))⟩⟩
    · have hx70 := of_decide_eq_false hc62
      obtain rfl : j = 2 := by omega
      refine wp_exit ?_
      refine th_x (th_x (bl_x (th_n ?_)))
      refine wp_seq ?_
      refine region_seq ?_
      refine sv (v := .bool true) henv rfl (rn_assign henv rfl) ?_
      clear henv a; intro a henv
      refine wpList_nil ?_
      refine th_n ?_
      refine wp_ret ?_
      refine leave henv (res1 Tryd.results40 (RV.tmp henv rfl)) ?_
      exact ⟨by rw [decide_eq_true (rp_of hqn1 hqk1)], hst.below⟩
set_option maxRecDepth 100000 in
set_option maxHeartbeats 2000000 in
theorem sp_block {n1 n2 k1 k2 : Nat} {w0 : World} (h1 : n1 ≤ 4096) (h2 : n2 ≤ 4096) (g1 : 1 ≤ k1) (g2 : 1 ≤ k2) (f1 : k1 ≤ 8) (f2 : k2 ≤ 8) :
    Calls Tryd.prog 20 #[.int .i64 (n1 : Nat), .int .i64 (n2 : Nat), .int .i64 (k1 : Nat), .int .i64 (k2 : Nat)] w0 fun e w' => e = .returned (.tuple #[.int .i64 (blkN n1 n2 k1 k2 : Nat), .int .i64 0]) ∧ Below w0.heap.size w0 w' := by
  refine enter Tryd.func20 rfl Tryd.ntmps20 rfl ?_
  intro a henv hst
  refine wp_seq ?_
  refine region_seq ?_
  revert a
  refine aA rfl rfl ?_
  refine aA rfl rfl ?_
  intro a henv
  refine wpList_nil ?_
  refine th_n ?_
  refine wp_seq ?_
  refine wp_seq ?_
  refine region_seq ?_
  revert a
  refine mA rfl rfl ?_
  refine mA rfl rfl ?_
  refine mA rfl rfl ?_
  refine mA rfl rfl ?_
  intro a henv
  refine seq_step rfl (op_call henv rfl Tryd.call40 rfl (sp_right (n1 := ((n1 : Nat) : Int)) (n2 := ((n2 : Nat) : Int)) (k1 := ((k1 : Nat) : Int)) (k2 := ((k2 : Nat) : Int))) ?_)
  rintro e w51 ⟨rfl, hb⟩
  refine ⟨_, rfl, ?_⟩
  clear henv a; intro a henv
  replace hst := hst.call hb
  clear hb
  rw [show (decide (RP ((n1 : Nat) : Int) ((n2 : Nat) : Int) ((k1 : Nat) : Int) ((k2 : Nat) : Int))) = true from (decide_eq_true (show RP n1 n2 k1 k2 by unfold RP; omega))] at henv
  refine sv (v := .bool false) henv rfl (rn_un henv rfl rfl) ?_
  clear henv a; intro a henv
  refine wpList_nil ?_
  refine th_n ?_
  refine if_f henv rfl (rfl) ?_
  refine wp_skip ?_
  refine th_n ?_
  refine wp_seq ?_
  refine region_seq ?_
  revert a
  refine mA rfl rfl ?_
  refine mA rfl rfl ?_
  intro a henv
  refine seq_step rfl (op_call henv rfl Tryd.call41 rfl (sp_up (n := n1) (k := k1) (by omega) (by omega) (by omega)) ?_)
  rintro e w52 ⟨rfl, hb⟩
  refine ⟨_, rfl, ?_⟩
  clear henv a; intro a henv
  replace hst := hst.call hb
  clear hb
  revert a
  refine mA rfl rfl ?_
  refine mA rfl rfl ?_
  intro a henv
  refine seq_step rfl (op_call henv rfl Tryd.call41 rfl (sp_up (n := n2) (k := k2) (by omega) (by omega) (by omega)) ?_)
  rintro e w53 ⟨rfl, hb⟩
  refine ⟨_, rfl, ?_⟩
  clear henv a; intro a henv
  replace hst := hst.call hb
  clear hb
  revert a
  refine sA (v := .int .i64 (max (upN n1 k1) (upN n2 k2) : Nat)) rfl (fun _ henv => rn_maxN (m := upN n1 k1) (n := upN n2 k2) henv rfl rfl) ?_
  refine aA rfl rfl ?_
  refine aA rfl rfl ?_
  intro a henv
  refine wpList_nil ?_
  refine th_n ?_
  refine wp_ret ?_
  refine leave henv (res2 Tryd.results20 (RV.tmp henv rfl) (RV.tmp henv rfl)) ?_
  exact ⟨rfl, hst.below⟩
end Go.Proofs.YtoojllfijfjmoaaDoor.W

/- The laws' long. Printed by pv/gen_row4.py. No condition. -/
namespace Go.Proofs.YtoojllfijfjmoaaDoor.W
open Go.RowKit Anv Go.Lib
abbrev VE := Option Addr × Nat × Nat × List UE
def fV (v : VE) : List Value := [.slice v.1 v.2.1 v.2.2.1]
def FV (v : VE) : PF := pfRow fU FU 2 v.1 v.2.1 v.2.2.1 v.2.2.2
def tl (us : List UE) : Nat := (us.map fun e => e.2.2.1).sum
def tv (vs : List VE) : Nat := (vs.map fun v => v.2.1 + tl v.2.2.2).sum
def vz (e : UE) : Int := sg e.1 (val 4294967296 e.2.2.2.2)
end Go.Proofs.YtoojllfijfjmoaaDoor.W

/- row.Cmp, Same; the reference's Cmp, Same, IsZero. Printed by pv/gen_row5.py. No condition. -/
namespace Go.Proofs.YtoojllfijfjmoaaDoor.W
open Go.RowKit Anv Go.Lib
def lexc : List Int → List Int → Int
  | x :: xs, y :: ys => if (x - y).sign = 0 then lexc xs ys else (x - y).sign
  | _, _ => 0
def cmpR (xs ys : List Int) : Int := if xs.length < ys.length then -1 else if ys.length < xs.length then 1 else lexc xs ys
end Go.Proofs.YtoojllfijfjmoaaDoor.W

/- row.Widest, anvilref04.Widest. Printed by pv/gen_row6.py. No condition. -/
namespace Go.Proofs.YtoojllfijfjmoaaDoor.W
open Go.RowKit Anv Go.Lib
def wid (zs : List Int) : Int := zs.foldl (fun w z => if w < (z.natAbs : Int) then (z.natAbs : Int) else w) 0
end Go.Proofs.YtoojllfijfjmoaaDoor.W

/- What the law RowHolds needs, with no program in sight but the shape of the memory. No condition. -/
namespace Go.Proofs.YtoojllfijfjmoaaDoor.W
open Go.RowKit Anv Go.Lib
theorem tl_mem {us : List UE} {e : UE} (h : e ∈ us) : e.2.2.1 ≤ tl us := by
  induction us with
  | nil => cases h
  | cons x us ih =>
    unfold tl at *
    rw [List.map_cons, List.sum_cons]
    rcases List.mem_cons.1 h with rfl | h
    · omega
    · have := ih h; omega
end Go.Proofs.YtoojllfijfjmoaaDoor.W

/- What the laws of rows need of the memory: rows of rows written out, numbers written out, sizes. No program but the shape of the memory. No condition. -/
namespace Go.Proofs.YtoojllfijfjmoaaDoor.W
open Go.RowKit Anv Go.Lib
theorem zl_vze {w : World} {b : Bool} {A : Option Addr} {n c k : Nat} {xs : List Nat} (h : U32 w A n c xs) (hn : n ≤ k) : zl (sg b (val 4294967296 xs)) ≤ k := by
  have h2 := nl_val h
  have e : zl (sg b (val 4294967296 xs)) = nl (val 4294967296 xs) := by
    unfold sg zl
    split
    · rw [Int.natAbs_neg, Int.natAbs_natCast]
    · rw [Int.natAbs_natCast]
  omega
def Zk (k : Nat) (zs : List Int) : Prop := ∀ z ∈ zs, zl z ≤ k
theorem Zk.es {k : Nat} {es : List NE} {zs : List Int} (h : Zk k zs) (e : es.map zz = zs) : ZB k es := fun x hx => h (zz x) (e ▸ List.mem_map_of_mem hx)
theorem Zk.mono {k m : Nat} {zs : List Int} (h : Zk k zs) (hm : k ≤ m) : Zk m zs := fun z hz => Nat.le_trans (h z hz) hm
theorem Zk.map {k m : Nat} {zs : List Int} {f : Int → Int} (h : Zk k zs) (hf : ∀ z, zl z ≤ k → zl (f z) ≤ m) : Zk m (zs.map f) := fun x hx => by
  obtain ⟨z, hz, rfl⟩ := List.mem_map.1 hx
  exact hf z (h z hz)
theorem mem_zipWith {f : Int → Int → Int} {x : Int} : ∀ {xs ys : List Int}, x ∈ List.zipWith f xs ys → ∃ a ∈ xs, ∃ b ∈ ys, x = f a b
  | [], _, h => by simp at h
  | _ :: _, [], h => by simp at h
  | a :: xs, b :: ys, h => by
    rw [List.zipWith_cons_cons] at h
    rcases List.mem_cons.1 h with rfl | h
    · exact ⟨a, List.mem_cons_self .., b, List.mem_cons_self .., rfl⟩
    · obtain ⟨a, ha, b, hb, e⟩ := mem_zipWith h
      exact ⟨a, List.mem_cons_of_mem _ ha, b, List.mem_cons_of_mem _ hb, e⟩
theorem Zk.zip {k j m : Nat} {xs ys : List Int} {f : Int → Int → Int} (h : Zk k xs) (g : Zk j ys) (hf : ∀ x y, zl x ≤ k → zl y ≤ j → zl (f x y) ≤ m) : Zk m (List.zipWith f xs ys) := fun x hx => by
  obtain ⟨a, ha, b, hb, rfl⟩ := mem_zipWith hx
  exact hf a b (h a ha) (g b hb)
theorem Zk.vz {es : List UE} {k : Nat} {w : World} (h : (pfEs FU es).P w) (ht : tl es ≤ k) : Zk k (es.map vz) := by
  intro z hz
  obtain ⟨e, he, rfl⟩ := List.mem_map.1 hz
  have h1 : U32 w e.2.1 e.2.2.1 e.2.2.2.1 e.2.2.2.2 := h e he
  exact zl_vze h1 (Nat.le_trans (tl_mem he) ht)
theorem Zk.prim {k : Nat} {zs : List Int} (h : Zk k zs) : Zk k (prim zs) := h.map fun _ hz => Nat.le_trans (zl_ediv _ _) hz
theorem Zk.take {k : Nat} {zs : List Int} (h : Zk k zs) (j : Nat) : Zk k (zs.take j) := fun z hz => h z (List.mem_of_mem_take hz)
end Go.Proofs.YtoojllfijfjmoaaDoor.W

/- Rows handed as written numbers, compared; split.Parts, poly.Degree, split.Join. Printed by pv/gen_sp2.py. No condition. -/
namespace Go.Proofs.YtoojllfijfjmoaaDoor.W
open Go.RowKit Anv Go.Lib
theorem zts {es : List NE} {xs : List Int} {j : Nat} {A : Option Addr} {c : Nat} {z : Int} (hz : es.map zz = xs) (he : es[j]? = some (A, c, z)) : xs.take (j + 1) = xs.take j ++ [z] :=
  take_one (by rw [← hz, List.getElem?_map, he]; rfl)
theorem tz_inj {x y : Int} (h : textZ x = textZ y) : x = y := rz_eq (rz_text x) (h ▸ rz_text y)
theorem tz_iff {x y : Int} : textZ x = textZ y ↔ x = y := ⟨tz_inj, fun h => h ▸ rfl⟩
theorem eq_full {es fs : List NE} {xs ys : List Int} {n m : Nat} (h : es.map zz = xs) (hl : es.length = n) (k : fs.map zz = ys) (kl : fs.length = m) (hn : n = m) (he : xs.take n = ys.take n) : xs = ys := by
  rw [List.take_of_length_le (by rw [← h, List.length_map]; omega), List.take_of_length_le (by rw [← k, List.length_map]; omega)] at he
  exact he
theorem eq_ne {es fs : List NE} {xs ys : List Int} {n m : Nat} (h : es.map zz = xs) (hl : es.length = n) (k : fs.map zz = ys) (kl : fs.length = m) (hn : n ≠ m) : xs ≠ ys := fun e => hn (by
  have := congrArg List.length e
  rw [← h, ← k, List.length_map, List.length_map] at this
  omega)
theorem eq_at {es fs : List NE} {xs ys : List Int} {j : Nat} {A B : Option Addr} {c d : Nat} {x y : Int} (h : es.map zz = xs) (k : fs.map zz = ys) (he : es[j]? = some (A, c, x)) (hf : fs[j]? = some (B, d, y)) (hxy : ¬ x = y) : xs ≠ ys := by
  rintro rfl
  have h1 : xs[j]? = some x := by rw [← h, List.getElem?_map, he]; rfl
  have h2 : xs[j]? = some y := by rw [← k, List.getElem?_map, hf]; rfl
  rw [h1] at h2
  exact hxy (Option.some.inj h2)
set_option maxRecDepth 100000 in
set_option maxHeartbeats 2000000 in
theorem l_list {A0 : Option Addr} {n0 c0 : Nat} {es0 : List Int} {w0 : World} (h0 : (pfRow fI FI 1 A0 n0 c0 es0).P w0) (hI : I64 es0) (hn : n0 ≤ 100000000) :
    Calls Tryd.prog 11 #[.slice A0 n0 c0] w0 fun e w' => ∃ v, e = .returned v ∧ ZRow w0.heap.size w' v n0 es0 ∧ Below w0.heap.size w0 w' := by
  refine enter Tryd.func11 rfl Tryd.ntmps11 rfl ?_
  intro a henv hst
  have hlen0 := h0.2.1
  have hbig0 := Nat.le_trans h0.1.cap h0.1.big
  unfold maxLen at hbig0
  replace hst := hst.argRow h0
  clear h0
  refine wp_seq ?_
  refine region_seq ?_
  refine sv (v := .slice none 0 0) henv rfl (rn_assign henv rfl) ?_
  clear henv a; intro a henv
  refine wpList_nil ?_
  refine th_n ?_
  refine wp_seq ?_
  refine region_seq ?_
  refine sv (v := .slice none 0 0) henv rfl (rn_assign henv rfl) ?_
  clear henv a; intro a henv
  refine wpList_nil ?_
  refine th_n ?_
  refine wp_seq ?_
  refine wp_seq ?_
  refine region_seq ?_
  revert a
  refine mA rfl rfl ?_
  refine sA (v := .int .i64 (n0 : Nat)) rfl (fun _ henv => rn_len henv Tryd.underlying22 rfl) ?_
  refine mA rfl rfl ?_
  intro a henv
  refine wpList_nil ?_
  refine th_n ?_
  refine wp_block ?_
  replace hst := (hst.addRowS notU 39 2).nilEs FN
  replace hst : St w0 _ [rowS notU 39 2 none 0 0 (fl fN ([]))] [pfEs FN ([]), pfRow fI FI 1 A0 n0 c0 es0] := hst
  refine wp_loop_ghost (fun mz a w => ∃ j : Nat, ∃ B : Option Addr, ∃ d : Nat, ∃ os : List NE, n0 - j = mz ∧ Env 19 a [(6, .slice A0 n0 c0), (7, .int .i64 (n0 : Nat)), (8, .int .i64 (j : Nat)), (3, .slice B j d)] ∧ St w0 w [rowS notU 39 2 B j d (fl fN os)] [pfRow fI FI 1 A0 n0 c0 es0, pfEs FN os] ∧ j ≤ n0 ∧ os.map zz = es0.take j) _ ⟨0, none, 0, [], rfl, henv.sub ⟨rfl, rfl, rfl, rfl, trivial⟩, hst.pick [0] [1, 0] (by decide), (Nat.zero_le _), rfl⟩ ?_
  clear henv hst a
  rintro mz a w51 ⟨j, B, d, os, rfl, henv, hst, hj, ho⟩
  refine wp_seq ?_
  refine region_seq ?_
  refine sv (v := .bool (decide (((j : Nat) : Int) < ((n0 : Nat) : Int)))) henv rfl (rn_bin henv rfl rfl rfl) ?_
  clear henv a; intro a henv
  refine wpList_nil ?_
  refine th_n ?_
  refine wp_seq ?_
  refine if_split henv rfl (fun hc52 => ?_) (fun hc52 => ?_)
  · have hlt : j < n0 := by have := of_decide_eq_true hc52; omega
    obtain ⟨x, he0⟩ : ∃ x, es0[j]? = some x := ⟨_, List.getElem?_eq_getElem (by omega)⟩
    have hx := hI.at he0
    refine wp_skip ?_
    refine th_n ?_
    refine wp_seq ?_
    refine wp_block ?_
    refine wp_seq ?_
    refine region_seq ?_
    revert a
    refine sA (v := .pointer (some ⟨ab A0, ao A0 + j * 1, none⟩)) rfl (fun _ henv => rn_idxR (i := j) henv Tryd.underlying22 (ty_int64.size) rfl rfl (by omega) rfl (show (pfRow fI FI 1 A0 n0 c0 es0).P _ from (hst.pat (k := 0) rfl)).1) ?_
    refine sA (v := .int .i64 x) rfl (fun _ henv => rn_loadE1 (i := j) (j := 0) (e := x) henv ty_int64 rfl rfl fI_len (by decide) (show (pfRow fI FI 1 A0 n0 c0 es0).P _ from (hst.pat (k := 0) rfl)).1 (by omega) he0 rfl) ?_
    refine aA rfl rfl ?_
    intro a henv
    refine wpList_nil ?_
    refine th_n ?_
    refine region_seq ?_
    revert a
    refine mA rfl rfl ?_
    refine mA rfl rfl ?_
    intro a henv
    refine seq_step rfl (op_call henv rfl Tryd.call17 rfl (of_z (n := x) (by omega) (by omega)) ?_)
    rintro e w56 ⟨_, rfl, ⟨A53, c54, rfl, hz55⟩, hb⟩
    refine ⟨_, rfl, ?_⟩
    clear henv a; intro a henv
    replace hst := (hst.call hb).addZ hz55 ⟨nou_rowS, trivial⟩
    clear hz55
    clear hb
    refine seq_step rfl (op_buildSlice (z := 2) (pv := #[(0, .agg #[.bool (neg x), .slice A53 (zl x) c54])]) (c := #[.bool (neg x), .slice A53 (zl x) c54]) henv hst rfl Tryd.underlying24 (ty_anvil_integer_Int.size) zero_anvil_integer_Int (by decide) (by decide) rfl (by kernel_rfl) ?_)
    clear henv hst a; intro a w58 g57 henv hst
    refine seq_step rfl (op_appendS (k := 1) (j := 0) henv hst rfl Tryd.underlying24 inf_anvil_integer_Int rfl rfl rfl rfl rfl rfl rfl rfl rfl rfl rfl (by unfold maxLen; omega) (by omega) ?_)
    clear henv hst a; intro a w61 g59 c60 henv hst
    rw [show fl fN os ++ (#[.bool (neg x), .slice A53 (zl x) c54] : Array Value).toList = fl fN (os ++ [(A53, c54, x)]) from fl_snoc (f := fN) os (A53, c54, x)] at hst
    replace hst := hst.snocEs (e := (A53, c54, x)) (i := 2) (j := 0) rfl rfl
    refine sv (v := .slice (some ⟨g59, 0, none⟩) (j + 1) c60) henv rfl (rn_assign henv rfl) ?_
    clear henv a; intro a henv
    refine wpList_nil ?_
    refine bl_n (th_n ?_)
    refine region_seq ?_
    revert a
    refine sA (v := .int .i64 (j + 1 : Nat)) rfl (fun _ henv => rn_add henv rfl rfl (by rw [IntWalk.i64_in _ (by omega)]; omega)) ?_
    refine mA rfl rfl ?_
    intro a henv
    refine wpList_nil ?_
    exact th_n ⟨_, (by omega), ⟨j + 1, (some ⟨g59, 0, none⟩), c60, (os ++ [(A53, c54, x)]), rfl, henv.sub ⟨rfl, rfl, rfl, rfl, trivial⟩, hst.pick [1] [2, 0] (by decide), (by omega), (step_ints ho he0)⟩⟩
  · obtain rfl : j = n0 := by have := of_decide_eq_false hc52; omega
    refine wp_exit ?_
    refine th_x (th_x (bl_x (th_n ?_)))
    refine wp_seq ?_
    refine region_seq ?_
    revert a
    refine mA rfl rfl ?_
    refine aA rfl rfl ?_
    intro a henv
    refine wpList_nil ?_
    refine th_n ?_
    refine wp_ret ?_
    refine leave henv (res1 Tryd.results11 (RV.tmp henv rfl)) ?_
    exact ⟨_, rfl, ⟨_, _, os, rfl, hst.newRow (k := 0) (j := 1) rfl rfl, map_len ho (by rw [List.length_take]; omega), (ho.trans (List.take_of_length_le (by omega)))⟩, hst.below⟩
set_option maxRecDepth 100000 in
set_option maxHeartbeats 2000000 in
theorem l_ref {A0 : Option Addr} {n0 c0 : Nat} {es0 : List Int} {w0 : World} (h0 : (pfRow fI FI 1 A0 n0 c0 es0).P w0) (hI : I64 es0) (hn : n0 ≤ 100000000) :
    Calls Tryd.prog 15 #[.slice A0 n0 c0] w0 fun e w' => ∃ v, e = .returned v ∧ MRow w0.heap.size w' v n0 es0 ∧ Below w0.heap.size w0 w' := by
  refine enter Tryd.func15 rfl Tryd.ntmps15 rfl ?_
  intro a henv hst
  have hlen0 := h0.2.1
  have hbig0 := Nat.le_trans h0.1.cap h0.1.big
  unfold maxLen at hbig0
  replace hst := hst.argRow h0
  clear h0
  refine wp_seq ?_
  refine region_seq ?_
  refine sv (v := .slice none 0 0) henv rfl (rn_assign henv rfl) ?_
  clear henv a; intro a henv
  refine wpList_nil ?_
  refine th_n ?_
  refine wp_seq ?_
  refine region_seq ?_
  refine sv (v := .slice none 0 0) henv rfl (rn_assign henv rfl) ?_
  clear henv a; intro a henv
  refine wpList_nil ?_
  refine th_n ?_
  refine wp_seq ?_
  refine wp_seq ?_
  refine region_seq ?_
  revert a
  refine mA rfl rfl ?_
  refine sA (v := .int .i64 (n0 : Nat)) rfl (fun _ henv => rn_len henv Tryd.underlying22 rfl) ?_
  refine mA rfl rfl ?_
  intro a henv
  refine wpList_nil ?_
  refine th_n ?_
  refine wp_block ?_
  replace hst := (hst.addRowS notU 68 2).nilEs FM
  replace hst : St w0 _ [rowS notU 68 2 none 0 0 (fl fM ([]))] [pfEs FM ([]), pfRow fI FI 1 A0 n0 c0 es0] := hst
  refine wp_loop_ghost (fun mz a w => ∃ j : Nat, ∃ B : Option Addr, ∃ d : Nat, ∃ os : List NE, n0 - j = mz ∧ Env 19 a [(6, .slice A0 n0 c0), (7, .int .i64 (n0 : Nat)), (8, .int .i64 (j : Nat)), (3, .slice B j d)] ∧ St w0 w [rowS notU 68 2 B j d (fl fM os)] [pfRow fI FI 1 A0 n0 c0 es0, pfEs FM os] ∧ j ≤ n0 ∧ os.map zz = es0.take j) _ ⟨0, none, 0, [], rfl, henv.sub ⟨rfl, rfl, rfl, rfl, trivial⟩, hst.pick [0] [1, 0] (by decide), (Nat.zero_le _), rfl⟩ ?_
  clear henv hst a
  rintro mz a w51 ⟨j, B, d, os, rfl, henv, hst, hj, ho⟩
  refine wp_seq ?_
  refine region_seq ?_
  refine sv (v := .bool (decide (((j : Nat) : Int) < ((n0 : Nat) : Int)))) henv rfl (rn_bin henv rfl rfl rfl) ?_
  clear henv a; intro a henv
  refine wpList_nil ?_
  refine th_n ?_
  refine wp_seq ?_
  refine if_split henv rfl (fun hc52 => ?_) (fun hc52 => ?_)
  · have hlt : j < n0 := by have := of_decide_eq_true hc52; omega
    obtain ⟨x, he0⟩ : ∃ x, es0[j]? = some x := ⟨_, List.getElem?_eq_getElem (by omega)⟩
    have hx := hI.at he0
    refine wp_skip ?_
    refine th_n ?_
    refine wp_seq ?_
    refine wp_block ?_
    refine wp_seq ?_
    refine region_seq ?_
    revert a
    refine sA (v := .pointer (some ⟨ab A0, ao A0 + j * 1, none⟩)) rfl (fun _ henv => rn_idxR (i := j) henv Tryd.underlying22 (ty_int64.size) rfl rfl (by omega) rfl (show (pfRow fI FI 1 A0 n0 c0 es0).P _ from (hst.pat (k := 0) rfl)).1) ?_
    refine sA (v := .int .i64 x) rfl (fun _ henv => rn_loadE1 (i := j) (j := 0) (e := x) henv ty_int64 rfl rfl fI_len (by decide) (show (pfRow fI FI 1 A0 n0 c0 es0).P _ from (hst.pat (k := 0) rfl)).1 (by omega) he0 rfl) ?_
    refine aA rfl rfl ?_
    intro a henv
    refine wpList_nil ?_
    refine th_n ?_
    refine region_seq ?_
    revert a
    refine mA rfl rfl ?_
    refine mA rfl rfl ?_
    intro a henv
    refine seq_step rfl (op_call henv rfl Tryd.call30 rfl (of_r (n := x) (by omega) (by omega)) ?_)
    rintro e w56 ⟨_, rfl, ⟨A53, c54, rfl, hz55⟩, hb⟩
    refine ⟨_, rfl, ?_⟩
    clear henv a; intro a henv
    replace hst := (hst.call hb).addR hz55 ⟨nou_rowS, trivial⟩
    clear hz55
    clear hb
    refine seq_step rfl (op_buildSlice (z := 2) (pv := #[(0, .agg #[.bool (neg x), .slice A53 (dl x) c54])]) (c := #[.bool (neg x), .slice A53 (dl x) c54]) henv hst rfl Tryd.underlying33 (ty_anvil_anvilref02_Int.size) zero_anvil_anvilref02_Int (by decide) (by decide) rfl (by kernel_rfl) ?_)
    clear henv hst a; intro a w58 g57 henv hst
    refine seq_step rfl (op_appendS (k := 1) (j := 0) henv hst rfl Tryd.underlying33 inf_anvil_anvilref02_Int rfl rfl rfl rfl rfl rfl rfl rfl rfl rfl rfl (by unfold maxLen; omega) (by omega) ?_)
    clear henv hst a; intro a w61 g59 c60 henv hst
    rw [show fl fM os ++ (#[.bool (neg x), .slice A53 (dl x) c54] : Array Value).toList = fl fM (os ++ [(A53, c54, x)]) from fl_snoc (f := fM) os (A53, c54, x)] at hst
    replace hst := hst.snocEs (e := (A53, c54, x)) (i := 2) (j := 0) rfl rfl
    refine sv (v := .slice (some ⟨g59, 0, none⟩) (j + 1) c60) henv rfl (rn_assign henv rfl) ?_
    clear henv a; intro a henv
    refine wpList_nil ?_
    refine bl_n (th_n ?_)
    refine region_seq ?_
    revert a
    refine sA (v := .int .i64 (j + 1 : Nat)) rfl (fun _ henv => rn_add henv rfl rfl (by rw [IntWalk.i64_in _ (by omega)]; omega)) ?_
    refine mA rfl rfl ?_
    intro a henv
    refine wpList_nil ?_
    exact th_n ⟨_, (by omega), ⟨j + 1, (some ⟨g59, 0, none⟩), c60, (os ++ [(A53, c54, x)]), rfl, henv.sub ⟨rfl, rfl, rfl, rfl, trivial⟩, hst.pick [1] [2, 0] (by decide), (by omega), (step_ints ho he0)⟩⟩
  · obtain rfl : j = n0 := by have := of_decide_eq_false hc52; omega
    refine wp_exit ?_
    refine th_x (th_x (bl_x (th_n ?_)))
    refine wp_seq ?_
    refine region_seq ?_
    revert a
    refine mA rfl rfl ?_
    refine aA rfl rfl ?_
    intro a henv
    refine wpList_nil ?_
    refine th_n ?_
    refine wp_ret ?_
    refine leave henv (res1 Tryd.results15 (RV.tmp henv rfl)) ?_
    exact ⟨_, rfl, ⟨_, _, os, rfl, hst.newRow (k := 0) (j := 1) rfl rfl, map_len ho (by rw [List.length_take]; omega), (ho.trans (List.take_of_length_le (by omega)))⟩, hst.below⟩
set_option maxRecDepth 100000 in
set_option maxHeartbeats 2000000 in
theorem is_one {A B : Option Addr} {c d : Nat} {x y : Int} {w0 : World} (hx : ZIn w0 A c x) (hy : RIn w0 B d y) (hn : zl x ≤ 20000) (hm : dl y ≤ 60000) :
    Calls Tryd.prog 32 #[.agg #[.bool (neg x), .slice A (zl x) c], .agg #[.bool (neg y), .slice B (dl y) d]] w0 fun e w' => e = .returned (.bool (decide (x = y))) ∧ Below w0.heap.size w0 w' := by
  refine enter Tryd.func32 rfl Tryd.ntmps32 rfl ?_
  intro a henv hst
  replace hst := (hst.addZ hx trivial).addR hy trivial
  clear hx hy
  refine wp_seq ?_
  refine region_seq ?_
  refine seq_step rfl (op_box (c := #[.bool (neg x), .slice A (zl x) c]) henv hst rfl rfl rfl ?_)
  clear henv hst a; intro a w52 g51 henv hst
  refine seq_step rfl (op_box (c := #[.bool (neg y), .slice B (dl y) d]) henv hst rfl rfl rfl ?_)
  clear henv hst a; intro a w54 g53 henv hst
  refine sv (v := .bool false) henv rfl (rn_assign henv rfl) ?_
  clear henv a; intro a henv
  refine wpList_nil ?_
  refine th_n ?_
  refine wp_seq ?_
  refine region_any (n := 6) (Sk [bk g53 #[.bool (neg y), .slice B (dl y) d] 68, bk g51 #[.bool (neg x), .slice A (zl x) c] 39] [pfR B d y, pfZ A c x] [] []) mixed rfl henv hst ?_
  clear henv hst; intro w55 henv hst
  refine tL (i := 0) 1 1 [1, 3, 4, 5] rfl (by kernel_rfl) (fun _ _ _ h => h) henv rfl ty_anvil_integer_Int rfl hst rfl rfl rfl ?_
  clear henv a; intro a henv
  refine tL (i := 2) 0 0 [3, 4, 5] rfl (by kernel_rfl) (fun _ _ _ h => h) henv rfl ty_anvil_anvilref02_Int rfl hst rfl rfl rfl ?_
  clear henv a; intro a henv
  refine sAny_one (i := 1) (by kernel_rfl) rfl rfl (op_call henv rfl Tryd.call33 rfl (text_z (z := x) (show ZIn _ A c x from hst.pat (k := 1) rfl) (by omega)) ?_)
  rintro e w56 ⟨rfl, hb⟩
  refine ⟨_, rfl, ?_⟩
  clear henv a; intro a henv
  replace hst := hst.call hb
  clear hb
  refine ⟨.inr ⟨hst.kn.pick [0, 1] [0, 1], .inr (hst.kn.pick [] [])⟩, ?_⟩
  refine sAny_one (i := 3) (by kernel_rfl) rfl rfl (op_call henv rfl Tryd.call34 rfl (text_r (z := y) (show RIn _ B d y from hst.pat (k := 0) rfl) (by omega)) ?_)
  rintro e w57 ⟨rfl, hb⟩
  refine ⟨_, rfl, ?_⟩
  clear henv a; intro a henv
  replace hst := hst.call hb
  clear hb
  refine ⟨.inr ⟨hst.kn.pick [0, 1] [0, 1], .inr (hst.kn.pick [] [])⟩, ?_⟩
  refine tA (i := 4) [5] (v := .bool (decide ((textZ x) = (textZ y)))) rfl (by kernel_rfl) (fun _ _ _ h => h) henv rfl (fun _ => rn_eqls (s := (textZ x)) (t := (textZ y)) henv rfl rfl) ?_
  clear henv a; intro a henv
  refine tA (i := 5) [] (v := .bool (decide ((textZ x) = (textZ y)))) rfl (by kernel_rfl) (fun _ _ _ h => h) henv rfl (fun _ => rn_assign henv rfl) ?_
  clear henv a; intro a henv
  refine sAny_done (by kernel_rfl) ?_ _
  refine th_n ?_
  refine wp_ret ?_
  refine leave henv (res1 Tryd.results32 (RV.tmp henv rfl)) ?_
  exact ⟨congrArg (fun b => Ending.returned (Value.bool b)) (decide_eq_decide.2 tz_iff), hst.below⟩
set_option maxRecDepth 100000 in
set_option maxHeartbeats 2000000 in
theorem eq_func {A0 A1 : Option Addr} {n0 n1 c0 c1 : Nat} {es0 es1 : List NE} {xs ys : List Int} {w0 : World} (h0 : (pfRow fN FN 2 A0 n0 c0 es0).P w0) (hz0 : es0.map zz = xs) (h1 : (pfRow fM FM 2 A1 n1 c1 es1).P w0) (hz1 : es1.map zz = ys) (hk0 : Zk 20000 xs) (hk1 : Zk 20000 ys) :
    Calls Tryd.prog 31 #[.slice A0 n0 c0, .slice A1 n1 c1, .func (.func 32) #[] #[]] w0 fun e w' => e = .returned (.bool (decide (xs = ys))) ∧ Below w0.heap.size w0 w' := by
  have hb0 := hk0.es hz0
  have hb1 := hk1.es hz1
  refine enter Tryd.func31 rfl Tryd.ntmps31 rfl ?_
  intro a henv hst
  have hlen0 := h0.2.1
  have hlen1 := h1.2.1
  have hbig0 := Nat.le_trans h0.1.cap h0.1.big
  unfold maxLen at hbig0
  replace hst := (hst.argRow h1).argRow h0
  clear h0 h1
  refine wp_seq ?_
  refine region_seq ?_
  refine sv (v := .bool false) henv rfl (rn_assign henv rfl) ?_
  clear henv a; intro a henv
  refine wpList_nil ?_
  refine th_n ?_
  refine wp_seq ?_
  refine wp_seq ?_
  refine region_seq ?_
  revert a
  refine mA rfl rfl ?_
  refine sA (v := .int .i64 (n0 : Nat)) rfl (fun _ henv => rn_len henv Tryd.underlying24 rfl) ?_
  refine mA rfl rfl ?_
  refine sA (v := .int .i64 (n1 : Nat)) rfl (fun _ henv => rn_len henv Tryd.underlying33 rfl) ?_
  refine sA (v := .bool (((n0 : Nat) : Int) != ((n1 : Nat) : Int))) rfl (fun _ henv => rn_bin henv rfl rfl rfl) ?_
  intro a henv
  refine wpList_nil ?_
  refine th_n ?_
  refine if_split henv rfl (fun hc51 => ?_) (fun hc51 => ?_)
  · have hne : n0 ≠ n1 := by have := hc51; simp at this; omega
    refine wp_seq ?_
    refine region_seq ?_
    refine sv (v := .bool false) henv rfl (rn_assign henv rfl) ?_
    clear henv a; intro a henv
    refine wpList_nil ?_
    refine th_n ?_
    refine wp_ret ?_
    refine th_r ?_
    refine leave henv (res1 Tryd.results31 (RV.tmp henv rfl)) ?_
    first | exact ⟨by rw [decide_eq_false (eq_ne hz0 hlen0 hz1 hlen1 hne)], hst.below⟩ | exact ⟨by rw [decide_eq_false (eq_at hz0 hz1 he0 he1 hxy)], hst.below⟩
  · have hnn : n0 = n1 := by have := hc51; simp at this; omega
    refine wp_skip ?_
    refine th_n ?_
    refine wp_seq ?_
    refine wp_seq ?_
    refine region_seq ?_
    revert a
    refine mA rfl rfl ?_
    refine sA (v := .int .i64 (n0 : Nat)) rfl (fun _ henv => rn_len henv Tryd.underlying24 rfl) ?_
    refine mA rfl rfl ?_
    intro a henv
    refine wpList_nil ?_
    refine th_n ?_
    refine wp_block ?_
    refine wp_loop_ghost (fun mz a w => ∃ j : Nat, n0 - j = mz ∧ Env 32 a [(1, .slice A1 n1 c1), (2, .func (.func 32) #[] #[]), (15, .slice A0 n0 c0), (16, .int .i64 (n0 : Nat)), (17, .int .i64 (j : Nat))] ∧ St w0 w [] [pfRow fN FN 2 A0 n0 c0 es0, pfRow fM FM 2 A1 n1 c1 es1] ∧ j ≤ n0 ∧ xs.take j = ys.take j) _ ⟨0, rfl, henv.sub ⟨rfl, rfl, rfl, rfl, rfl, trivial⟩, hst.pick [] [0, 1] (by decide), (Nat.zero_le _), rfl⟩ ?_
    clear henv hst a
    rintro mz a w52 ⟨j, rfl, henv, hst, hj, he⟩
    refine wp_seq ?_
    refine region_seq ?_
    refine sv (v := .bool (decide (((j : Nat) : Int) < ((n0 : Nat) : Int)))) henv rfl (rn_bin henv rfl rfl rfl) ?_
    clear henv a; intro a henv
    refine wpList_nil ?_
    refine th_n ?_
    refine wp_seq ?_
    refine if_split henv rfl (fun hc53 => ?_) (fun hc53 => ?_)
    · have hlt : j < n0 := by have := of_decide_eq_true hc53; omega
      obtain ⟨⟨A, c, x⟩, he0⟩ : ∃ e, es0[j]? = some e := ⟨_, List.getElem?_eq_getElem (by omega)⟩
      replace hst := hst.elem (k := 0) rfl he0
      replace hst : St w0 _ [] [pfZ A c x, pfRow fN FN 2 A0 n0 c0 es0, pfRow fM FM 2 A1 n1 c1 es1] := hst
      obtain ⟨⟨C, d, y⟩, he1⟩ : ∃ e, es1[j]? = some e := ⟨_, List.getElem?_eq_getElem (by omega)⟩
      replace hst := hst.elem (k := 2) rfl he1
      replace hst : St w0 _ [] [pfR C d y, pfZ A c x, pfRow fN FN 2 A0 n0 c0 es0, pfRow fM FM 2 A1 n1 c1 es1] := hst
      have hx1 := hb0.at he0
      have hy1 := hb1.at he1
      have hdy := dl_zl y
      refine wp_skip ?_
      refine th_n ?_
      refine wp_seq ?_
      refine wp_block ?_
      refine wp_seq ?_
      refine region_seq ?_
      revert a
      refine mA rfl rfl ?_
      refine sA (v := .pointer (some ⟨ab A0, ao A0 + j * 2, none⟩)) rfl (fun _ henv => rn_idxR (i := j) henv Tryd.underlying24 (ty_anvil_integer_Int.size) rfl rfl (by omega) rfl (show (pfRow fN FN 2 A0 n0 c0 es0).P _ from (hst.pat (k := 2) rfl)).1) ?_
      refine sA (v := .agg #[.bool (neg x), .slice A (zl x) c]) rfl (fun _ henv => rn_loadE (i := j) (e := (A, c, x)) henv ty_anvil_integer_Int rfl rfl fN_len (show (pfRow fN FN 2 A0 n0 c0 es0).P _ from (hst.pat (k := 2) rfl)).1 (by omega) he0 rfl) ?_
      intro a henv
      refine seq_step rfl (op_alloc (c := #[.bool (neg 0), .slice none (zl 0) 0]) henv hst rfl zero_anvil_integer_Int zcells ?_)
      clear henv hst a; intro a w55 g54 henv hst
      refine sv (v := .int .i64 (j : Nat)) henv rfl (rn_assign henv rfl) ?_
      clear henv a; intro a henv
      refine seq_step rfl (op_store (k := 0) (c' := #[.bool (neg x), .slice A (zl x) c]) henv hst (ty_anvil_integer_Int.size) rfl rfl rfl rfl (by simp) rfl rfl ?_)
      clear henv hst a; intro a w56 henv hst
      refine wpList_nil ?_
      refine th_n ?_
      refine wp_seq ?_
      refine region_seq ?_
      revert a
      refine mA rfl rfl ?_
      refine mA rfl rfl ?_
      refine sA (v := .pointer (some ⟨ab A1, ao A1 + j * 2, none⟩)) rfl (fun _ henv => rn_idxR (i := j) henv Tryd.underlying33 (ty_anvil_anvilref02_Int.size) rfl rfl (by omega) rfl (show (pfRow fM FM 2 A1 n1 c1 es1).P _ from (hst.pat (k := 3) rfl)).1) ?_
      refine sA (v := .agg #[.bool (neg y), .slice C (dl y) d]) rfl (fun _ henv => rn_loadE (i := j) (e := (C, d, y)) henv ty_anvil_anvilref02_Int rfl rfl fM_len (show (pfRow fM FM 2 A1 n1 c1 es1).P _ from (hst.pat (k := 3) rfl)).1 (by omega) he1 rfl) ?_
      intro a henv
      refine seq_step rfl (op_alloc (c := #[.bool (neg 0), .slice none (dl 0) 0]) henv hst rfl zero_anvil_anvilref02_Int rcells ?_)
      clear henv hst a; intro a w58 g57 henv hst
      refine seq_step rfl (op_store (k := 0) (c' := #[.bool (neg y), .slice C (dl y) d]) henv hst (ty_anvil_anvilref02_Int.size) rfl rfl rfl rfl (by simp) rfl rfl ?_)
      clear henv hst a; intro a w59 henv hst
      refine wpList_nil ?_
      refine th_n ?_
      refine wp_seq ?_
      refine region_seq ?_
      revert a
      refine mA rfl rfl ?_
      refine sA (v := .agg #[.bool (neg x), .slice A (zl x) c]) rfl (fun _ henv => rn_load0 henv ty_anvil_integer_Int rfl (hst.oat (k := 1) rfl) rfl) ?_
      refine sA (v := .agg #[.bool (neg y), .slice C (dl y) d]) rfl (fun _ henv => rn_load0 henv ty_anvil_anvilref02_Int rfl (hst.oat (k := 0) rfl) rfl) ?_
      intro a henv
      refine seq_step rfl (op_callc (vs := #[.agg #[.bool (neg x), .slice A (zl x) c], .agg #[.bool (neg y), .slice C (dl y) d]]) henv rfl Tryd.call32 rfl rfl (calls_app (by simp) (is_one (x := x) (y := y) (show ZIn _ A c x from hst.pat (k := 1) rfl) (show RIn _ C d y from hst.pat (k := 0) rfl) (by omega) (by omega))) ?_)
      rintro e w60 ⟨rfl, hb⟩
      refine ⟨_, rfl, ?_⟩
      clear henv a; intro a henv
      replace hst := hst.call hb
      clear hb
      refine sv (v := .bool (!(decide (x = y)))) henv rfl (rn_un henv rfl rfl) ?_
      clear henv a; intro a henv
      refine wpList_nil ?_
      refine th_n ?_
      refine if_split henv rfl (fun hc61 => ?_) (fun hc61 => ?_)
      · have hxy : ¬ x = y := by have := hc61; simpa using this
        refine wp_seq ?_
        refine region_seq ?_
        refine sv (v := .bool false) henv rfl (rn_assign henv rfl) ?_
        clear henv a; intro a henv
        refine wpList_nil ?_
        refine th_n ?_
        refine wp_ret ?_
        refine bl_r (th_r (th_r (bl_r (th_r ?_))))
        refine leave henv (res1 Tryd.results31 (RV.tmp henv rfl)) ?_
        first | exact ⟨by rw [decide_eq_false (eq_ne hz0 hlen0 hz1 hlen1 hne)], hst.below⟩ | exact ⟨by rw [decide_eq_false (eq_at hz0 hz1 he0 he1 hxy)], hst.below⟩
      · have hxy : x = y := by have := hc61; simpa using this
        refine wp_skip ?_
        refine bl_n (th_n ?_)
        refine region_seq ?_
        revert a
        refine sA (v := .int .i64 (j + 1 : Nat)) rfl (fun _ henv => rn_add henv rfl rfl (by rw [IntWalk.i64_in _ (by omega)]; omega)) ?_
        refine mA rfl rfl ?_
        intro a henv
        refine wpList_nil ?_
        exact th_n ⟨_, (by omega), ⟨j + 1, rfl, henv.sub ⟨rfl, rfl, rfl, rfl, rfl, trivial⟩, hst.pick [] [2, 3] (by decide), (by omega), (by rw [zts hz0 he0, zts hz1 he1, he, hxy])⟩⟩
    · have hjn : j = n0 := by have := of_decide_eq_false hc53; omega
      refine wp_exit ?_
      refine th_x (th_x (bl_x (th_n ?_)))
      refine wp_seq ?_
      refine region_seq ?_
      refine sv (v := .bool true) henv rfl (rn_assign henv rfl) ?_
      clear henv a; intro a henv
      refine wpList_nil ?_
      refine th_n ?_
      refine wp_ret ?_
      refine leave henv (res1 Tryd.results31 (RV.tmp henv rfl)) ?_
      have hall : xs = ys := eq_full hz0 hlen0 hz1 hlen1 (hnn ▸ rfl) (hjn ▸ he)
      exact ⟨by rw [decide_eq_true hall], hst.below⟩
set_option maxRecDepth 100000 in
set_option maxHeartbeats 2000000 in
theorem l_is {A0 A1 : Option Addr} {n0 n1 c0 c1 : Nat} {es0 es1 : List NE} {xs ys : List Int} {w0 : World} (h0 : (pfRow fN FN 2 A0 n0 c0 es0).P w0) (hz0 : es0.map zz = xs) (h1 : (pfRow fM FM 2 A1 n1 c1 es1).P w0) (hz1 : es1.map zz = ys) (hk0 : Zk 20000 xs) (hk1 : Zk 20000 ys) :
    Calls Tryd.prog 16 #[.slice A0 n0 c0, .slice A1 n1 c1] w0 fun e w' => e = .returned (.bool (decide (xs = ys))) ∧ Below w0.heap.size w0 w' := by
  refine enter Tryd.func16 rfl Tryd.ntmps16 rfl ?_
  intro a henv hst
  have hlen0 := h0.2.1
  have hlen1 := h1.2.1
  have hbig0 := Nat.le_trans h0.1.cap h0.1.big
  unfold maxLen at hbig0
  replace hst := (hst.argRow h1).argRow h0
  clear h0 h1
  refine wp_seq ?_
  refine region_seq ?_
  refine sv (v := .bool false) henv rfl (rn_assign henv rfl) ?_
  clear henv a; intro a henv
  refine wpList_nil ?_
  refine th_n ?_
  refine wp_seq ?_
  refine region_seq ?_
  revert a
  refine mA rfl rfl ?_
  refine mA rfl rfl ?_
  intro a henv
  refine seq_step rfl (op_call henv rfl Tryd.call31 rfl (eq_func (hst.pat (k := 0) rfl) hz0 (hst.pat (k := 1) rfl) hz1 hk0 hk1) ?_)
  rintro e w51 ⟨rfl, hb⟩
  refine ⟨_, rfl, ?_⟩
  clear henv a; intro a henv
  replace hst := hst.call hb
  clear hb
  refine sv (v := .bool (decide (xs = ys))) henv rfl (rn_assign henv rfl) ?_
  clear henv a; intro a henv
  refine wpList_nil ?_
  refine th_n ?_
  refine wp_ret ?_
  refine leave henv (res1 Tryd.results16 (RV.tmp henv rfl)) ?_
  exact ⟨rfl, hst.below⟩
end Go.Proofs.YtoojllfijfjmoaaDoor.W

/- split.Parts. Printed by pv/gen_sp3.py. No condition. -/
namespace Go.Proofs.YtoojllfijfjmoaaDoor.W
open Go.RowKit Anv Go.Lib
theorem fN_one (e : NE) (v : Value) (h : v ∈ fN e) : v.oneCell' = true := by
  unfold fN at h
  rcases List.mem_cons.1 h with rfl | h
  · rfl
  · rcases List.mem_cons.1 h with rfl | h
    · rfl
    · cases h
theorem take_drop_mem {α : Type} {l bs : List α} {n m : Nat} (x : α) (h : x ∈ l.take n ++ bs.drop m) : x ∈ l ++ bs := by
  rcases List.mem_append.1 h with h | h
  · exact List.mem_append.2 (.inl (List.mem_of_mem_take h))
  · exact List.mem_append.2 (.inr (List.mem_of_mem_drop h))
def LRow (w : World) (v : Value) (n : Nat) (zss : List (List Int)) : Prop := ∃ A c vs, v = .slice A n c ∧ (pfRow fL FL 1 A n c vs).P w ∧ vs.map lz = zss
def partL (xs : List Int) (m j : Nat) : List Int := (xs.drop (j * m)).take m ++ List.replicate (m - (xs.drop (j * m)).length) 0
theorem part_rest {es : List NE} {xs : List Int} {j m n : Nat} (hz : es.map zz = xs.drop (j * m)) (hl : es.length = n) : (es.drop (min n m)).map zz = xs.drop ((j + 1) * m) := by
  rw [List.map_drop, hz, List.drop_drop, Nat.succ_mul]
  have h : (xs.drop (j * m)).length = n := by rw [← hz, List.length_map, hl]
  rw [List.length_drop] at h
  rcases Nat.le_total n m with hm | hm
  · rw [Nat.min_eq_left hm, List.drop_eq_nil_of_le (by omega), List.drop_eq_nil_of_le (by omega)]
  · rw [Nat.min_eq_right hm]
theorem part_one {es : List NE} {xs : List Int} {j m n : Nat} (hz : es.map zz = xs.drop (j * m)) (hl : es.length = n) : (es.take m ++ (List.replicate m ((none, 0, 0) : NE)).drop n).map zz = partL xs m j := by
  have h : (xs.drop (j * m)).length = n := by rw [← hz, List.length_map, hl]
  unfold partL
  rw [List.map_append, List.map_take, hz, List.drop_replicate, List.map_replicate, h]
theorem part_len {es : List NE} {m n : Nat} (hl : es.length = n) : (es.take m ++ (List.replicate m ((none, 0, 0) : NE)).drop n).length = m := by
  rw [List.length_append, List.length_take, List.length_drop, List.length_replicate, hl]
  omega
theorem part_step {os : List LE} {xs : List Int} {j m n c : Nat} {A : Option Addr} {es : List NE} (ho : os.map lz = (List.range j).map (partL xs m)) (h : es.map zz = partL xs m j) : (os ++ [(A, n, c, es)]).map lz = (List.range (j + 1)).map (partL xs m) := by
  rw [List.map_append, ho, List.range_succ, List.map_append]
  congr 1
  exact congrArg (fun l => [l]) h
set_option maxRecDepth 100000 in
set_option maxHeartbeats 2000000 in
theorem sp_parts {A0 : Option Addr} {n0 c0 : Nat} {es0 : List NE} {xs : List Int} {k m : Nat} {w0 : World} (h0 : (pfRow fN FN 2 A0 n0 c0 es0).P w0) (hz0 : es0.map zz = xs) (hn0 : n0 ≤ 4096) (hk1 : 1 ≤ k) (hk8 : k ≤ 8) (hm1 : 1 ≤ m) (hm4 : m ≤ 4096) (hkm : n0 ≤ k * m) (hkm2 : k * m ≤ 32768) :
    Calls Tryd.prog 12 #[.slice A0 n0 c0, .int .i64 (k : Nat), .int .i64 (m : Nat)] w0 fun e w' => ∃ v, e = .returned (.tuple #[v, .int .i64 0]) ∧ LRow w' v k ((List.range k).map (partL xs m)) ∧ Below w0.heap.size w0 w' := by
  refine enter Tryd.func12 rfl Tryd.ntmps12 rfl ?_
  intro a henv hst
  have hlen0 := h0.2.1
  have hbig0 := Nat.le_trans h0.1.cap h0.1.big
  unfold maxLen at hbig0
  replace hst := hst.argRow h0
  clear h0
  refine wp_seq ?_
  refine region_seq ?_
  revert a
  refine aA rfl rfl ?_
  refine aA rfl rfl ?_
  intro a henv
  refine wpList_nil ?_
  refine th_n ?_
  refine wp_seq ?_
  refine wp_block ?_
  refine wp_seq ?_
  refine region_seq ?_
  revert a
  refine mA rfl rfl ?_
  refine sA (v := .bool (decide (((k : Nat) : Int) < (1 : Int)))) rfl (fun _ henv => rn_bin henv rfl rfl rfl) ?_
  intro a henv
  rw [show (decide (((k : Nat) : Int) < (1 : Int))) = false from (decide_eq_false (by omega))] at henv
  revert a
  refine mA rfl rfl ?_
  refine gA (v := .int .i64 (k : Nat)) rfl rfl rfl rfl (fun _ henv => rn_move henv rfl) ?_
  refine gA (v := .bool (decide (((k : Nat) : Int) > (8 : Int)))) rfl rfl rfl rfl (fun _ henv => rn_bin henv rfl rfl rfl) ?_
  intro a henv
  rw [show (decide (((k : Nat) : Int) > (8 : Int))) = false from (decide_eq_false (by omega))] at henv
  revert a
  refine sA (v := .bool false) rfl (fun _ henv => rn_pick henv rfl rfl) ?_
  refine mA rfl rfl ?_
  refine gA (v := .int .i64 (m : Nat)) rfl rfl rfl rfl (fun _ henv => rn_move henv rfl) ?_
  refine gA (v := .bool (decide (((m : Nat) : Int) < (1 : Int)))) rfl rfl rfl rfl (fun _ henv => rn_bin henv rfl rfl rfl) ?_
  intro a henv
  rw [show (decide (((m : Nat) : Int) < (1 : Int))) = false from (decide_eq_false (by omega))] at henv
  revert a
  refine sA (v := .bool false) rfl (fun _ henv => rn_pick henv rfl rfl) ?_
  refine mA rfl rfl ?_
  refine gA (v := .int .i64 (m : Nat)) rfl rfl rfl rfl (fun _ henv => rn_move henv rfl) ?_
  refine gA (v := .bool (decide (((m : Nat) : Int) > (4096 : Int)))) rfl rfl rfl rfl (fun _ henv => rn_bin henv rfl rfl rfl) ?_
  intro a henv
  rw [show (decide (((m : Nat) : Int) > (4096 : Int))) = false from (decide_eq_false (by omega))] at henv
  revert a
  refine sA (v := .bool false) rfl (fun _ henv => rn_pick henv rfl rfl) ?_
  refine aA rfl rfl ?_
  intro a henv
  refine wpList_nil ?_
  refine th_n ?_
  refine if_f henv rfl (rfl) ?_
  refine wp_seq ?_
  refine region_seq ?_
  revert a
  refine mA rfl rfl ?_
  refine sA (v := .int .i64 (n0 : Nat)) rfl (fun _ henv => rn_len henv Tryd.underlying24 rfl) ?_
  refine sA (v := .bool (decide (((n0 : Nat) : Int) > (4096 : Int)))) rfl (fun _ henv => rn_bin henv rfl rfl rfl) ?_
  intro a henv
  rw [show (decide (((n0 : Nat) : Int) > (4096 : Int))) = false from (decide_eq_false (by omega))] at henv
  refine sv (v := .bool false) henv rfl (rn_assign henv rfl) ?_
  clear henv a; intro a henv
  refine wpList_nil ?_
  refine th_n ?_
  refine if_f henv rfl (rfl) ?_
  refine wp_seq ?_
  refine region_seq ?_
  revert a
  refine mA rfl rfl ?_
  refine mA rfl rfl ?_
  refine sA (v := .int .i64 (k * m : Nat)) rfl (fun _ henv => rn_mul henv rfl rfl (by rw [IntWalk.i64_in _ (by omega)]; omega)) ?_
  refine mA rfl rfl ?_
  refine sA (v := .int .i64 (n0 : Nat)) rfl (fun _ henv => rn_len henv Tryd.underlying24 rfl) ?_
  refine sA (v := .bool (decide (((k * m : Nat) : Int) < ((n0 : Nat) : Int)))) rfl (fun _ henv => rn_bin henv rfl rfl rfl) ?_
  intro a henv
  rw [show (decide (((k * m : Nat) : Int) < ((n0 : Nat) : Int))) = false from (decide_eq_false (by omega))] at henv
  refine sv (v := .bool false) henv rfl (rn_assign henv rfl) ?_
  clear henv a; intro a henv
  refine wpList_nil ?_
  refine th_n ?_
  refine if_f henv rfl (rfl) ?_
  refine wp_skip ?_
  refine bl_n (th_n ?_)
  refine wp_seq ?_
  refine region_seq ?_
  refine sv (v := .slice none 0 0) henv rfl (rn_assign henv rfl) ?_
  clear henv a; intro a henv
  refine wpList_nil ?_
  refine th_n ?_
  refine wp_seq ?_
  refine wp_seq ?_
  refine region_seq ?_
  revert a
  refine mA rfl rfl ?_
  refine mA rfl rfl ?_
  intro a henv
  refine wpList_nil ?_
  refine th_n ?_
  refine wp_block ?_
  replace hst := (hst.addRowS notU 24 1).nilEs FL
  replace hst : St w0 _ [rowS notU 24 1 none 0 0 (fl fL ([]))] [pfEs FL ([]), pfRow fN FN 2 A0 n0 c0 es0] := hst
  refine wp_loop_ghost (fun mz a w => ∃ j : Nat, ∃ A : Option Addr, ∃ n : Nat, ∃ c : Nat, ∃ es : List NE, ∃ B : Option Addr, ∃ d : Nat, ∃ os : List LE, k - j = mz ∧ Env 54 a [(0, .slice A n c), (1, .int .i64 (k : Nat)), (2, .int .i64 (m : Nat)), (8, .slice B j d), (37, .int .i64 (k : Nat)), (38, .int .i64 (j : Nat))] ∧ St w0 w [rowS notU 24 1 B j d (fl fL os)] [pfRow fN FN 2 A n c es, pfEs FL os] ∧ j ≤ k ∧ n = n0 - j * m ∧ es.map zz = xs.drop (j * m) ∧ os.map lz = (List.range j).map (partL xs m)) _ ⟨0, A0, n0, c0, es0, none, 0, [], rfl, henv.sub ⟨rfl, rfl, rfl, rfl, rfl, rfl, trivial⟩, hst.pick [0] [1, 0] (by decide), (Nat.zero_le _), (by omega), (by rw [Nat.zero_mul]; exact hz0), rfl⟩ ?_
  clear henv hst a
  rintro mz a w51 ⟨j, A, n, c, es, B, d, os, rfl, henv, hst, hj, hn, hz, ho⟩
  refine wp_seq ?_
  refine region_seq ?_
  refine sv (v := .bool (decide (((j : Nat) : Int) < ((k : Nat) : Int)))) henv rfl (rn_bin henv rfl rfl rfl) ?_
  clear henv a; intro a henv
  refine wpList_nil ?_
  refine th_n ?_
  refine wp_seq ?_
  refine if_split henv rfl (fun hc52 => ?_) (fun hc52 => ?_)
  · have hlt : j < k := by have := of_decide_eq_true hc52; omega
    have hel := (hst.pat (k := 0) rfl).2.1
    refine wp_skip ?_
    refine th_n ?_
    refine wp_seq ?_
    refine wp_block ?_
    refine wp_seq ?_
    refine region_seq ?_
    refine sv (v := .int .i64 (m : Nat)) henv rfl (rn_move henv rfl) ?_
    clear henv a; intro a henv
    refine seq_step rfl (op_makeS (f := fN) (e0 := (none, 0, 0)) (q := notU) (n := m) henv hst rfl Tryd.underlying24 inf_anvil_integer_Int rfl rfl fN_zero rfl rfl rfl (by omega) (by unfold maxLen; omega) ?_)
    clear henv hst a; intro a w54 g53 henv hst
    replace hst := hst.addNs (es_zeros m _) ⟨nou_rowS, nou_rowS, trivial⟩
    refine sv (v := .slice (some ⟨g53, 0, none⟩) m m) henv rfl (rn_assign henv rfl) ?_
    clear henv a; intro a henv
    refine wpList_nil ?_
    refine th_n ?_
    refine wp_seq ?_
    refine region_seq ?_
    revert a
    refine mA rfl rfl ?_
    refine mA rfl rfl ?_
    intro a henv
    refine seq_step rfl (op_copyS (f := fN) (es := (List.replicate m (none, 0, 0))) (es2 := es) (k := 0) henv hst rfl Tryd.underlying24 (ty_anvil_integer_Int.size) rfl rfl rfl (hst.pat (k := 1) rfl).1 fN_len List.length_replicate (hst.pat (k := 1) rfl).2.1 (fun _ => rfl) fN_one ?_)
    clear henv hst a; intro a w55 henv hst
    replace hst := ((hst.rowEs (i := 1) rfl).appEs (i := 0) (j := 1) rfl rfl).subEs (es' := (es.take m ++ (List.replicate m (none, 0, 0)).drop n)) (i := 0) rfl take_drop_mem
    replace hst := hst.pick [0, 1] [0, 3, 4, 5] (by decide)
    replace hst : St w0 _ [rowS notU 39 2 (some ⟨g53, 0, none⟩) m m (fl fN (es.take m ++ (List.replicate m (none, 0, 0)).drop n)), rowS notU 24 1 B j d (fl fL os)] [pfEs FN (es.take m ++ (List.replicate m (none, 0, 0)).drop n), pfEs FN (List.replicate m (none, 0, 0)), pfRow fN FN 2 A n c es, pfEs FL os] := hst
    refine sv (v := .int .i64 (min n m : Nat)) henv rfl (rn_assign henv rfl) ?_
    clear henv a; intro a henv
    refine wpList_nil ?_
    replace hst := hst.giveRow (k := 0) (j := 0) rfl rfl (part_len hel)
    replace hst : St w0 _ [rowS notU 24 1 B j d (fl fL os)] [pfRow fN FN 2 (some ⟨g53, 0, none⟩) m m (es.take m ++ (List.replicate m (none, 0, 0)).drop n), pfRd 2 (some ⟨g53, 0, none⟩) m m (fl fN (es.take m ++ (List.replicate m (none, 0, 0)).drop n)), pfEs FN (es.take m ++ (List.replicate m (none, 0, 0)).drop n), pfEs FN (List.replicate m (none, 0, 0)), pfRow fN FN 2 A n c es, pfEs FL os] := hst
    refine th_n ?_
    refine wp_seq ?_
    refine region_seq ?_
    revert a
    refine mA rfl rfl ?_
    refine mA rfl rfl ?_
    refine sA (v := .slice (slA A c (min n m) 2) (n - min n m) (c - min n m)) rfl (fun _ henv => rn_sliceFromS (m := min n m) (z := 2) henv Tryd.underlying24 (ty_anvil_integer_Int.size) rfl rfl (by omega)) ?_
    refine aA rfl rfl ?_
    intro a henv
    refine wpList_nil ?_
    replace hst := hst.rowFrom (i := 4) rfl (min n m) fN_len (by omega)
    replace hst : St w0 _ [rowS notU 24 1 B j d (fl fL os)] [pfRow fN FN 2 (slA A c (min n m) 2) (n - min n m) (c - min n m) (es.drop (min n m)), pfRow fN FN 2 (some ⟨g53, 0, none⟩) m m (es.take m ++ (List.replicate m (none, 0, 0)).drop n), pfRd 2 (some ⟨g53, 0, none⟩) m m (fl fN (es.take m ++ (List.replicate m (none, 0, 0)).drop n)), pfEs FN (es.take m ++ (List.replicate m (none, 0, 0)).drop n), pfEs FN (List.replicate m (none, 0, 0)), pfRow fN FN 2 A n c es, pfEs FL os] := hst
    refine th_n ?_
    refine region_seq ?_
    revert a
    refine mA rfl rfl ?_
    refine mA rfl rfl ?_
    intro a henv
    refine seq_step rfl (op_buildSlice (z := 1) (pv := #[(0, .slice (some ⟨g53, 0, none⟩) m m)]) (c := #[.slice (some ⟨g53, 0, none⟩) m m]) henv hst rfl Tryd.underlying26 (ty__integer_Int.size) zero__integer_Int (by decide) (by decide) rfl (by kernel_rfl) ?_)
    clear henv hst a; intro a w57 g56 henv hst
    refine seq_step rfl (op_appendS (k := 1) (j := 0) henv hst rfl Tryd.underlying26 inf__integer_Int rfl rfl rfl rfl rfl rfl rfl rfl rfl rfl rfl (by unfold maxLen; omega) (by omega) ?_)
    clear henv hst a; intro a w60 g58 c59 henv hst
    rw [show fl fL os ++ (#[.slice (some ⟨g53, 0, none⟩) m m] : Array Value).toList = fl fL (os ++ [((some ⟨g53, 0, none⟩ : Option Addr), m, m, (es.take m ++ (List.replicate m (none, 0, 0)).drop n))]) from fl_snoc (f := fL) os ((some ⟨g53, 0, none⟩ : Option Addr), m, m, (es.take m ++ (List.replicate m (none, 0, 0)).drop n))] at hst
    replace hst := hst.snocEs (e := ((some ⟨g53, 0, none⟩ : Option Addr), m, m, (es.take m ++ (List.replicate m (none, 0, 0)).drop n))) (i := 6) (j := 1) rfl rfl
    refine sv (v := .slice (some ⟨g58, 0, none⟩) (j + 1) c59) henv rfl (rn_assign henv rfl) ?_
    clear henv a; intro a henv
    refine wpList_nil ?_
    refine bl_n (th_n ?_)
    refine region_seq ?_
    revert a
    refine sA (v := .int .i64 (j + 1 : Nat)) rfl (fun _ henv => rn_add henv rfl rfl (by rw [IntWalk.i64_in _ (by omega)]; omega)) ?_
    refine mA rfl rfl ?_
    intro a henv
    refine wpList_nil ?_
    exact th_n ⟨_, (by omega), ⟨j + 1, (slA A c (min n m) 2), (n - min n m), (c - min n m), (es.drop (min n m)), (some ⟨g58, 0, none⟩), c59, (os ++ [((some ⟨g53, 0, none⟩ : Option Addr), m, m, (es.take m ++ (List.replicate m (none, 0, 0)).drop n))]), rfl, henv.sub ⟨rfl, rfl, rfl, rfl, rfl, rfl, trivial⟩, hst.pick [1] [1, 0] (by decide), (by omega), (by rw [Nat.succ_mul]; omega), (part_rest hz hel), (part_step ho (part_one hz hel))⟩⟩
  · obtain rfl : j = k := by have := of_decide_eq_false hc52; omega
    refine wp_exit ?_
    refine th_x (th_x (bl_x (th_n ?_)))
    refine wp_seq ?_
    refine region_seq ?_
    revert a
    refine mA rfl rfl ?_
    refine aA rfl rfl ?_
    refine aA rfl rfl ?_
    intro a henv
    refine wpList_nil ?_
    refine th_n ?_
    refine wp_ret ?_
    refine leave henv (res2 Tryd.results12 (RV.tmp henv rfl) (RV.tmp henv rfl)) ?_
    exact ⟨_, rfl, ⟨_, _, _, rfl, ⟨rowS_rd (hst.owns (k := 0) rfl), (by have := congrArg List.length ho; simpa using this), hst.pat (k := 1) rfl⟩, ho⟩, hst.below⟩
end Go.Proofs.YtoojllfijfjmoaaDoor.W

/- poly.Degree, split.Join. Printed by pv/gen_sp4.py. No condition. -/
namespace Go.Proofs.YtoojllfijfjmoaaDoor.W
open Go.RowKit Anv Go.Lib
def degN (xs : List Int) : Nat := (xs.reverse.dropWhile (· == 0)).length
theorem deg_nil (xs : List Int) : degN (xs.take 0) = 0 := by rw [List.take_zero]; rfl
theorem deg_snoc0 (xs : List Int) : degN (xs ++ [0]) = degN xs := by simp [degN]
theorem deg_snoc {xs : List Int} {x : Int} (h : x ≠ 0) : degN (xs ++ [x]) = xs.length + 1 := by
  unfold degN
  rw [List.reverse_append, List.reverse_singleton, List.singleton_append, List.dropWhile_cons_of_neg (by simpa using h), List.length_cons, List.length_reverse]
def NRow (w : World) (v : Value) (n : Nat) (zs : List Int) : Prop := ∃ A c es, v = .slice A n c ∧ (pfRow fN FN 2 A n c es).P w ∧ es.map zz = zs
def szN (zss : List (List Int)) (k m : Nat) : Nat → Nat
  | 0 => m
  | i + 1 => max (szN zss k m i) (i * k + (zss.getD i []).length)
def adN (xs : List Int) (p : Nat) (l : List Int) : Nat → List Int
  | 0 => l
  | j + 1 => (adN xs p l j).set (p + j) ((adN xs p l j).getD (p + j) 0 + xs.getD j 0)
def jnN (zss : List (List Int)) (k T : Nat) : Nat → List Int
  | 0 => List.replicate T 0
  | i + 1 => adN (zss.getD i []) (i * k) (jnN zss k T i) (zss.getD i []).length
theorem adN_len (xs : List Int) (p : Nat) (l : List Int) : ∀ j, (adN xs p l j).length = l.length
  | 0 => rfl
  | j + 1 => by rw [adN, List.length_set, adN_len]
theorem jnN_len (zss : List (List Int)) (k T : Nat) : ∀ i, (jnN zss k T i).length = T
  | 0 => List.length_replicate
  | i + 1 => by rw [jnN, adN_len, jnN_len]
theorem sz_ge0 (zss : List (List Int)) (k m : Nat) : ∀ i, m ≤ szN zss k m i
  | 0 => Nat.le_refl _
  | i + 1 => Nat.le_trans (sz_ge0 zss k m i) (Nat.le_max_left ..)
theorem sz_at (zss : List (List Int)) (k m : Nat) {i : Nat} : ∀ {n : Nat}, i < n → i * k + (zss.getD i []).length ≤ szN zss k m n
  | 0, h => by omega
  | n + 1, h => by
    rcases Nat.lt_or_ge i n with h1 | h1
    · exact Nat.le_trans (sz_at zss k m h1) (Nat.le_max_left ..)
    · obtain rfl : i = n := by omega
      exact Nat.le_max_right ..
theorem part_at {es0 : List LE} {zss : List (List Int)} {i n c : Nat} {A : Option Addr} {es : List NE} (hz : es0.map lz = zss) (he : es0[i]? = some (A, n, c, es)) (hl : es.length = n) : zss.getD i [] = es.map zz ∧ (zss.getD i []).length = n := by
  have e : zss.getD i [] = es.map zz := by rw [List.getD_eq_getElem?_getD, ← hz, List.getElem?_map, he]; rfl
  exact ⟨e, by rw [e, List.length_map, hl]⟩
theorem ad_step {ps es : List NE} {xs l : List Int} {p j : Nat} {C E A : Option Addr} {d f c : Nat} {x y : Int} (ho : ps.map zz = adN xs p l j) (hx : xs = es.map zz) (he : es[j]? = some (C, d, x)) (hp : ps[p + j]? = some (E, f, y)) : (ps.set (p + j) (A, c, y + x)).map zz = adN xs p l (j + 1) := by
  have e1 : xs.getD j 0 = x := by rw [hx, List.getD_eq_getElem?_getD, List.getElem?_map, he]; rfl
  have e2 : (adN xs p l j).getD (p + j) 0 = y := by rw [← ho, List.getD_eq_getElem?_getD, List.getElem?_map, hp]; rfl
  rw [adN, e1, e2, ← ho, List.map_set]
theorem zl_addm (x y : Int) : zl (x + y) ≤ max (zl x) (zl y) + 1 := by
  refine nl_le_of_lt ?_
  have h1 : x.natAbs < 4294967296 ^ max (zl x) (zl y) := Nat.lt_of_lt_of_le (lt_nl _) (Nat.pow_le_pow_right (by decide) (Nat.le_max_left ..))
  have h2 : y.natAbs < 4294967296 ^ max (zl x) (zl y) := Nat.lt_of_lt_of_le (lt_nl _) (Nat.pow_le_pow_right (by decide) (Nat.le_max_right ..))
  have h3 := Int.natAbs_add_le x y
  rw [Nat.pow_succ]
  omega
theorem zk_set {a b p c : Nat} {ps : List NE} {A : Option Addr} {v : Int} (h : Zk a (ps.map zz)) (hv : zl v ≤ b) (hab : a ≤ b) : Zk b ((ps.set p (A, c, v)).map zz) := by
  intro z hz
  rw [List.map_set] at hz
  rcases mem_set_cases hz with h1 | h1
  · exact Nat.le_trans (h z h1) hab
  · rw [h1]; exact hv
theorem rd_pre {α : Type} {f : α → List Value} {z n m c : Nat} {w : World} {A : Option Addr} {es : List α} (hz : ∀ e, (f e).length = z) (h : Rd z w A n c (fl f es)) (hm : m ≤ n) : Rd z w A m m (fl f (es.take m)) := by
  have h1 : m * z ≤ n * z := Nat.mul_le_mul_right _ hm
  have h2 := h.len
  rw [fl_take hz]
  refine ⟨by rw [List.length_take]; omega, Nat.le_refl _, Nat.le_trans hm (Nat.le_trans h.cap h.big), fun hp => ?_⟩
  obtain ⟨b, off, rfl, hlt, hc⟩ := h.cells (by omega)
  exact ⟨b, off, rfl, hlt, fun i hi => by rw [hc i (by omega), List.getElem?_take_of_lt hi]⟩
set_option maxRecDepth 100000 in
set_option maxHeartbeats 2000000 in
theorem p_deg {A0 : Option Addr} {n0 c0 : Nat} {es0 : List NE} {xs : List Int} {w0 : World} (h0 : (pfRow fN FN 2 A0 n0 c0 es0).P w0) (hz0 : es0.map zz = xs) (hn : n0 ≤ 100000000) :
    Calls Tryd.prog 37 #[.slice A0 n0 c0] w0 fun e w' => e = .returned (.int .i64 (((degN xs : Nat) : Int) - 1)) ∧ Below w0.heap.size w0 w' := by
  refine enter Tryd.func37 rfl Tryd.ntmps37 rfl ?_
  intro a henv hst
  have hlen0 := h0.2.1
  have hbig0 := Nat.le_trans h0.1.cap h0.1.big
  unfold maxLen at hbig0
  replace hst := hst.argRow h0
  clear h0
  refine wp_seq ?_
  refine region_seq ?_
  refine sv (v := .int .i64 0) henv rfl (rn_assign henv rfl) ?_
  clear henv a; intro a henv
  refine wpList_nil ?_
  refine th_n ?_
  refine wp_scope_straight ?_
  refine wp_seq ?_
  refine region_seq ?_
  revert a
  refine mA rfl rfl ?_
  refine sA (v := .int .i64 (n0 : Nat)) rfl (fun _ henv => rn_len henv Tryd.underlying24 rfl) ?_
  refine sA (v := .int .i64 (((n0 : Nat) : Int) - (1 : Int))) rfl (fun _ henv => rn_sub henv rfl rfl (IntWalk.i64_in _ (by omega))) ?_
  refine aA rfl rfl ?_
  intro a henv
  refine wpList_nil ?_
  refine th_n ?_
  refine wp_seq ?_
  refine wp_label ?_
  refine th_n ?_
  refine wp_seq ?_
  refine cut (fun a w => ∃ q : Nat, Env 18 a [(3, .int .i64 (((q : Nat) : Int) - 1))] ∧ St w0 w [] [] ∧ degN xs = q) ?_ ?_
  · refine wp_block ?_
    refine wp_loop_ghost (fun mz a w => ∃ i : Nat, i = mz ∧ Env 18 a [(0, .slice A0 n0 c0), (3, .int .i64 (((i : Nat) : Int) - 1))] ∧ St w0 w [] [pfRow fN FN 2 A0 n0 c0 es0] ∧ i ≤ n0 ∧ degN xs = degN (xs.take i)) _ ⟨n0, rfl, henv.sub ⟨rfl, rfl, trivial⟩, hst.pick [] [0] (by decide), (Nat.le_refl _), (by rw [List.take_of_length_le (by rw [← hz0, List.length_map]; omega)])⟩ ?_
    clear henv hst a
    rintro mz a w51 ⟨i, rfl, henv, hst, hi, hd⟩
    refine wp_seq ?_
    refine wp_seq ?_
    refine region_seq ?_
    revert a
    refine mA rfl rfl ?_
    refine sA (v := .bool (decide (((i : Nat) : Int) - 1 ≥ (0 : Int)))) rfl (fun _ henv => rn_bin henv rfl rfl rfl) ?_
    intro a henv
    refine wpList_nil ?_
    refine th_n ?_
    refine if_split henv rfl (fun hc52 => ?_) (fun hc52 => ?_)
    · obtain ⟨j, hj⟩ : ∃ j : Nat, ((i : Nat) : Int) - 1 = (j : Nat) := ⟨i - 1, by have := of_decide_eq_true hc52; omega⟩
      rw [hj] at henv
      obtain rfl : i = j + 1 := by omega
      clear hj
      obtain ⟨⟨A, c, x⟩, he0⟩ : ∃ e, es0[j]? = some e := ⟨_, List.getElem?_eq_getElem (by omega)⟩
      replace hst := hst.elem (k := 0) rfl he0
      replace hst : St w0 _ [] [pfZ A c x, pfRow fN FN 2 A0 n0 c0 es0] := hst
      refine wp_skip ?_
      refine th_n ?_
      refine wp_seq ?_
      refine wp_block ?_
      refine wp_seq ?_
      refine region_seq ?_
      revert a
      refine mA rfl rfl ?_
      refine mA rfl rfl ?_
      refine sA (v := .pointer (some ⟨ab A0, ao A0 + j * 2, none⟩)) rfl (fun _ henv => rn_idxR (i := j) henv Tryd.underlying24 (ty_anvil_integer_Int.size) rfl rfl (by omega) rfl (show (pfRow fN FN 2 A0 n0 c0 es0).P _ from (hst.pat (k := 1) rfl)).1) ?_
      refine sA (v := .agg #[.bool (neg x), .slice A (zl x) c]) rfl (fun _ henv => rn_loadE (i := j) (e := (A, c, x)) henv ty_anvil_integer_Int rfl rfl fN_len (show (pfRow fN FN 2 A0 n0 c0 es0).P _ from (hst.pat (k := 1) rfl)).1 (by omega) he0 rfl) ?_
      intro a henv
      refine seq_step rfl (op_call henv rfl Tryd.call56 rfl (sign_z (z := x)) ?_)
      rintro e w53 ⟨rfl, hb⟩
      refine ⟨_, rfl, ?_⟩
      clear henv a; intro a henv
      replace hst := hst.call hb
      clear hb
      refine sv (v := .bool (x.sign != (0 : Int))) henv rfl (rn_bin henv rfl rfl rfl) ?_
      clear henv a; intro a henv
      refine wpList_nil ?_
      refine th_n ?_
      refine if_split henv rfl (fun hc54 => ?_) (fun hc54 => ?_)
      · have hx0 : x ≠ 0 := fun h0 => by rw [h0] at hc54; simp at hc54
        rw [show ((j : Nat) : Int) = ((j + 1 : Nat) : Int) - 1 by omega] at henv
        refine wp_exit ?_
        refine bl_o rfl (th_x (th_x (bl_x (th_n ?_))))
        exact ⟨j + 1, henv.sub ⟨rfl, trivial⟩, hst.pick [] [] (by decide), (hd.trans (by rw [zts hz0 he0, deg_snoc hx0, List.length_take, ← hz0, List.length_map]; omega))⟩
      · have hx0 : x = 0 := Int.sign_eq_zero_iff_zero.1 (by have := hc54; simpa using this)
        refine wp_skip ?_
        refine bl_n (th_n ?_)
        refine region_seq ?_
        revert a
        refine mA rfl rfl ?_
        refine sA (v := .int .i64 (((j : Nat) : Int) - (1 : Int))) rfl (fun _ henv => rn_sub henv rfl rfl (IntWalk.i64_in _ (by omega))) ?_
        refine aA rfl rfl ?_
        intro a henv
        refine wpList_nil ?_
        exact th_n ⟨_, (by omega), ⟨j, rfl, henv.sub ⟨rfl, rfl, trivial⟩, hst.pick [] [1] (by decide), (by omega), (by rw [hd, zts hz0 he0, hx0, deg_snoc0])⟩⟩
    · obtain rfl : i = 0 := by have := of_decide_eq_false hc52; omega
      refine wp_exit ?_
      refine th_x (th_x (bl_x (th_n ?_)))
      exact ⟨0, henv.sub ⟨rfl, trivial⟩, hst.pick [] [] (by decide), (hd.trans (deg_nil _))⟩
  clear henv hst a
  rintro a w55 ⟨q, henv, hst, hq⟩
  refine wp_seq ?_
  refine region_seq ?_
  revert a
  refine mA rfl rfl ?_
  refine aA rfl rfl ?_
  intro a henv
  refine wpList_nil ?_
  refine th_n ?_
  refine wp_ret ?_
  refine sc_r ?_
  refine leave henv (res1 Tryd.results37 (RV.tmp henv rfl)) ?_
  exact ⟨by rw [hq], hst.below⟩
set_option maxRecDepth 100000 in
set_option maxHeartbeats 4000000 in
theorem sp_join_ok {A0 : Option Addr} {n0 c0 : Nat} {es0 : List LE} {zss : List (List Int)} {k m : Nat} {w0 : World} (h0 : (pfRow fL FL 1 A0 n0 c0 es0).P w0) (hz0 : es0.map lz = zss) (hlen : ∀ v ∈ es0, v.2.1 ≤ 8192) (hxk : ∀ v ∈ es0, ∀ x ∈ v.2.2.2, zl (zz x) ≤ 1000) (hn0 : n0 ≤ 15) (hk1 : 1 ≤ k) (hk4 : k ≤ 4096) (hm8 : m ≤ 8192) (hm0 : m ≠ 0) (hdg : ¬ (((degN (jnN zss k (szN zss k m n0) n0) : Nat) : Int) - 1 ≥ (m : Nat))) :
    Calls Tryd.prog 18 #[.slice A0 n0 c0, .int .i64 (k : Nat), .int .i64 (m : Nat)] w0 fun e w' => ∃ v, e = .returned (.tuple #[v, .int .i64 0]) ∧ NRow w' v m ((jnN zss k (szN zss k m n0) n0).take m) ∧ Below w0.heap.size w0 w' := by
  refine enter Tryd.func18 rfl Tryd.ntmps18 rfl ?_
  intro a henv hst
  have hlen0 := h0.2.1
  have hbig0 := Nat.le_trans h0.1.cap h0.1.big
  unfold maxLen at hbig0
  replace hst := hst.argRow h0
  clear h0
  refine wp_seq ?_
  refine region_seq ?_
  revert a
  refine aA rfl rfl ?_
  refine aA rfl rfl ?_
  intro a henv
  refine wpList_nil ?_
  refine th_n ?_
  refine wp_seq ?_
  refine wp_seq ?_
  refine region_seq ?_
  revert a
  refine mA rfl rfl ?_
  refine sA (v := .bool (decide (((k : Nat) : Int) < (1 : Int)))) rfl (fun _ henv => rn_bin henv rfl rfl rfl) ?_
  intro a henv
  rw [show (decide (((k : Nat) : Int) < (1 : Int))) = false from (decide_eq_false (by omega))] at henv
  revert a
  refine mA rfl rfl ?_
  refine gA (v := .int .i64 (k : Nat)) rfl rfl rfl rfl (fun _ henv => rn_move henv rfl) ?_
  refine gA (v := .bool (decide (((k : Nat) : Int) > (4096 : Int)))) rfl rfl rfl rfl (fun _ henv => rn_bin henv rfl rfl rfl) ?_
  intro a henv
  rw [show (decide (((k : Nat) : Int) > (4096 : Int))) = false from (decide_eq_false (by omega))] at henv
  revert a
  refine sA (v := .bool false) rfl (fun _ henv => rn_pick henv rfl rfl) ?_
  refine mA rfl rfl ?_
  refine gA (v := .int .i64 (m : Nat)) rfl rfl rfl rfl (fun _ henv => rn_move henv rfl) ?_
  refine gA (v := .bool (decide (((m : Nat) : Int) < (0 : Int)))) rfl rfl rfl rfl (fun _ henv => rn_bin henv rfl rfl rfl) ?_
  intro a henv
  rw [show (decide (((m : Nat) : Int) < (0 : Int))) = false from (decide_eq_false (by omega))] at henv
  revert a
  refine sA (v := .bool false) rfl (fun _ henv => rn_pick henv rfl rfl) ?_
  refine mA rfl rfl ?_
  refine gA (v := .int .i64 (m : Nat)) rfl rfl rfl rfl (fun _ henv => rn_move henv rfl) ?_
  refine gA (v := .bool (decide (((m : Nat) : Int) > (8192 : Int)))) rfl rfl rfl rfl (fun _ henv => rn_bin henv rfl rfl rfl) ?_
  intro a henv
  rw [show (decide (((m : Nat) : Int) > (8192 : Int))) = false from (decide_eq_false (by omega))] at henv
  refine sv (v := .bool false) henv rfl (rn_pick henv rfl rfl) ?_
  clear henv a; intro a henv
  refine wpList_nil ?_
  refine th_n ?_
  refine if_f henv rfl (rfl) ?_
  refine wp_skip ?_
  refine th_n ?_
  refine wp_seq ?_
  refine wp_seq ?_
  refine region_seq ?_
  revert a
  refine mA rfl rfl ?_
  refine sA (v := .int .i64 (n0 : Nat)) rfl (fun _ henv => rn_len henv Tryd.underlying26 rfl) ?_
  refine sA (v := .bool (decide (((n0 : Nat) : Int) > (15 : Int)))) rfl (fun _ henv => rn_bin henv rfl rfl rfl) ?_
  intro a henv
  rw [show (decide (((n0 : Nat) : Int) > (15 : Int))) = false from (decide_eq_false (by omega))] at henv
  refine wpList_nil ?_
  refine th_n ?_
  refine if_f henv rfl (rfl) ?_
  refine wp_skip ?_
  refine th_n ?_
  refine wp_seq ?_
  refine region_seq ?_
  revert a
  refine mA rfl rfl ?_
  refine aA rfl rfl ?_
  intro a henv
  refine wpList_nil ?_
  refine th_n ?_
  refine wp_seq ?_
  refine wp_seq ?_
  refine region_seq ?_
  revert a
  refine mA rfl rfl ?_
  refine sA (v := .int .i64 (n0 : Nat)) rfl (fun _ henv => rn_len henv Tryd.underlying26 rfl) ?_
  refine mA rfl rfl ?_
  intro a henv
  refine wpList_nil ?_
  refine th_n ?_
  refine wp_block ?_
  refine wp_loop_ghost (fun mz a w => ∃ i : Nat, ∃ T : Nat, n0 - i = mz ∧ Env 98 a [(0, .slice A0 n0 c0), (1, .int .i64 (k : Nat)), (2, .int .i64 (m : Nat)), (8, .int .i64 (T : Nat)), (34, .slice A0 n0 c0), (35, .int .i64 (n0 : Nat)), (36, .int .i64 (i : Nat))] ∧ St w0 w [] [pfRow fL FL 1 A0 n0 c0 es0] ∧ i ≤ n0 ∧ T = szN zss k m i ∧ T ≤ 65536) _ ⟨0, m, rfl, henv.sub ⟨rfl, rfl, rfl, rfl, rfl, rfl, rfl, trivial⟩, hst.pick [] [0] (by decide), (Nat.zero_le _), rfl, (by omega)⟩ ?_
  clear henv hst a
  rintro mz a w51 ⟨i, T, rfl, henv, hst, hi, hT, hTb⟩
  refine wp_seq ?_
  refine region_seq ?_
  refine sv (v := .bool (decide (((i : Nat) : Int) < ((n0 : Nat) : Int)))) henv rfl (rn_bin henv rfl rfl rfl) ?_
  clear henv a; intro a henv
  refine wpList_nil ?_
  refine th_n ?_
  refine wp_seq ?_
  refine if_split henv rfl (fun hc52 => ?_) (fun hc52 => ?_)
  · have hlt0 : i < n0 := by have := of_decide_eq_true hc52; omega
    obtain ⟨⟨A, n, c, es⟩, he0⟩ : ∃ e, es0[i]? = some e := ⟨_, List.getElem?_eq_getElem (by omega)⟩
    replace hst := hst.elem (k := 0) rfl he0
    replace hst : St w0 _ [] [pfRow fN FN 2 A n c es, pfRow fL FL 1 A0 n0 c0 es0] := hst
    have hel := (hst.pat (k := 0) rfl).2.1
    have hn8 : n ≤ 8192 := hlen _ (List.mem_of_getElem? he0)
    obtain ⟨hxi, hxl⟩ := part_at hz0 he0 hel
    have hik : i * k ≤ 57344 := Nat.mul_le_mul (show i ≤ 14 by omega) hk4
    refine wp_skip ?_
    refine th_n ?_
    refine wp_seq ?_
    refine wp_block ?_
    refine wp_seq ?_
    refine region_seq ?_
    revert a
    refine mA rfl rfl ?_
    refine sA (v := .pointer (some ⟨ab A0, ao A0 + i * 1, none⟩)) rfl (fun _ henv => rn_idxR (i := i) henv Tryd.underlying26 (ty__integer_Int.size) rfl rfl (by omega) rfl (show (pfRow fL FL 1 A0 n0 c0 es0).P _ from (hst.pat (k := 1) rfl)).1) ?_
    refine sA (v := .slice A n c) rfl (fun _ henv => rn_loadE1 (i := i) (j := 0) (e := (A, n, c, es)) henv ty__integer_Int rfl rfl fL_len (by decide) (show (pfRow fL FL 1 A0 n0 c0 es0).P _ from (hst.pat (k := 1) rfl)).1 (by omega) he0 rfl) ?_
    refine aA rfl rfl ?_
    refine aA rfl rfl ?_
    intro a henv
    refine wpList_nil ?_
    refine th_n ?_
    refine wp_seq ?_
    refine wp_seq ?_
    refine region_seq ?_
    revert a
    refine mA rfl rfl ?_
    refine sA (v := .int .i64 (n : Nat)) rfl (fun _ henv => rn_len henv Tryd.underlying24 rfl) ?_
    refine sA (v := .bool (decide (((n : Nat) : Int) > (8192 : Int)))) rfl (fun _ henv => rn_bin henv rfl rfl rfl) ?_
    intro a henv
    rw [show (decide (((n : Nat) : Int) > (8192 : Int))) = false from (decide_eq_false (by omega))] at henv
    refine wpList_nil ?_
    refine th_n ?_
    refine if_f henv rfl (rfl) ?_
    refine wp_skip ?_
    refine th_n ?_
    refine region_seq ?_
    revert a
    refine mA rfl rfl ?_
    refine mA rfl rfl ?_
    refine mA rfl rfl ?_
    refine sA (v := .int .i64 (i * k : Nat)) rfl (fun _ henv => rn_mul henv rfl rfl (by rw [IntWalk.i64_in _ (by omega)]; omega)) ?_
    refine mA rfl rfl ?_
    refine sA (v := .int .i64 (n : Nat)) rfl (fun _ henv => rn_len henv Tryd.underlying24 rfl) ?_
    refine sA (v := .int .i64 ((i * k) + n : Nat)) rfl (fun _ henv => rn_add henv rfl rfl (by rw [IntWalk.i64_in _ (by omega)]; omega)) ?_
    refine sA (v := .int .i64 (max T ((i * k) + n) : Nat)) rfl (fun _ henv => rn_maxN (m := T) (n := (i * k) + n) henv rfl rfl) ?_
    refine aA rfl rfl ?_
    intro a henv
    refine wpList_nil ?_
    refine bl_n (th_n ?_)
    refine region_seq ?_
    revert a
    refine sA (v := .int .i64 (i + 1 : Nat)) rfl (fun _ henv => rn_add henv rfl rfl (by rw [IntWalk.i64_in _ (by omega)]; omega)) ?_
    refine mA rfl rfl ?_
    intro a henv
    refine wpList_nil ?_
    exact th_n ⟨_, (by omega), ⟨i + 1, max T ((i * k) + n), rfl, henv.sub ⟨rfl, rfl, rfl, rfl, rfl, rfl, rfl, trivial⟩, hst.pick [] [1] (by decide), (by omega), (by rw [hT, szN, hxl]), (by omega)⟩⟩
  · obtain rfl : n0 = i := by have := of_decide_eq_false hc52; omega
    refine wp_exit ?_
    refine th_x (th_x (bl_x (th_n ?_)))
    refine wp_seq ?_
    refine region_seq ?_
    refine sv (v := .int .i64 (T : Nat)) henv rfl (rn_move henv rfl) ?_
    clear henv a; intro a henv
    refine seq_step rfl (op_makeS (f := fN) (e0 := (none, 0, 0)) (q := notU) (n := T) henv hst rfl Tryd.underlying24 inf_anvil_integer_Int rfl rfl fN_zero rfl rfl rfl (by omega) (by unfold maxLen; omega) ?_)
    clear henv hst a; intro a w54 g53 henv hst
    have hmT : m ≤ T := hT ▸ sz_ge0 zss k m n0
    replace hst := hst.addNs (es_zeros T _) ⟨nou_rowS, trivial⟩
    refine sv (v := .slice (some ⟨g53, 0, none⟩) T T) henv rfl (rn_assign henv rfl) ?_
    clear henv a; intro a henv
    refine wpList_nil ?_
    refine th_n ?_
    refine wp_seq ?_
    refine wp_seq ?_
    refine region_seq ?_
    revert a
    refine mA rfl rfl ?_
    refine sA (v := .int .i64 (n0 : Nat)) rfl (fun _ henv => rn_len henv Tryd.underlying26 rfl) ?_
    refine mA rfl rfl ?_
    intro a henv
    refine wpList_nil ?_
    refine th_n ?_
    refine wp_block ?_
    refine wp_loop_ghost (fun mz a w => ∃ i : Nat, ∃ os : List NE, n0 - i = mz ∧ Env 98 a [(1, .int .i64 (k : Nat)), (2, .int .i64 (m : Nat)), (11, .slice (some ⟨g53, 0, none⟩) T T), (55, .slice A0 n0 c0), (56, .int .i64 (n0 : Nat)), (57, .int .i64 (i : Nat))] ∧ St w0 w [rowS notU 39 2 (some ⟨g53, 0, none⟩) T T (fl fN os)] [pfRow fL FL 1 A0 n0 c0 es0, pfEs FN os] ∧ i ≤ n0 ∧ os.map zz = jnN zss k T i ∧ Zk (1000 + 8192 * i) (os.map zz)) _ ⟨0, (List.replicate T (none, 0, 0)), rfl, henv.sub ⟨rfl, rfl, rfl, rfl, rfl, rfl, trivial⟩, hst.pick [0] [1, 0] (by decide), (Nat.zero_le _), (by rw [List.map_replicate]; rfl), (fun z hz => by rw [List.map_replicate] at hz; rw [List.eq_of_mem_replicate hz]; exact Nat.le_trans (by rw [zl_zero]; omega) (Nat.zero_le _))⟩ ?_
    clear henv hst a
    rintro mz a w55 ⟨i, os, rfl, henv, hst, hi, ho, hkz⟩
    refine wp_seq ?_
    refine region_seq ?_
    refine sv (v := .bool (decide (((i : Nat) : Int) < ((n0 : Nat) : Int)))) henv rfl (rn_bin henv rfl rfl rfl) ?_
    clear henv a; intro a henv
    refine wpList_nil ?_
    refine th_n ?_
    refine wp_seq ?_
    refine if_split henv rfl (fun hc56 => ?_) (fun hc56 => ?_)
    · have hlt0 : i < n0 := by have := of_decide_eq_true hc56; omega
      obtain ⟨⟨A, n, c, es⟩, he0⟩ : ∃ e, es0[i]? = some e := ⟨_, List.getElem?_eq_getElem (by omega)⟩
      replace hst := hst.elem (k := 0) rfl he0
      replace hst : St w0 _ [rowS notU 39 2 (some ⟨g53, 0, none⟩) T T (fl fN os)] [pfRow fN FN 2 A n c es, pfRow fL FL 1 A0 n0 c0 es0, pfEs FN os] := hst
      have hel := (hst.pat (k := 0) rfl).2.1
      have hn8 : n ≤ 8192 := hlen _ (List.mem_of_getElem? he0)
      obtain ⟨hxi, hxl⟩ := part_at hz0 he0 hel
      have hik : i * k ≤ 57344 := Nat.mul_le_mul (show i ≤ 14 by omega) hk4
      have hsz : i * k + n ≤ T := by have := sz_at zss k m (i := i) hlt0; rw [hxl, ← hT] at this; exact this
      refine wp_skip ?_
      refine th_n ?_
      refine wp_seq ?_
      refine wp_block ?_
      refine wp_seq ?_
      refine region_seq ?_
      revert a
      refine mA rfl rfl ?_
      refine sA (v := .pointer (some ⟨ab A0, ao A0 + i * 1, none⟩)) rfl (fun _ henv => rn_idxR (i := i) henv Tryd.underlying26 (ty__integer_Int.size) rfl rfl (by omega) rfl (show (pfRow fL FL 1 A0 n0 c0 es0).P _ from (hst.pat (k := 1) rfl)).1) ?_
      refine sA (v := .slice A n c) rfl (fun _ henv => rn_loadE1 (i := i) (j := 0) (e := (A, n, c, es)) henv ty__integer_Int rfl rfl fL_len (by decide) (show (pfRow fL FL 1 A0 n0 c0 es0).P _ from (hst.pat (k := 1) rfl)).1 (by omega) he0 rfl) ?_
      refine aA rfl rfl ?_
      refine aA rfl rfl ?_
      intro a henv
      refine wpList_nil ?_
      refine th_n ?_
      refine wp_seq ?_
      refine region_seq ?_
      revert a
      refine mA rfl rfl ?_
      refine sA (v := .int .i64 (n : Nat)) rfl (fun _ henv => rn_len henv Tryd.underlying24 rfl) ?_
      refine mA rfl rfl ?_
      intro a henv
      refine wpList_nil ?_
      refine th_n ?_
      refine wp_block ?_
      refine wp_loop_ghost (fun mz a w => ∃ j : Nat, ∃ ps : List NE, n - j = mz ∧ Env 98 a [(1, .int .i64 (k : Nat)), (2, .int .i64 (m : Nat)), (11, .slice (some ⟨g53, 0, none⟩) T T), (12, .int .i64 (i : Nat)), (55, .slice A0 n0 c0), (56, .int .i64 (n0 : Nat)), (57, .int .i64 (i : Nat)), (62, .slice A n c), (63, .int .i64 (n : Nat)), (64, .int .i64 (j : Nat))] ∧ St w0 w [rowS notU 39 2 (some ⟨g53, 0, none⟩) T T (fl fN ps)] [pfRow fL FL 1 A0 n0 c0 es0, pfRow fN FN 2 A n c es, pfEs FN ps] ∧ j ≤ n ∧ ps.map zz = adN (zss.getD i []) (i * k) (jnN zss k T i) j ∧ Zk (1000 + 8192 * i + j) (ps.map zz)) _ ⟨0, os, rfl, henv.sub ⟨rfl, rfl, rfl, rfl, rfl, rfl, rfl, rfl, rfl, rfl, trivial⟩, hst.pick [0] [1, 0, 2] (by decide), (Nat.zero_le _), ho, hkz⟩ ?_
      clear henv hst a
      rintro mz a w57 ⟨j, ps, rfl, henv, hst, hj, ho2, hkz2⟩
      refine wp_seq ?_
      refine region_seq ?_
      refine sv (v := .bool (decide (((j : Nat) : Int) < ((n : Nat) : Int)))) henv rfl (rn_bin henv rfl rfl rfl) ?_
      clear henv a; intro a henv
      refine wpList_nil ?_
      refine th_n ?_
      refine wp_seq ?_
      refine if_split henv rfl (fun hc58 => ?_) (fun hc58 => ?_)
      · have hlt : j < n := by have := of_decide_eq_true hc58; omega
        obtain ⟨⟨C, d, x⟩, he1⟩ : ∃ e, es[j]? = some e := ⟨_, List.getElem?_eq_getElem (by omega)⟩
        have hpl : ps.length = T := by rw [← List.length_map (f := zz), ho2, adN_len, jnN_len]
        obtain ⟨⟨E, f, y⟩, he2⟩ : ∃ e, ps[i * k + j]? = some e := ⟨_, List.getElem?_eq_getElem (by omega)⟩
        replace hst := hst.elem (k := 1) rfl he1
        replace hst := hst.elemE (k := 3) rfl he2
        replace hst : St w0 _ [rowS notU 39 2 (some ⟨g53, 0, none⟩) T T (fl fN ps)] [pfZ E f y, pfZ C d x, pfRow fL FL 1 A0 n0 c0 es0, pfRow fN FN 2 A n c es, pfEs FN ps] := hst
        have hx1 : zl x ≤ 1000 := hxk _ (List.mem_of_getElem? he0) _ (List.mem_of_getElem? he1)
        have hy1 : zl y ≤ 1000 + 8192 * i + j := hkz2.es rfl _ (List.mem_of_getElem? he2)
        refine wp_skip ?_
        refine th_n ?_
        refine wp_seq ?_
        refine wp_block ?_
        refine wp_seq ?_
        refine region_seq ?_
        revert a
        refine mA rfl rfl ?_
        refine sA (v := .pointer (some ⟨ab A, ao A + j * 2, none⟩)) rfl (fun _ henv => rn_idxR (i := j) henv Tryd.underlying24 (ty_anvil_integer_Int.size) rfl rfl (by omega) rfl (show (pfRow fN FN 2 A n c es).P _ from (hst.pat (k := 3) rfl)).1) ?_
        refine sA (v := .agg #[.bool (neg x), .slice C (zl x) d]) rfl (fun _ henv => rn_loadE (i := j) (e := (C, d, x)) henv ty_anvil_integer_Int rfl rfl fN_len (show (pfRow fN FN 2 A n c es).P _ from (hst.pat (k := 3) rfl)).1 (by omega) he1 rfl) ?_
        intro a henv
        refine seq_step rfl (op_alloc (c := #[.bool (neg 0), .slice none (zl 0) 0]) henv hst rfl zero_anvil_integer_Int zcells ?_)
        clear henv hst a; intro a w60 g59 henv hst
        refine sv (v := .int .i64 (j : Nat)) henv rfl (rn_assign henv rfl) ?_
        clear henv a; intro a henv
        refine seq_step rfl (op_store (k := 0) (c' := #[.bool (neg x), .slice C (zl x) d]) henv hst (ty_anvil_integer_Int.size) rfl rfl rfl rfl (by simp) rfl rfl ?_)
        clear henv hst a; intro a w61 henv hst
        refine wpList_nil ?_
        refine th_n ?_
        refine region_any (n := 18) (Sk [bk g59 #[.bool (neg x), .slice C (zl x) d] 39] [pfZ E f y, pfZ C d x, pfRow fL FL 1 A0 n0 c0 es0, pfRow fN FN 2 A n c es, pfEs FN ps] [17] [rowS notU 39 2 (some ⟨g53, 0, none⟩) T T (fl fN ps)]) mixed rfl henv hst ?_
        clear henv hst; intro w62 henv hst
        refine tM (i := 0) [16, 17] rfl (by kernel_rfl) (fun _ _ _ h => h) henv rfl rfl ?_
        clear henv a; intro a henv
        refine tM (i := 1) [3, 5, 16, 17] rfl (by kernel_rfl) (fun _ _ _ h => h) henv rfl rfl ?_
        clear henv a; intro a henv
        refine tM (i := 2) [3, 5, 16, 17] rfl (by kernel_rfl) (fun _ _ _ h => h) henv rfl rfl ?_
        clear henv a; intro a henv
        refine tA (i := 3) [5, 16, 17] (v := .int .i64 (i * k : Nat)) rfl (by kernel_rfl) (fun _ _ _ h => h) henv rfl (fun _ => rn_mul henv rfl rfl (by rw [IntWalk.i64_in _ (by omega)]; omega)) ?_
        clear henv a; intro a henv
        refine tM (i := 4) [5, 16, 17] rfl (by kernel_rfl) (fun _ _ _ h => h) henv rfl rfl ?_
        clear henv a; intro a henv
        refine tA (i := 5) [16, 17] (v := .int .i64 ((i * k) + j : Nat)) rfl (by kernel_rfl) (fun _ _ _ h => h) henv rfl (fun _ => rn_add henv rfl rfl (by rw [IntWalk.i64_in _ (by omega)]; omega)) ?_
        clear henv a; intro a henv
        refine tM (i := 6) [12, 13, 15, 16, 17] rfl (by kernel_rfl) (fun _ _ _ h => h) henv rfl rfl ?_
        clear henv a; intro a henv
        refine tM (i := 7) [9, 11, 12, 13, 15, 16, 17] rfl (by kernel_rfl) (fun _ _ _ h => h) henv rfl rfl ?_
        clear henv a; intro a henv
        refine tM (i := 8) [9, 11, 12, 13, 15, 16, 17] rfl (by kernel_rfl) (fun _ _ _ h => h) henv rfl rfl ?_
        clear henv a; intro a henv
        refine tA (i := 9) [11, 12, 13, 15, 16, 17] (v := .int .i64 (i * k : Nat)) rfl (by kernel_rfl) (fun _ _ _ h => h) henv rfl (fun _ => rn_mul henv rfl rfl (by rw [IntWalk.i64_in _ (by omega)]; omega)) ?_
        clear henv a; intro a henv
        refine tM (i := 10) [11, 12, 13, 15, 16, 17] rfl (by kernel_rfl) (fun _ _ _ h => h) henv rfl rfl ?_
        clear henv a; intro a henv
        refine tA (i := 11) [12, 13, 15, 16, 17] (v := .int .i64 ((i * k) + j : Nat)) rfl (by kernel_rfl) (fun _ _ _ h => h) henv rfl (fun _ => rn_add henv rfl rfl (by rw [IntWalk.i64_in _ (by omega)]; omega)) ?_
        clear henv a; intro a henv
        refine sAny_take (i := 12) [13, 15, 16, 17] (fun w' => (rowS notU 39 2 (some ⟨g53, 0, none⟩) T T (fl fN ps)).P w') (v := .pointer (some ⟨ab (some ⟨g53, 0, none⟩), ao (some ⟨g53, 0, none⟩) + ((i * k) + j) * 2, none⟩)) rfl (by kernel_rfl) (fun _ _ _ h => h) (fun _ _ hj hS => (hS.two rfl hj).owns (k := 0) rfl) henv rfl (hst.owns (k := 1) rfl) (fun w' hg => rn_idxR (i := (i * k) + j) henv Tryd.underlying24 (ty_anvil_integer_Int.size) rfl rfl (by omega) rfl (rowS_rd hg)) ?_
        clear henv a; intro a henv
        refine sAny_take (i := 13) [15, 16, 17] (fun w' => (rowS notU 39 2 (some ⟨g53, 0, none⟩) T T (fl fN ps)).P w') (v := .agg #[.bool (neg y), .slice E (zl y) f]) rfl (by kernel_rfl) (fun _ _ _ h => h) (fun _ _ hj hS => (hS.two rfl hj).owns (k := 0) rfl) henv rfl (hst.owns (k := 1) rfl) (fun w' hg => rn_loadE (i := (i * k) + j) (e := (E, f, y)) henv ty_anvil_integer_Int rfl rfl fN_len (rowS_rd hg) (by omega) he2 rfl) ?_
        clear henv a; intro a henv
        refine tL (i := 14) 0 0 [15, 16, 17] rfl (by kernel_rfl) (fun _ _ _ h => h) henv rfl ty_anvil_integer_Int rfl hst rfl rfl rfl ?_
        clear henv a; intro a henv
        have hs63 := zl_add y x
        refine sAny_one (i := 15) (by kernel_rfl) rfl rfl (op_call henv rfl Tryd.call36 rfl (add_z (x := y) (y := x) (show ZIn _ E f y from hst.pat (k := 0) rfl) (show ZIn _ C d x from hst.pat (k := 1) rfl) (by omega) (by omega)) ?_)
        rintro e w67 ⟨_, rfl, ⟨A64, c65, rfl, hz66⟩, hb⟩
        refine ⟨_, rfl, ?_⟩
        clear henv a; intro a henv
        replace hst := (hst.call hb).addZ hz66 ⟨nou_bk rfl, nou_rowS, trivial⟩
        clear hz66
        clear hb
        refine ⟨.inr ⟨hst.kn.pick [0] (rg 1 5), .inr (hst.kn.pick [1] [])⟩, ?_⟩
        refine sAny_take (i := 16) [17] (fun w' => (rowS notU 39 2 (some ⟨g53, 0, none⟩) T T (fl fN ps)).P w') (v := .pointer (some ⟨ab (some ⟨g53, 0, none⟩), ao (some ⟨g53, 0, none⟩) + ((i * k) + j) * 2, none⟩)) rfl (by kernel_rfl) (fun _ _ _ h => h) (fun _ _ hj hS => (hS.two rfl hj).owns (k := 0) rfl) henv rfl (hst.owns (k := 1) rfl) (fun w' hg => rn_idxR (i := (i * k) + j) henv Tryd.underlying24 (ty_anvil_integer_Int.size) rfl rfl (by omega) rfl (rowS_rd hg)) ?_
        clear henv a; intro a henv
        refine sAny_one (i := 17) (by kernel_rfl) rfl rfl (op_storeS (i := (i * k) + j) (e := (A64, c65, (y + x))) (k := 1) henv hst (ty_anvil_integer_Int.size) rfl rfl rfl rfl fN_len (by omega) hpl rfl rfl rfl ?_)
        clear henv hst a; intro a w68 henv hst
        replace hst := hst.setEs (e := (A64, c65, (y + x))) (i := 5) (j := 0) rfl rfl ((i * k) + j)
        refine ⟨.inr ⟨hst.kn.pick [0] (rg 2 5), .inl rfl⟩, ?_⟩
        refine sAny_done (by kernel_rfl) ?_ _
        refine bl_n (th_n ?_)
        refine region_seq ?_
        revert a
        refine sA (v := .int .i64 (j + 1 : Nat)) rfl (fun _ henv => rn_add henv rfl rfl (by rw [IntWalk.i64_in _ (by omega)]; omega)) ?_
        refine mA rfl rfl ?_
        intro a henv
        refine wpList_nil ?_
        exact th_n ⟨_, (by omega), ⟨j + 1, (ps.set ((i * k) + j) (A64, c65, (y + x))), rfl, henv.sub ⟨rfl, rfl, rfl, rfl, rfl, rfl, rfl, rfl, rfl, rfl, trivial⟩, hst.pick [1] [4, 5, 0] (by decide), (by omega), (ad_step ho2 hxi he1 he2), (zk_set hkz2 (by have := zl_addm y x; omega) (by omega))⟩⟩
      · obtain rfl : j = n := by have := of_decide_eq_false hc58; omega
        refine wp_exit ?_
        refine th_x (th_x (bl_x (bl_n (th_n ?_))))
        refine region_seq ?_
        revert a
        refine sA (v := .int .i64 (i + 1 : Nat)) rfl (fun _ henv => rn_add henv rfl rfl (by rw [IntWalk.i64_in _ (by omega)]; omega)) ?_
        refine mA rfl rfl ?_
        intro a henv
        refine wpList_nil ?_
        exact th_n ⟨_, (by omega), ⟨i + 1, ps, rfl, henv.sub ⟨rfl, rfl, rfl, rfl, rfl, rfl, trivial⟩, hst.pick [0] [0, 2] (by decide), (by omega), (by rw [ho2, jnN, hxl]), (hkz2.mono (by omega))⟩⟩
    · obtain rfl : n0 = i := by have := of_decide_eq_false hc56; omega
      refine wp_exit ?_
      refine th_x (th_x (bl_x (th_n ?_)))
      refine wp_seq ?_
      refine wp_seq ?_
      rw [← hT] at hdg
      refine region_seq ?_
      refine sv (v := .slice (some ⟨g53, 0, none⟩) T T) henv rfl (rn_move henv rfl) ?_
      clear henv a; intro a henv
      have hol : os.length = T := by rw [← List.length_map (f := zz), ho, jnN_len]
      refine seq_step rfl (op_call henv rfl Tryd.call37 rfl (p_deg (es0 := os) ⟨rowS_rd (hst.owns (k := 0) rfl), hol, hst.pat (k := 1) rfl⟩ ho (by omega)) ?_)
      rintro e w69 ⟨rfl, hb⟩
      refine ⟨_, rfl, ?_⟩
      clear henv a; intro a henv
      replace hst := hst.call hb
      clear hb
      revert a
      refine mA rfl rfl ?_
      refine sA (v := .bool (decide (((degN (jnN zss k T n0) : Nat) : Int) - 1 ≥ ((m : Nat) : Int)))) rfl (fun _ henv => rn_bin henv rfl rfl rfl) ?_
      intro a henv
      rw [show (decide (((degN (jnN zss k T n0) : Nat) : Int) - 1 ≥ ((m : Nat) : Int))) = false from (decide_eq_false hdg)] at henv
      refine wpList_nil ?_
      refine th_n ?_
      refine if_f henv rfl (rfl) ?_
      refine wp_skip ?_
      refine th_n ?_
      refine wp_seq ?_
      refine wp_seq ?_
      refine region_seq ?_
      revert a
      refine mA rfl rfl ?_
      refine sA (v := .bool (((m : Nat) : Int) == (0 : Int))) rfl (fun _ henv => rn_bin henv rfl rfl rfl) ?_
      intro a henv
      rw [show (((m : Nat) : Int) == (0 : Int)) = false from (beq_eq_false_iff_ne.2 (by omega))] at henv
      refine wpList_nil ?_
      refine th_n ?_
      refine if_f henv rfl (rfl) ?_
      refine wp_skip ?_
      refine th_n ?_
      refine wp_seq ?_
      refine region_seq ?_
      revert a
      refine mA rfl rfl ?_
      refine mA rfl rfl ?_
      refine mA rfl rfl ?_
      refine sA (v := .slice (some ⟨g53, 0, none⟩) m m) rfl (fun _ henv => rn_slice3 (m := m) (z := 2) henv Tryd.underlying24 (ty_anvil_integer_Int.size) rfl rfl rfl hmT) ?_
      refine aA rfl rfl ?_
      refine aA rfl rfl ?_
      intro a henv
      refine wpList_nil ?_
      refine th_n ?_
      refine wp_ret ?_
      refine leave henv (res2 Tryd.results18 (RV.tmp henv rfl) (RV.tmp henv rfl)) ?_
      exact ⟨_, rfl, ⟨_, _, _, rfl, ⟨rd_pre fN_len (rowS_rd (hst.owns (k := 0) rfl)) hmT, (by rw [List.length_take, hol]; omega), (hst.subEs (es' := os.take m) (i := 1) rfl fun _ hx => List.mem_of_mem_take hx).pat (k := 0) rfl⟩, (by rw [List.map_take, ho, ← hT])⟩, hst.below⟩
end Go.Proofs.YtoojllfijfjmoaaDoor.W

/- anvillaw21.works. Printed by pv/gen_sp5.py. No condition. -/
namespace Go.Proofs.YtoojllfijfjmoaaDoor.W
open Go.RowKit Anv Go.Lib
theorem zk_small {k : Nat} {zs : List Int} (h : zs.all (fun z => decide (z.natAbs < 4294967296)) = true) : Zk (k + 1) zs := fun z hz => by
  have h1 : z.natAbs < 4294967296 := of_decide_eq_true (List.all_eq_true.1 h z hz)
  have h2 : zl z ≤ 1 := nl_le_of_lt (by rw [Nat.pow_one]; exact h1)
  omega
theorem two_rows {vs : List LE} {a b : List Int} (h : vs.map lz = [a, b]) : ∃ A n c es B m d fs, vs = [(A, n, c, es), (B, m, d, fs)] ∧ es.map zz = a ∧ fs.map zz = b := by
  match vs, h with
  | [(A, n, c, es), (B, m, d, fs)], h =>
    injection h with h1 h2
    injection h2 with h2 _
    exact ⟨A, n, c, es, B, m, d, fs, rfl, h1, h2⟩
theorem three_rows {A B C : Option Addr} {n m q c d e : Nat} {es fs gs : List NE} {a b g : List Int} (h1 : es.map zz = a) (h2 : fs.map zz = b) (h3 : gs.map zz = g) : ([(A, n, c, es), (B, m, d, fs), (C, q, e, gs)] : List LE).map lz = [a, b, g] := by
  subst h1 h2 h3
  rfl
theorem three_le {A B C : Option Addr} {n m q c d e : Nat} {es fs gs : List NE} (h1 : n ≤ 8192) (h2 : m ≤ 8192) (h3 : q ≤ 8192) : ∀ v ∈ ([(A, n, c, es), (B, m, d, fs), (C, q, e, gs)] : List LE), v.2.1 ≤ 8192 := by
  intro v hv
  rcases List.mem_cons.1 hv with rfl | hv
  · exact h1
  rcases List.mem_cons.1 hv with rfl | hv
  · exact h2
  rcases List.mem_cons.1 hv with rfl | hv
  · exact h3
  cases hv
theorem three_zk {A B C : Option Addr} {n m q c d e : Nat} {es fs gs : List NE} {a b g : List Int} (h1 : es.map zz = a) (h2 : fs.map zz = b) (h3 : gs.map zz = g) (k1 : a.all (fun z => decide (z.natAbs < 4294967296)) = true) (k2 : b.all (fun z => decide (z.natAbs < 4294967296)) = true) (k3 : g.all (fun z => decide (z.natAbs < 4294967296)) = true) : ∀ v ∈ ([(A, n, c, es), (B, m, d, fs), (C, q, e, gs)] : List LE), ∀ x ∈ v.2.2.2, zl (zz x) ≤ 1000 := by
  intro v hv
  rcases List.mem_cons.1 hv with rfl | hv
  · exact (zk_small k1 : Zk 1000 _).es h1
  rcases List.mem_cons.1 hv with rfl | hv
  · exact (zk_small k2 : Zk 1000 _).es h2
  rcases List.mem_cons.1 hv with rfl | hv
  · exact (zk_small k3 : Zk 1000 _).es h3
  cases hv
theorem St.giveL3 {w0 w : World} {own ps : List PF} {k g i j m : Nat} {c : Array Value} {t : TypeId} {a b d : LE} (h : St w0 w own ps) (hk : own[k]? = some (bk g c t)) (hc : c.toList = fl fL [a, b, d]) (hi : ps[i]? = some (FL a)) (hj : ps[j]? = some (FL b)) (hm : ps[m]? = some (FL d)) : St w0 w (own.eraseIdx k) (pfRow fL FL 1 (some ⟨g, 0, none⟩) 3 3 [a, b, d] :: pfRd 1 (some ⟨g, 0, none⟩) 3 3 (fl fL [a, b, d]) :: ps) := by
  refine h.giveBk hk hc fL_len rfl (by decide) (fun e he => ?_) (fun o ho b1 h1 ⟨e, he, hf⟩ => ?_)
  · rcases List.mem_cons.1 he with rfl | he
    · exact h.pat hi
    rcases List.mem_cons.1 he with rfl | he
    · exact h.pat hj
    rcases List.mem_cons.1 he with rfl | he
    · exact h.pat hm
    cases he
  · rcases List.mem_cons.1 he with rfl | he
    · exact h.apart _ (List.mem_of_getElem? hi) o ho b1 h1 hf
    rcases List.mem_cons.1 he with rfl | he
    · exact h.apart _ (List.mem_of_getElem? hj) o ho b1 h1 hf
    rcases List.mem_cons.1 he with rfl | he
    · exact h.apart _ (List.mem_of_getElem? hm) o ho b1 h1 hf
    cases he
set_option maxRecDepth 100000 in
set_option maxHeartbeats 4000000 in
theorem l_works {w0 : World} :
    Calls Tryd.prog 10 #[] w0 fun e w' => e = .returned (.bool true) ∧ Below w0.heap.size w0 w' := by
  refine enter Tryd.func10 rfl Tryd.ntmps10 rfl ?_
  intro a henv hst
  refine wp_seq ?_
  refine region_seq ?_
  refine sv (v := .bool false) henv rfl (rn_assign henv rfl) ?_
  clear henv a; intro a henv
  refine wpList_nil ?_
  refine th_n ?_
  refine wp_seq ?_
  refine region_seq ?_
  refine seq_step rfl (op_buildSlice (z := 1) (pv := #[(0, .int .i64 1), (1, .int .i64 2), (2, .int .i64 3), (3, .int .i64 4), (4, .int .i64 5)]) (c := #[.int .i64 1, .int .i64 2, .int .i64 3, .int .i64 4, .int .i64 5]) henv hst rfl Tryd.underlying22 (ty_int64.size) zero_int64 (by decide) (by decide) rfl (by kernel_rfl) ?_)
  clear henv hst a; intro a w52 g51 henv hst
  replace hst := hst.giveBk (f := fI) (F := FI) (k := 0) (n := 5) (es := [1, 2, 3, 4, 5]) rfl rfl fI_len rfl (by decide) (esT_P (fun _ => rfl) _ _) (fun _ _ _ _ => esT_foot (fun _ => rfl))
  refine seq_step rfl (op_call henv rfl Tryd.call11 rfl (l_list (es0 := [1, 2, 3, 4, 5]) (hst.pat (k := 0) rfl) (by unfold I64; decide) (by omega)) ?_)
  rintro e w58 ⟨_, rfl, ⟨A53, c54, es55, rfl, hr, hl56, hz57⟩, hb⟩
  refine ⟨_, rfl, ?_⟩
  clear henv a; intro a henv
  replace hst := hst.freshRd hb hr hl56 (ap_N hr.2.1 trivial)
  clear hr
  clear hb
  refine seq_step rfl (op_call henv rfl Tryd.call12 rfl (sp_parts (k := 2) (m := 3) (hst.pat (k := 0) rfl) hz57 (by omega) (by omega) (by omega) (by omega) (by omega) (by omega) (by omega)) ?_)
  rintro e w62 ⟨_, rfl, ⟨A59, c60, vs, rfl, hp, hz61⟩, hb⟩
  refine ⟨_, rfl, ?_⟩
  clear henv a; intro a henv
  replace hst := (hst.call hb).argRow hp
  clear hp
  clear hb
  revert a
  refine mA rfl rfl ?_
  refine sA (v := .slice A59 2 c60) rfl (fun _ henv => rn_extract henv rfl rfl) ?_
  refine sA (v := .int .i64 0) rfl (fun _ henv => rn_extract henv rfl rfl) ?_
  refine aA rfl rfl ?_
  refine aA rfl rfl ?_
  intro a henv
  refine wpList_nil ?_
  obtain ⟨Aa, na, ca, esa, Ab, nb, cb, esb, rfl, hza, hzb⟩ := two_rows (hz61.trans (show _ = [[1, 2, 3], [4, 5, 0]] by decide))
  replace hst := hst.elem (k := 0) (i := 0) (e := (Aa, na, ca, esa)) rfl rfl
  replace hst := hst.elem (k := 1) (i := 1) (e := (Ab, nb, cb, esb)) rfl rfl
  replace hst : St w0 _ [] [pfRow fN FN 2 Ab nb cb esb, pfRow fN FN 2 Aa na ca esa, pfRow fL FL 1 A59 2 c60 ([(Aa, na, ca, esa), (Ab, nb, cb, esb)]), pfRow fN FN 2 A53 5 c54 es55, pfRow fI FI 1 (some ⟨g51, 0, none⟩) 5 5 ([1, 2, 3, 4, 5]), pfRd 1 (some ⟨g51, 0, none⟩) 5 5 (fl fI [1, 2, 3, 4, 5])] := hst
  refine th_n ?_
  refine wp_seq ?_
  refine region_seq ?_
  refine seq_step rfl (op_call henv rfl Tryd.call20 rfl (sp_block (n1 := 7) (n2 := 5) (k1 := 3) (k2 := 2) (by omega) (by omega) (by omega) (by omega) (by omega) (by omega)) ?_)
  rintro e w63 ⟨rfl, hb⟩
  refine ⟨_, rfl, ?_⟩
  clear henv a; intro a henv
  replace hst := hst.call hb
  clear hb
  revert a
  refine mA rfl rfl ?_
  refine sA (v := .int .i64 (blkN 7 5 3 2 : Nat)) rfl (fun _ henv => rn_extract henv rfl rfl) ?_
  refine sA (v := .int .i64 0) rfl (fun _ henv => rn_extract henv rfl rfl) ?_
  refine aA rfl rfl ?_
  refine aA rfl rfl ?_
  intro a henv
  refine wpList_nil ?_
  refine th_n ?_
  refine wp_seq ?_
  refine region_seq ?_
  refine seq_step rfl (op_buildSlice (z := 1) (pv := #[(0, .int .i64 1), (1, .int .i64 2), (2, .int .i64 3)]) (c := #[.int .i64 1, .int .i64 2, .int .i64 3]) henv hst rfl Tryd.underlying22 (ty_int64.size) zero_int64 (by decide) (by decide) rfl (by kernel_rfl) ?_)
  clear henv hst a; intro a w65 g64 henv hst
  replace hst := hst.giveBk (f := fI) (F := FI) (k := 0) (n := 3) (es := [1, 2, 3]) rfl rfl fI_len rfl (by decide) (esT_P (fun _ => rfl) _ _) (fun _ _ _ _ => esT_foot (fun _ => rfl))
  refine seq_step rfl (op_call henv rfl Tryd.call11 rfl (l_list (es0 := [1, 2, 3]) (hst.pat (k := 0) rfl) (by unfold I64; decide) (by omega)) ?_)
  rintro e w71 ⟨_, rfl, ⟨A66, c67, es68, rfl, hr, hl69, hz70⟩, hb⟩
  refine ⟨_, rfl, ?_⟩
  clear henv a; intro a henv
  replace hst := hst.freshRd hb hr hl69 (ap_N hr.2.1 trivial)
  clear hr
  clear hb
  refine seq_step rfl (op_buildSlice (z := 1) (pv := #[(0, .int .i64 10), (1, .int .i64 20), (2, .int .i64 30)]) (c := #[.int .i64 10, .int .i64 20, .int .i64 30]) henv hst rfl Tryd.underlying22 (ty_int64.size) zero_int64 (by decide) (by decide) rfl (by kernel_rfl) ?_)
  clear henv hst a; intro a w73 g72 henv hst
  replace hst := hst.giveBk (f := fI) (F := FI) (k := 0) (n := 3) (es := [10, 20, 30]) rfl rfl fI_len rfl (by decide) (esT_P (fun _ => rfl) _ _) (fun _ _ _ _ => esT_foot (fun _ => rfl))
  refine seq_step rfl (op_call henv rfl Tryd.call11 rfl (l_list (es0 := [10, 20, 30]) (hst.pat (k := 0) rfl) (by unfold I64; decide) (by omega)) ?_)
  rintro e w79 ⟨_, rfl, ⟨A74, c75, es76, rfl, hr, hl77, hz78⟩, hb⟩
  refine ⟨_, rfl, ?_⟩
  clear henv a; intro a henv
  replace hst := hst.freshRd hb hr hl77 (ap_N hr.2.1 trivial)
  clear hr
  clear hb
  refine seq_step rfl (op_buildSlice (z := 1) (pv := #[(0, .int .i64 100)]) (c := #[.int .i64 100]) henv hst rfl Tryd.underlying22 (ty_int64.size) zero_int64 (by decide) (by decide) rfl (by kernel_rfl) ?_)
  clear henv hst a; intro a w81 g80 henv hst
  replace hst := hst.giveBk (f := fI) (F := FI) (k := 0) (n := 1) (es := [100]) rfl rfl fI_len rfl (by decide) (esT_P (fun _ => rfl) _ _) (fun _ _ _ _ => esT_foot (fun _ => rfl))
  refine seq_step rfl (op_call henv rfl Tryd.call11 rfl (l_list (es0 := [100]) (hst.pat (k := 0) rfl) (by unfold I64; decide) (by omega)) ?_)
  rintro e w87 ⟨_, rfl, ⟨A82, c83, es84, rfl, hr, hl85, hz86⟩, hb⟩
  refine ⟨_, rfl, ?_⟩
  clear henv a; intro a henv
  replace hst := hst.freshRd hb hr hl85 (ap_N hr.2.1 trivial)
  clear hr
  clear hb
  refine seq_step rfl (op_buildSlice (z := 1) (pv := #[(0, .slice A66 3 c67), (1, .slice A74 3 c75), (2, .slice A82 1 c83)]) (c := #[.slice A66 3 c67, .slice A74 3 c75, .slice A82 1 c83]) henv hst rfl Tryd.underlying26 (ty__integer_Int.size) zero__integer_Int (by decide) (by decide) rfl (by kernel_rfl) ?_)
  clear henv hst a; intro a w89 g88 henv hst
  replace hst := hst.giveL3 (a := (A66, 3, c67, es68)) (b := (A74, 3, c75, es76)) (d := (A82, 1, c83, es84)) (k := 0) (i := 6) (j := 3) (m := 0) rfl rfl rfl rfl rfl
  replace hst : St w0 _ [] [pfRow fL FL 1 (some ⟨g88, 0, none⟩) 3 3 ([(A66, 3, c67, es68), (A74, 3, c75, es76), (A82, 1, c83, es84)]), pfRd 1 (some ⟨g88, 0, none⟩) 3 3 (fl fL [(A66, 3, c67, es68), (A74, 3, c75, es76), (A82, 1, c83, es84)]), pfRow fN FN 2 A82 1 c83 es84, pfRow fI FI 1 (some ⟨g80, 0, none⟩) 1 1 ([100]), pfRd 1 (some ⟨g80, 0, none⟩) 1 1 (fl fI [100]), pfRow fN FN 2 A74 3 c75 es76, pfRow fI FI 1 (some ⟨g72, 0, none⟩) 3 3 ([10, 20, 30]), pfRd 1 (some ⟨g72, 0, none⟩) 3 3 (fl fI [10, 20, 30]), pfRow fN FN 2 A66 3 c67 es68, pfRow fI FI 1 (some ⟨g64, 0, none⟩) 3 3 ([1, 2, 3]), pfRd 1 (some ⟨g64, 0, none⟩) 3 3 (fl fI [1, 2, 3]), pfRow fN FN 2 Ab nb cb esb, pfRow fN FN 2 Aa na ca esa, pfRow fL FL 1 A59 2 c60 ([(Aa, na, ca, esa), (Ab, nb, cb, esb)]), pfRow fN FN 2 A53 5 c54 es55, pfRow fI FI 1 (some ⟨g51, 0, none⟩) 5 5 ([1, 2, 3, 4, 5]), pfRd 1 (some ⟨g51, 0, none⟩) 5 5 (fl fI [1, 2, 3, 4, 5])] := hst
  refine seq_step rfl (op_call henv rfl Tryd.call18 rfl (sp_join_ok (zss := [[1, 2, 3], [10, 20, 30], [100]]) (k := 2) (m := 5) (hst.pat (k := 0) rfl) (three_rows hz70 hz78 hz86) (three_le (by decide) (by decide) (by decide)) (three_zk hz70 hz78 hz86 (by decide) (by decide) (by decide)) (by omega) (by omega) (by omega) (by omega) (by omega) (by decide)) ?_)
  rintro e w94 ⟨_, rfl, ⟨A90, c91, es92, rfl, hp, hz93⟩, hb⟩
  refine ⟨_, rfl, ?_⟩
  clear henv a; intro a henv
  replace hst := (hst.call hb).argRow hp
  clear hp
  clear hb
  revert a
  refine mA rfl rfl ?_
  refine sA (v := .slice A90 5 c91) rfl (fun _ henv => rn_extract henv rfl rfl) ?_
  refine sA (v := .int .i64 0) rfl (fun _ henv => rn_extract henv rfl rfl) ?_
  refine aA rfl rfl ?_
  refine aA rfl rfl ?_
  intro a henv
  refine wpList_nil ?_
  refine th_n ?_
  refine wp_seq ?_
  refine region_any (n := 42) (Sk [] [pfRow fN FN 2 A90 5 c91 es92, pfRow fL FL 1 (some ⟨g88, 0, none⟩) 3 3 ([(A66, 3, c67, es68), (A74, 3, c75, es76), (A82, 1, c83, es84)]), pfRd 1 (some ⟨g88, 0, none⟩) 3 3 (fl fL [(A66, 3, c67, es68), (A74, 3, c75, es76), (A82, 1, c83, es84)]), pfRow fN FN 2 A82 1 c83 es84, pfRow fI FI 1 (some ⟨g80, 0, none⟩) 1 1 ([100]), pfRd 1 (some ⟨g80, 0, none⟩) 1 1 (fl fI [100]), pfRow fN FN 2 A74 3 c75 es76, pfRow fI FI 1 (some ⟨g72, 0, none⟩) 3 3 ([10, 20, 30]), pfRd 1 (some ⟨g72, 0, none⟩) 3 3 (fl fI [10, 20, 30]), pfRow fN FN 2 A66 3 c67 es68, pfRow fI FI 1 (some ⟨g64, 0, none⟩) 3 3 ([1, 2, 3]), pfRd 1 (some ⟨g64, 0, none⟩) 3 3 (fl fI [1, 2, 3]), pfRow fN FN 2 Ab nb cb esb, pfRow fN FN 2 Aa na ca esa, pfRow fL FL 1 A59 2 c60 ([(Aa, na, ca, esa), (Ab, nb, cb, esb)]), pfRow fN FN 2 A53 5 c54 es55, pfRow fI FI 1 (some ⟨g51, 0, none⟩) 5 5 ([1, 2, 3, 4, 5]), pfRd 1 (some ⟨g51, 0, none⟩) 5 5 (fl fI [1, 2, 3, 4, 5])] [] []) mixed rfl henv hst ?_
  clear henv hst; intro w95 henv hst
  refine tM (i := 0) (rg 1 41) rfl (by kernel_rfl) (fun _ _ _ h => h) henv rfl rfl ?_
  clear henv a; intro a henv
  refine tA (i := 1) (rg 2 40) (v := .bool true) rfl (by kernel_rfl) (fun _ _ _ h => h) henv rfl (fun _ => rn_bin henv rfl rfl rfl) ?_
  clear henv a; intro a henv
  refine tM (i := 2) (rg 3 39) rfl (by kernel_rfl) (fun _ _ _ h => h) henv rfl rfl ?_
  clear henv a; intro a henv
  refine tAg (i := 3) (rg 4 38) (v := .int .i64 0) rfl (by kernel_rfl) (fun _ _ _ h => h) henv rfl rfl rfl rfl (fun _ => rn_move henv rfl) ?_
  clear henv a; intro a henv
  refine tAg (i := 4) (rg 5 37) (v := .bool true) rfl (by kernel_rfl) (fun _ _ _ h => h) henv rfl rfl rfl rfl (fun _ => rn_bin henv rfl rfl rfl) ?_
  clear henv a; intro a henv
  refine tA (i := 5) (rg 6 36) (v := .bool true) rfl (by kernel_rfl) (fun _ _ _ h => h) henv rfl (fun _ => rn_pick henv rfl rfl) ?_
  clear henv a; intro a henv
  refine tM (i := 6) (rg 7 35) rfl (by kernel_rfl) (fun _ _ _ h => h) henv rfl rfl ?_
  clear henv a; intro a henv
  refine tAg (i := 7) (rg 8 34) (v := .int .i64 0) rfl (by kernel_rfl) (fun _ _ _ h => h) henv rfl rfl rfl rfl (fun _ => rn_move henv rfl) ?_
  clear henv a; intro a henv
  refine tAg (i := 8) (rg 9 33) (v := .bool true) rfl (by kernel_rfl) (fun _ _ _ h => h) henv rfl rfl rfl rfl (fun _ => rn_bin henv rfl rfl rfl) ?_
  clear henv a; intro a henv
  refine tA (i := 9) (rg 10 32) (v := .bool true) rfl (by kernel_rfl) (fun _ _ _ h => h) henv rfl (fun _ => rn_pick henv rfl rfl) ?_
  clear henv a; intro a henv
  refine tM (i := 10) (rg 11 31) rfl (by kernel_rfl) (fun _ _ _ h => h) henv rfl rfl ?_
  clear henv a; intro a henv
  refine tAg (i := 11) (rg 12 30) (v := .slice A59 2 c60) rfl (by kernel_rfl) (fun _ _ _ h => h) henv rfl rfl rfl rfl (fun _ => rn_move henv rfl) ?_
  clear henv a; intro a henv
  refine tAg (i := 12) (rg 13 29) (v := .int .i64 2) rfl (by kernel_rfl) (fun _ _ _ h => h) henv rfl rfl rfl rfl (fun _ => rn_len henv Tryd.underlying26 rfl) ?_
  clear henv a; intro a henv
  refine tAg (i := 13) (rg 14 28) (v := .bool true) rfl (by kernel_rfl) (fun _ _ _ h => h) henv rfl rfl rfl rfl (fun _ => rn_bin henv rfl rfl rfl) ?_
  clear henv a; intro a henv
  refine tA (i := 14) (rg 15 27) (v := .bool true) rfl (by kernel_rfl) (fun _ _ _ h => h) henv rfl (fun _ => rn_pick henv rfl rfl) ?_
  clear henv a; intro a henv
  refine tM (i := 15) (rg 16 26) rfl (by kernel_rfl) (fun _ _ _ h => h) henv rfl rfl ?_
  clear henv a; intro a henv
  refine tAg (i := 16) [17, 18, 21, 22, 23, 24, 25, 26, 27, 28, 29, 30, 31, 32, 33, 34, 35, 36, 37, 38, 39, 40, 41] (v := .slice A59 2 c60) rfl (by kernel_rfl) (fun _ _ _ h => h) henv rfl rfl rfl rfl (fun _ => rn_move henv rfl) ?_
  clear henv a; intro a henv
  refine sAny_takeg (i := 17) [18, 21, 22, 23, 24, 25, 26, 27, 28, 29, 30, 31, 32, 33, 34, 35, 36, 37, 38, 39, 40, 41] (fun w' => (pfRow fL FL 1 A59 2 c60 ([(Aa, na, ca, esa), (Ab, nb, cb, esb)])).P w') (v := .pointer (some ⟨ab A59, ao A59 + 0 * 1, none⟩)) rfl (by kernel_rfl) (fun _ _ _ h => h) (fun _ _ _ hS => hS.1.pat (k := 14) rfl) henv rfl rfl rfl rfl (hst.pat (k := 14) rfl) (fun w' hg => rn_idxR (i := 0) henv Tryd.underlying26 (ty__integer_Int.size) rfl rfl (by omega) rfl (show (pfRow fL FL 1 A59 2 c60 ([(Aa, na, ca, esa), (Ab, nb, cb, esb)])).P _ from hg).1) ?_
  clear henv a; intro a henv
  refine sAny_takeg (i := 18) [21, 22, 23, 24, 25, 26, 27, 28, 29, 30, 31, 32, 33, 34, 35, 36, 37, 38, 39, 40, 41] (fun w' => (pfRow fL FL 1 A59 2 c60 ([(Aa, na, ca, esa), (Ab, nb, cb, esb)])).P w') (v := .slice Aa na ca) rfl (by kernel_rfl) (fun _ _ _ h => h) (fun _ _ _ hS => hS.1.pat (k := 14) rfl) henv rfl rfl rfl rfl (hst.pat (k := 14) rfl) (fun w' hg => rn_loadE1 (i := 0) (j := 0) (e := (Aa, na, ca, esa)) henv ty__integer_Int rfl rfl fL_len (by decide) (show (pfRow fL FL 1 A59 2 c60 ([(Aa, na, ca, esa), (Ab, nb, cb, esb)])).P _ from hg).1 (by omega) rfl rfl) ?_
  clear henv a; intro a henv
  refine sAny_oneg (i := 19) (by kernel_rfl) rfl rfl henv rfl rfl rfl (op_buildSlice (z := 1) (pv := #[(0, .int .i64 1), (1, .int .i64 2), (2, .int .i64 3)]) (c := #[.int .i64 1, .int .i64 2, .int .i64 3]) henv hst rfl Tryd.underlying22 (ty_int64.size) zero_int64 (by decide) (by decide) rfl (by kernel_rfl) ?_)
  clear henv hst a; intro a w97 g96 henv hst
  refine ⟨.inr ⟨hst.kn.pick [] (rg 0 18), .inr (hst.kn.pick [] [])⟩, ?_⟩
  replace hst := hst.giveBk (f := fI) (F := FI) (k := 0) (n := 3) (es := [1, 2, 3]) rfl rfl fI_len rfl (by decide) (esT_P (fun _ => rfl) _ _) (fun _ _ _ _ => esT_foot (fun _ => rfl))
  refine sAny_oneg (i := 20) (by kernel_rfl) rfl rfl henv rfl rfl rfl (op_call henv rfl Tryd.call15 rfl (l_ref (es0 := [1, 2, 3]) (hst.pat (k := 0) rfl) (by unfold I64; decide) (by omega)) ?_)
  rintro e w103 ⟨_, rfl, ⟨A98, c99, es100, rfl, hr, hl101, hz102⟩, hb⟩
  refine ⟨_, rfl, ?_⟩
  clear henv a; intro a henv
  replace hst := hst.freshRd hb hr hl101 (ap_M hr.2.1 trivial)
  clear hr
  clear hb
  refine ⟨.inr ⟨hst.kn.pick [] (rg 3 18), .inr (hst.kn.pick [] [])⟩, ?_⟩
  refine sAny_oneg (i := 21) (by kernel_rfl) rfl rfl henv rfl rfl rfl (op_call henv rfl Tryd.call16 rfl (l_is (xs := [1, 2, 3]) (ys := [1, 2, 3]) (hst.pat (k := 16) rfl) hza (hst.pat (k := 0) rfl) hz102 (zk_small (by decide)) (zk_small (by decide))) ?_)
  rintro e w104 ⟨rfl, hb⟩
  refine ⟨_, rfl, ?_⟩
  clear henv a; intro a henv
  replace hst := hst.call hb
  clear hb
  refine ⟨.inr ⟨hst.kn.pick [] (rg 3 18), .inr (hst.kn.pick [] [])⟩, ?_⟩
  rw [show (decide (([1, 2, 3] : List Int) = [1, 2, 3])) = true from (decide_eq_true rfl)] at henv
  refine tA (i := 22) (rg 23 19) (v := .bool true) rfl (by kernel_rfl) (fun _ _ _ h => h) henv rfl (fun _ => rn_pick henv rfl rfl) ?_
  clear henv a; intro a henv
  refine tM (i := 23) (rg 24 18) rfl (by kernel_rfl) (fun _ _ _ h => h) henv rfl rfl ?_
  clear henv a; intro a henv
  refine tAg (i := 24) [25, 26, 29, 30, 31, 32, 33, 34, 35, 36, 37, 38, 39, 40, 41] (v := .slice A59 2 c60) rfl (by kernel_rfl) (fun _ _ _ h => h) henv rfl rfl rfl rfl (fun _ => rn_move henv rfl) ?_
  clear henv a; intro a henv
  refine sAny_takeg (i := 25) [26, 29, 30, 31, 32, 33, 34, 35, 36, 37, 38, 39, 40, 41] (fun w' => (pfRow fL FL 1 A59 2 c60 ([(Aa, na, ca, esa), (Ab, nb, cb, esb)])).P w') (v := .pointer (some ⟨ab A59, ao A59 + 1 * 1, none⟩)) rfl (by kernel_rfl) (fun _ _ _ h => h) (fun _ _ _ hS => hS.1.pat (k := 14) rfl) henv rfl rfl rfl rfl (hst.pat (k := 17) rfl) (fun w' hg => rn_idxR (i := 1) henv Tryd.underlying26 (ty__integer_Int.size) rfl rfl (by omega) rfl (show (pfRow fL FL 1 A59 2 c60 ([(Aa, na, ca, esa), (Ab, nb, cb, esb)])).P _ from hg).1) ?_
  clear henv a; intro a henv
  refine sAny_takeg (i := 26) [29, 30, 31, 32, 33, 34, 35, 36, 37, 38, 39, 40, 41] (fun w' => (pfRow fL FL 1 A59 2 c60 ([(Aa, na, ca, esa), (Ab, nb, cb, esb)])).P w') (v := .slice Ab nb cb) rfl (by kernel_rfl) (fun _ _ _ h => h) (fun _ _ _ hS => hS.1.pat (k := 14) rfl) henv rfl rfl rfl rfl (hst.pat (k := 17) rfl) (fun w' hg => rn_loadE1 (i := 1) (j := 0) (e := (Ab, nb, cb, esb)) henv ty__integer_Int rfl rfl fL_len (by decide) (show (pfRow fL FL 1 A59 2 c60 ([(Aa, na, ca, esa), (Ab, nb, cb, esb)])).P _ from hg).1 (by omega) rfl rfl) ?_
  clear henv a; intro a henv
  refine sAny_oneg (i := 27) (by kernel_rfl) rfl rfl henv rfl rfl rfl (op_buildSlice (z := 1) (pv := #[(0, .int .i64 4), (1, .int .i64 5), (2, .int .i64 0)]) (c := #[.int .i64 4, .int .i64 5, .int .i64 0]) henv hst rfl Tryd.underlying22 (ty_int64.size) zero_int64 (by decide) (by decide) rfl (by kernel_rfl) ?_)
  clear henv hst a; intro a w106 g105 henv hst
  refine ⟨.inr ⟨hst.kn.pick [] (rg 3 18), .inr (hst.kn.pick [] [])⟩, ?_⟩
  replace hst := hst.giveBk (f := fI) (F := FI) (k := 0) (n := 3) (es := [4, 5, 0]) rfl rfl fI_len rfl (by decide) (esT_P (fun _ => rfl) _ _) (fun _ _ _ _ => esT_foot (fun _ => rfl))
  refine sAny_oneg (i := 28) (by kernel_rfl) rfl rfl henv rfl rfl rfl (op_call henv rfl Tryd.call15 rfl (l_ref (es0 := [4, 5, 0]) (hst.pat (k := 0) rfl) (by unfold I64; decide) (by omega)) ?_)
  rintro e w112 ⟨_, rfl, ⟨A107, c108, es109, rfl, hr, hl110, hz111⟩, hb⟩
  refine ⟨_, rfl, ?_⟩
  clear henv a; intro a henv
  replace hst := hst.freshRd hb hr hl110 (ap_M hr.2.1 trivial)
  clear hr
  clear hb
  refine ⟨.inr ⟨hst.kn.pick [] (rg 6 18), .inr (hst.kn.pick [] [])⟩, ?_⟩
  refine sAny_oneg (i := 29) (by kernel_rfl) rfl rfl henv rfl rfl rfl (op_call henv rfl Tryd.call16 rfl (l_is (xs := [4, 5, 0]) (ys := [4, 5, 0]) (hst.pat (k := 18) rfl) hzb (hst.pat (k := 0) rfl) hz111 (zk_small (by decide)) (zk_small (by decide))) ?_)
  rintro e w113 ⟨rfl, hb⟩
  refine ⟨_, rfl, ?_⟩
  clear henv a; intro a henv
  replace hst := hst.call hb
  clear hb
  refine ⟨.inr ⟨hst.kn.pick [] (rg 6 18), .inr (hst.kn.pick [] [])⟩, ?_⟩
  rw [show (decide (([4, 5, 0] : List Int) = [4, 5, 0])) = true from (decide_eq_true rfl)] at henv
  refine tA (i := 30) (rg 31 11) (v := .bool true) rfl (by kernel_rfl) (fun _ _ _ h => h) henv rfl (fun _ => rn_pick henv rfl rfl) ?_
  clear henv a; intro a henv
  refine tM (i := 31) (rg 32 10) rfl (by kernel_rfl) (fun _ _ _ h => h) henv rfl rfl ?_
  clear henv a; intro a henv
  refine tAg (i := 32) (rg 33 9) (v := .int .i64 (blkN 7 5 3 2 : Nat)) rfl (by kernel_rfl) (fun _ _ _ h => h) henv rfl rfl rfl rfl (fun _ => rn_move henv rfl) ?_
  clear henv a; intro a henv
  refine tAg (i := 33) (rg 34 8) (v := .bool (((blkN 7 5 3 2 : Nat) : Int) == (3 : Int))) rfl (by kernel_rfl) (fun _ _ _ h => h) henv rfl rfl rfl rfl (fun _ => rn_bin henv rfl rfl rfl) ?_
  clear henv a; intro a henv
  rw [show (((blkN 7 5 3 2 : Nat) : Int) == (3 : Int)) = true from (by decide)] at henv
  refine tA (i := 34) (rg 35 7) (v := .bool true) rfl (by kernel_rfl) (fun _ _ _ h => h) henv rfl (fun _ => rn_pick henv rfl rfl) ?_
  clear henv a; intro a henv
  refine tM (i := 35) (rg 36 6) rfl (by kernel_rfl) (fun _ _ _ h => h) henv rfl rfl ?_
  clear henv a; intro a henv
  refine tAg (i := 36) [39, 40, 41] (v := .slice A90 5 c91) rfl (by kernel_rfl) (fun _ _ _ h => h) henv rfl rfl rfl rfl (fun _ => rn_move henv rfl) ?_
  clear henv a; intro a henv
  refine sAny_oneg (i := 37) (by kernel_rfl) rfl rfl henv rfl rfl rfl (op_buildSlice (z := 1) (pv := #[(0, .int .i64 1), (1, .int .i64 2), (2, .int .i64 13), (3, .int .i64 20), (4, .int .i64 130)]) (c := #[.int .i64 1, .int .i64 2, .int .i64 13, .int .i64 20, .int .i64 130]) henv hst rfl Tryd.underlying22 (ty_int64.size) zero_int64 (by decide) (by decide) rfl (by kernel_rfl) ?_)
  clear henv hst a; intro a w115 g114 henv hst
  refine ⟨.inr ⟨hst.kn.pick [] (rg 6 18), .inr (hst.kn.pick [] [])⟩, ?_⟩
  replace hst := hst.giveBk (f := fI) (F := FI) (k := 0) (n := 5) (es := [1, 2, 13, 20, 130]) rfl rfl fI_len rfl (by decide) (esT_P (fun _ => rfl) _ _) (fun _ _ _ _ => esT_foot (fun _ => rfl))
  refine sAny_oneg (i := 38) (by kernel_rfl) rfl rfl henv rfl rfl rfl (op_call henv rfl Tryd.call15 rfl (l_ref (es0 := [1, 2, 13, 20, 130]) (hst.pat (k := 0) rfl) (by unfold I64; decide) (by omega)) ?_)
  rintro e w121 ⟨_, rfl, ⟨A116, c117, es118, rfl, hr, hl119, hz120⟩, hb⟩
  refine ⟨_, rfl, ?_⟩
  clear henv a; intro a henv
  replace hst := hst.freshRd hb hr hl119 (ap_M hr.2.1 trivial)
  clear hr
  clear hb
  refine ⟨.inr ⟨hst.kn.pick [] (rg 9 18), .inr (hst.kn.pick [] [])⟩, ?_⟩
  refine sAny_oneg (i := 39) (by kernel_rfl) rfl rfl henv rfl rfl rfl (op_call henv rfl Tryd.call16 rfl (l_is (xs := [1, 2, 13, 20, 130]) (ys := [1, 2, 13, 20, 130]) (hst.pat (k := 9) rfl) (hz93.trans (show _ = [1, 2, 13, 20, 130] by decide)) (hst.pat (k := 0) rfl) hz120 (zk_small (by decide)) (zk_small (by decide))) ?_)
  rintro e w122 ⟨rfl, hb⟩
  refine ⟨_, rfl, ?_⟩
  clear henv a; intro a henv
  replace hst := hst.call hb
  clear hb
  refine ⟨.inr ⟨hst.kn.pick [] (rg 9 18), .inr (hst.kn.pick [] [])⟩, ?_⟩
  rw [show (decide (([1, 2, 13, 20, 130] : List Int) = [1, 2, 13, 20, 130])) = true from (decide_eq_true rfl)] at henv
  refine tA (i := 40) [41] (v := .bool true) rfl (by kernel_rfl) (fun _ _ _ h => h) henv rfl (fun _ => rn_pick henv rfl rfl) ?_
  clear henv a; intro a henv
  refine tA (i := 41) [] (v := .bool true) rfl (by kernel_rfl) (fun _ _ _ h => h) henv rfl (fun _ => rn_assign henv rfl) ?_
  clear henv a; intro a henv
  refine sAny_done (by kernel_rfl) ?_ _
  refine th_n ?_
  refine wp_ret ?_
  refine leave henv (res1 Tryd.results10 (RV.tmp henv rfl)) ?_
  exact ⟨rfl, hst.below⟩
end Go.Proofs.YtoojllfijfjmoaaDoor.W

/- poly.Mul; alike. Printed by pv/gen_sp12.py. No condition. -/
namespace Go.Proofs.YtoojllfijfjmoaaDoor.W
open Go.RowKit Anv Go.Lib
def sumF (xs ys : List Int) (i : Nat) : Int := xs.getD i 0 + ys.getD i 0
def mlN (xs ys : List Int) (N : Nat) : Nat → List Int
  | 0 => List.replicate N 0
  | i + 1 => adN (ys.map (xs.getD i 0 * ·)) i (mlN xs ys N i) ys.length
end Go.Proofs.YtoojllfijfjmoaaDoor.W

/- Plain laws of polynomials: coefficients, products, degrees, values. No program. No condition. -/
namespace Go.Proofs.YtoojllfijfjmoaaDoor.W
open Go.RowKit Anv Go.Lib
def sg (f : Nat → Int) : Nat → Int
  | 0 => 0
  | n + 1 => sg f n + f n
theorem sg_add (f g : Nat → Int) : ∀ n, sg (fun i => f i + g i) n = sg f n + sg g n
  | 0 => rfl
  | n + 1 => by rw [sg, sg, sg, sg_add f g n]; omega
abbrev co (xs : List Int) (k : Nat) : Int := xs.getD k 0
theorem co_off {xs : List Int} {k : Nat} (h : xs.length ≤ k) : co xs k = 0 := by
  rw [co, List.getD_eq_getElem?_getD, List.getElem?_eq_none h]; rfl
theorem co_ext {xs ys : List Int} (hl : xs.length = ys.length) (h : ∀ k, co xs k = co ys k) : xs = ys := by
  apply List.ext_getElem?
  intro k
  rcases Nat.lt_or_ge k xs.length with h1 | h1
  · have := h k
    rw [co, co, List.getD_eq_getElem?_getD, List.getD_eq_getElem?_getD, List.getElem?_eq_getElem h1, List.getElem?_eq_getElem (by omega)] at this
    rw [List.getElem?_eq_getElem h1, List.getElem?_eq_getElem (by omega)]
    exact congrArg some this
  · rw [List.getElem?_eq_none h1, List.getElem?_eq_none (by omega)]
def cv (f g : Nat → Int) (k : Nat) : Int := sg (fun i => f i * g (k - i)) (k + 1)
def mulF (xs ys : List Int) : List Int := if xs.length = 0 ∨ ys.length = 0 then [] else mlN xs ys (xs.length + ys.length - 1) xs.length
def addF (xs ys : List Int) : List Int := (List.range (max xs.length ys.length)).map (sumF xs ys)
def difF (xs ys : List Int) (i : Nat) : Int := xs.getD i 0 - ys.getD i 0
def subF (xs ys : List Int) : List Int := (List.range (max xs.length ys.length)).map (difF xs ys)
theorem deg_len (xs : List Int) : degN xs ≤ xs.length := by
  unfold degN
  refine Nat.le_trans (List.dropWhile_sublist _).length_le ?_
  rw [List.length_reverse]
  exact Nat.le_refl _
theorem co_app {xs : List Int} {x : Int} {k : Nat} (h : k < xs.length) : co (xs ++ [x]) k = co xs k := by
  rw [co, co, List.getD_eq_getElem?_getD, List.getD_eq_getElem?_getD, List.getElem?_append_left h]
theorem co_last (xs : List Int) (x : Int) : co (xs ++ [x]) xs.length = x := by
  rw [co, List.getD_eq_getElem?_getD, List.getElem?_append_right (Nat.le_refl _), Nat.sub_self]; rfl
theorem co_snoc0 (xs : List Int) (k : Nat) : co (xs ++ [0]) k = co xs k := by
  rcases Nat.lt_or_ge k xs.length with h | h
  · exact co_app h
  · rcases Nat.lt_or_ge xs.length k with h1 | h1
    · rw [co_off (by rw [List.length_append]; simp; omega), co_off h]
    · obtain rfl : k = xs.length := by omega
      rw [co_last, co_off (Nat.le_refl _)]
theorem deg_lem : ∀ (m : Nat) (xs : List Int), xs.length = m → ∀ n, degN xs ≤ n ↔ ∀ k, n ≤ k → co xs k = 0 := by
  intro m
  induction m with
  | zero =>
    intro xs hl n
    obtain rfl := List.eq_nil_of_length_eq_zero hl
    exact ⟨fun _ k _ => rfl, fun _ => Nat.zero_le _⟩
  | succ m ih =>
    intro xs hl n
    rcases List.eq_nil_or_concat xs with rfl | ⟨l, x, rfl⟩
    · cases hl
    · rw [List.concat_eq_append] at hl ⊢
      rw [List.length_append] at hl
      have hl2 : l.length = m := by simpa using hl
      clear hl
      by_cases hx : x = 0
      · subst hx
        rw [deg_snoc0, ih l hl2]
        exact ⟨fun h k hk => (co_snoc0 l k).trans (h k hk), fun h k hk => (co_snoc0 l k).symm.trans (h k hk)⟩
      · rw [deg_snoc hx]
        refine ⟨fun h k hk => co_off (by rw [List.length_append]; simp; omega), fun h => ?_⟩
        refine Nat.lt_of_not_le fun h1 => hx ?_
        rw [← co_last l x]
        exact h _ h1
theorem deg_iff (xs : List Int) (n : Nat) : degN xs ≤ n ↔ ∀ k, n ≤ k → co xs k = 0 := deg_lem _ xs rfl n
def trimN (xs : List Int) : List Int := xs.take (degN xs)
theorem trim_len (xs : List Int) : (trimN xs).length = degN xs := by
  rw [trimN, List.length_take]
  exact Nat.min_eq_left (deg_len xs)
theorem co_trim (xs : List Int) (k : Nat) : co (trimN xs) k = co xs k := by
  rcases Nat.lt_or_ge k (degN xs) with h | h
  · rw [co, co, List.getD_eq_getElem?_getD, List.getD_eq_getElem?_getD, trimN, List.getElem?_take_of_lt h]
  · rw [co_off (by rw [trim_len]; exact h), (deg_iff xs (degN xs)).1 (Nat.le_refl _) k h]
theorem trim_eq {xs ys : List Int} : trimN xs = trimN ys ↔ ∀ k, co xs k = co ys k := by
  constructor
  · intro h k
    rw [← co_trim xs, ← co_trim ys, h]
  · intro h
    have e : degN xs = degN ys := Nat.le_antisymm ((deg_iff _ _).2 fun k hk => (h k).trans ((deg_iff _ _).1 (Nat.le_refl _) k hk)) ((deg_iff _ _).2 fun k hk => (h k).symm.trans ((deg_iff _ _).1 (Nat.le_refl _) k hk))
    exact co_ext (by rw [trim_len, trim_len, e]) fun k => by rw [co_trim, co_trim, h]
def hval (a b : Int) : List Int → Int
  | [] => 0
  | x :: xs => hval a b xs * a + x * b ^ xs.length
def I16 (n : Int) : Prop := -16 ≤ n ∧ n ≤ 16
instance (n : Int) : Decidable (I16 n) := by unfold I16; infer_instance
end Go.Proofs.YtoojllfijfjmoaaDoor.W

/- Plain: a product in parts; the parts' products laid over one another are the product. No program. No condition. -/
namespace Go.Proofs.YtoojllfijfjmoaaDoor.W
open Go.RowKit Anv Go.Lib
def sh (a : Nat) (f : Nat → Int) (t : Nat) : Int := if a ≤ t then f (t - a) else 0
def pts (xs : List Int) (m k : Nat) : List (List Int) := (List.range k).map (partL xs m)
theorem pts_at {xs : List Int} {m k i : Nat} (h : i < k) : (pts xs m k).getD i [] = partL xs m i := by
  rw [pts, List.getD_eq_getElem?_getD, List.getElem?_map, List.getElem?_range h]; rfl
theorem pts_len (xs : List Int) (m k : Nat) : (pts xs m k).length = k := by rw [pts, List.length_map, List.length_range]
theorem partL_len (xs : List Int) (m j : Nat) : (partL xs m j).length = m := by
  rw [partL, List.length_append, List.length_take, List.length_replicate]
  omega
theorem co_part (xs : List Int) (m j u : Nat) : co (partL xs m j) u = if u < m then co xs (j * m + u) else 0 := by
  by_cases h : u < m
  · rw [if_pos h, partL]
    unfold co
    rw [List.getD_eq_getElem?_getD, List.getD_eq_getElem?_getD, List.getElem?_append]
    by_cases h2 : u < ((xs.drop (j * m)).take m).length
    · rw [if_pos h2, List.getElem?_take, if_pos h, List.getElem?_drop]
    · rw [if_neg h2, List.getElem?_replicate]
      rw [List.length_take, List.length_drop] at h2
      rw [List.getElem?_eq_none (show xs.length ≤ j * m + u by omega)]
      split <;> rfl
  · rw [if_neg h]
    exact co_off (by rw [partL_len]; omega)
def acJ (X : List Int) (yss : List (List Int)) (p : Nat) (l : List (List Int)) : Nat → List (List Int)
  | 0 => l
  | j + 1 => (acJ X yss p l j).set (p + j) (addF ((acJ X yss p l j).getD (p + j) []) (mulF X (yss.getD j [])))
def acI (xss yss : List (List Int)) (K T : Nat) : Nat → List (List Int)
  | 0 => List.replicate T []
  | i + 1 => acJ (xss.getD i []) yss i (acI xss yss K T i) K
def Zc (k : Nat) (xs : List Int) : Prop := ∀ i, zl (co xs i) ≤ k
theorem Zc.zk {k : Nat} {xs : List Int} (h : Zc k xs) : Zk k xs := fun z hz => by
  obtain ⟨i, hi, e⟩ := List.mem_iff_getElem.1 hz
  have := h i
  unfold co at this
  rwa [List.getD_eq_getElem?_getD, List.getElem?_eq_getElem hi, e] at this
theorem Zk.zc {k : Nat} {xs : List Int} (h : Zk k xs) : Zc k xs := fun i => by
  unfold co
  rw [List.getD_eq_getElem?_getD]
  cases e : xs[i]? with
  | none => show zl 0 ≤ k; rw [zl_zero]; omega
  | some x => exact h x (List.mem_of_getElem? e)
theorem part_zc {k : Nat} {xs : List Int} (h : Zk k xs) (m j : Nat) : Zc k (partL xs m j) := fun u => by
  rw [co_part]
  split
  · exact h.zc _
  · rw [zl_zero]; omega
theorem pts_zc {k m n : Nat} {xs : List Int} (h : Zk k xs) (i : Nat) : Zc k ((pts xs m n).getD i []) := by
  by_cases hi : i < n
  · rw [pts_at hi]; exact part_zc h m i
  · rw [List.getD_eq_getElem?_getD, List.getElem?_eq_none (by rw [pts_len]; omega)]
    intro k
    show zl 0 ≤ _
    rw [zl_zero]; omega
end Go.Proofs.YtoojllfijfjmoaaDoor.W

/- Rows of rows compared; the reference's Join; split.Join's errors. Printed by pv/gen_sp8.py. No condition. -/
namespace Go.Proofs.YtoojllfijfjmoaaDoor.W
open Go.RowKit Anv Go.Lib
def fQ (v : LE) : List Value := [.slice v.1 v.2.1 v.2.2.1]
def FQ (v : LE) : PF := pfRow fM FM 2 v.1 v.2.1 v.2.2.1 v.2.2.2
theorem fQ_len (v : LE) : (fQ v).length = 1 := rfl
theorem ltk {vs : List LE} {j n c : Nat} {A : Option Addr} {es : List NE} (h : vs[j]? = some (A, n, c, es)) : (vs.map lz).take (j + 1) = (vs.map lz).take j ++ [es.map zz] :=
  take_one (by rw [List.getElem?_map, h]; rfl)
theorem eq_all {α : Type} {l r : List α} {n : Nat} (hl : l.length = n) (hr : r.length = n) (h : l.take n = r.take n) : l = r := by
  rw [List.take_of_length_le (by omega), List.take_of_length_le (by omega)] at h
  exact h
theorem lat {vs us : List LE} {j n c m d : Nat} {A C : Option Addr} {es fs : List NE} (e : vs.map lz = us.map lz) (h : vs[j]? = some (A, n, c, es)) (k : us[j]? = some (C, m, d, fs)) : es.map zz = fs.map zz := by
  have h1 : (vs.map lz)[j]? = some (es.map zz) := by rw [List.getElem?_map, h]; rfl
  have h2 : (us.map lz)[j]? = some (fs.map zz) := by rw [List.getElem?_map, k]; rfl
  rw [e, h2] at h1
  exact (Option.some.inj h1).symm
set_option maxRecDepth 100000 in
set_option maxHeartbeats 2000000 in
theorem eq_rows {A0 A1 : Option Addr} {n0 n1 c0 c1 : Nat} {es0 es1 : List LE} {w0 : World} (h0 : (pfRow fL FL 1 A0 n0 c0 es0).P w0) (h1 : (pfRow fQ FQ 1 A1 n1 c1 es1).P w0) (hka : ∀ v ∈ es0, Zk 20000 (lz v)) (hkb : ∀ v ∈ es1, Zk 20000 (lz v)) :
    Calls Tryd.prog 13 #[.slice A0 n0 c0, .slice A1 n1 c1, .func (.func 16) #[] #[]] w0 fun e w' => e = .returned (.bool (decide (es0.map lz = es1.map lz))) ∧ Below w0.heap.size w0 w' := by
  refine enter Tryd.func13 rfl Tryd.ntmps13 rfl ?_
  intro a henv hst
  have hlen0 := h0.2.1
  have hlen1 := h1.2.1
  have hbig0 := Nat.le_trans h0.1.cap h0.1.big
  unfold maxLen at hbig0
  replace hst := (hst.argRow h1).argRow h0
  clear h0 h1
  refine wp_seq ?_
  refine region_seq ?_
  refine sv (v := .bool false) henv rfl (rn_assign henv rfl) ?_
  clear henv a; intro a henv
  refine wpList_nil ?_
  refine th_n ?_
  refine wp_seq ?_
  refine wp_seq ?_
  refine region_seq ?_
  revert a
  refine mA rfl rfl ?_
  refine sA (v := .int .i64 (n0 : Nat)) rfl (fun _ henv => rn_len henv Tryd.underlying26 rfl) ?_
  refine mA rfl rfl ?_
  refine sA (v := .int .i64 (n1 : Nat)) rfl (fun _ henv => rn_len henv Tryd.underlying31 rfl) ?_
  refine sA (v := .bool (((n0 : Nat) : Int) != ((n1 : Nat) : Int))) rfl (fun _ henv => rn_bin henv rfl rfl rfl) ?_
  intro a henv
  refine wpList_nil ?_
  refine th_n ?_
  refine if_split henv rfl (fun hc51 => ?_) (fun hc51 => ?_)
  · have hne : n0 ≠ n1 := by have := hc51; simp at this; omega
    refine wp_seq ?_
    refine region_seq ?_
    refine sv (v := .bool false) henv rfl (rn_assign henv rfl) ?_
    clear henv a; intro a henv
    refine wpList_nil ?_
    refine th_n ?_
    refine wp_ret ?_
    refine th_r ?_
    refine leave henv (res1 Tryd.results13 (RV.tmp henv rfl)) ?_
    first | exact ⟨by rw [decide_eq_false (fun e => hne (by have := congrArg List.length e; rw [List.length_map, List.length_map] at this; omega))], hst.below⟩ | exact ⟨by rw [decide_eq_false (fun e => hxy (lat e he0 he1))], hst.below⟩
  · have hnn : n0 = n1 := by have := hc51; simp at this; omega
    refine wp_skip ?_
    refine th_n ?_
    refine wp_seq ?_
    refine wp_seq ?_
    refine region_seq ?_
    revert a
    refine mA rfl rfl ?_
    refine sA (v := .int .i64 (n0 : Nat)) rfl (fun _ henv => rn_len henv Tryd.underlying26 rfl) ?_
    refine mA rfl rfl ?_
    intro a henv
    refine wpList_nil ?_
    refine th_n ?_
    refine wp_block ?_
    refine wp_loop_ghost (fun mz a w => ∃ j : Nat, n0 - j = mz ∧ Env 32 a [(1, .slice A1 n1 c1), (2, .func (.func 16) #[] #[]), (15, .slice A0 n0 c0), (16, .int .i64 (n0 : Nat)), (17, .int .i64 (j : Nat))] ∧ St w0 w [] [pfRow fL FL 1 A0 n0 c0 es0, pfRow fQ FQ 1 A1 n1 c1 es1] ∧ j ≤ n0 ∧ (es0.map lz).take j = (es1.map lz).take j) _ ⟨0, rfl, henv.sub ⟨rfl, rfl, rfl, rfl, rfl, trivial⟩, hst.pick [] [0, 1] (by decide), (Nat.zero_le _), rfl⟩ ?_
    clear henv hst a
    rintro mz a w52 ⟨j, rfl, henv, hst, hj, he⟩
    refine wp_seq ?_
    refine region_seq ?_
    refine sv (v := .bool (decide (((j : Nat) : Int) < ((n0 : Nat) : Int)))) henv rfl (rn_bin henv rfl rfl rfl) ?_
    clear henv a; intro a henv
    refine wpList_nil ?_
    refine th_n ?_
    refine wp_seq ?_
    refine if_split henv rfl (fun hc53 => ?_) (fun hc53 => ?_)
    · have hlt : j < n0 := by have := of_decide_eq_true hc53; omega
      obtain ⟨⟨A, n, c, es⟩, he0⟩ : ∃ e, es0[j]? = some e := ⟨_, List.getElem?_eq_getElem (by omega)⟩
      replace hst := hst.elem (k := 0) rfl he0
      replace hst : St w0 _ [] [pfRow fN FN 2 A n c es, pfRow fL FL 1 A0 n0 c0 es0, pfRow fQ FQ 1 A1 n1 c1 es1] := hst
      obtain ⟨⟨C, m, d, fs⟩, he1⟩ : ∃ e, es1[j]? = some e := ⟨_, List.getElem?_eq_getElem (by omega)⟩
      replace hst := hst.elem (k := 2) rfl he1
      replace hst : St w0 _ [] [pfRow fM FM 2 C m d fs, pfRow fN FN 2 A n c es, pfRow fL FL 1 A0 n0 c0 es0, pfRow fQ FQ 1 A1 n1 c1 es1] := hst
      refine wp_skip ?_
      refine th_n ?_
      refine wp_seq ?_
      refine wp_block ?_
      refine wp_seq ?_
      refine region_seq ?_
      revert a
      refine mA rfl rfl ?_
      refine sA (v := .pointer (some ⟨ab A0, ao A0 + j * 1, none⟩)) rfl (fun _ henv => rn_idxR (i := j) henv Tryd.underlying26 (ty__integer_Int.size) rfl rfl (by omega) rfl (show (pfRow fL FL 1 A0 n0 c0 es0).P _ from (hst.pat (k := 2) rfl)).1) ?_
      refine sA (v := .slice A n c) rfl (fun _ henv => rn_loadE1 (i := j) (j := 0) (e := (A, n, c, es)) henv ty__integer_Int rfl rfl fL_len (by decide) (show (pfRow fL FL 1 A0 n0 c0 es0).P _ from (hst.pat (k := 2) rfl)).1 (by omega) he0 rfl) ?_
      refine aA rfl rfl ?_
      refine aA rfl rfl ?_
      intro a henv
      refine wpList_nil ?_
      refine th_n ?_
      refine wp_seq ?_
      refine region_seq ?_
      revert a
      refine mA rfl rfl ?_
      refine mA rfl rfl ?_
      refine sA (v := .pointer (some ⟨ab A1, ao A1 + j * 1, none⟩)) rfl (fun _ henv => rn_idxR (i := j) henv Tryd.underlying31 (ty_anvil_anvilref20_Poly.size) rfl rfl (by omega) rfl (show (pfRow fQ FQ 1 A1 n1 c1 es1).P _ from (hst.pat (k := 3) rfl)).1) ?_
      refine sA (v := .slice C m d) rfl (fun _ henv => rn_loadE1 (i := j) (j := 0) (e := (C, m, d, fs)) henv ty_anvil_anvilref20_Poly rfl rfl fQ_len (by decide) (show (pfRow fQ FQ 1 A1 n1 c1 es1).P _ from (hst.pat (k := 3) rfl)).1 (by omega) he1 rfl) ?_
      refine aA rfl rfl ?_
      intro a henv
      refine wpList_nil ?_
      refine th_n ?_
      refine wp_seq ?_
      refine region_seq ?_
      revert a
      refine mA rfl rfl ?_
      refine mA rfl rfl ?_
      refine mA rfl rfl ?_
      intro a henv
      refine seq_step rfl (op_callc (vs := #[.slice A n c, .slice C m d]) henv rfl Tryd.call16 rfl rfl (calls_app (by simp) (l_is (xs := es.map zz) (ys := fs.map zz) (hst.pat (k := 1) rfl) rfl (hst.pat (k := 0) rfl) rfl (hka _ (List.mem_of_getElem? he0)) (hkb _ (List.mem_of_getElem? he1)))) ?_)
      rintro e w54 ⟨rfl, hb⟩
      refine ⟨_, rfl, ?_⟩
      clear henv a; intro a henv
      replace hst := hst.call hb
      clear hb
      refine sv (v := .bool (!(decide (es.map zz = fs.map zz)))) henv rfl (rn_un henv rfl rfl) ?_
      clear henv a; intro a henv
      refine wpList_nil ?_
      refine th_n ?_
      refine if_split henv rfl (fun hc55 => ?_) (fun hc55 => ?_)
      · have hxy : ¬ es.map zz = fs.map zz := fun h => by rw [decide_eq_true h] at hc55; cases hc55
        refine wp_seq ?_
        refine region_seq ?_
        refine sv (v := .bool false) henv rfl (rn_assign henv rfl) ?_
        clear henv a; intro a henv
        refine wpList_nil ?_
        refine th_n ?_
        refine wp_ret ?_
        refine bl_r (th_r (th_r (bl_r (th_r ?_))))
        refine leave henv (res1 Tryd.results13 (RV.tmp henv rfl)) ?_
        first | exact ⟨by rw [decide_eq_false (fun e => hne (by have := congrArg List.length e; rw [List.length_map, List.length_map] at this; omega))], hst.below⟩ | exact ⟨by rw [decide_eq_false (fun e => hxy (lat e he0 he1))], hst.below⟩
      · have hxy : es.map zz = fs.map zz := Classical.byContradiction fun h => by rw [decide_eq_false h] at hc55; cases hc55
        refine wp_skip ?_
        refine bl_n (th_n ?_)
        refine region_seq ?_
        revert a
        refine sA (v := .int .i64 (j + 1 : Nat)) rfl (fun _ henv => rn_add henv rfl rfl (by rw [IntWalk.i64_in _ (by omega)]; omega)) ?_
        refine mA rfl rfl ?_
        intro a henv
        refine wpList_nil ?_
        exact th_n ⟨_, (by omega), ⟨j + 1, rfl, henv.sub ⟨rfl, rfl, rfl, rfl, rfl, trivial⟩, hst.pick [] [2, 3] (by decide), (by omega), (by rw [ltk he0, ltk he1, he, hxy])⟩⟩
    · have hjn : j = n0 := by have := of_decide_eq_false hc53; omega
      refine wp_exit ?_
      refine th_x (th_x (bl_x (th_n ?_)))
      refine wp_seq ?_
      refine region_seq ?_
      refine sv (v := .bool true) henv rfl (rn_assign henv rfl) ?_
      clear henv a; intro a henv
      refine wpList_nil ?_
      refine th_n ?_
      refine wp_ret ?_
      refine leave henv (res1 Tryd.results13 (RV.tmp henv rfl)) ?_
      have hall : es0.map lz = es1.map lz := eq_all (by rw [List.length_map]; exact hlen0) (by rw [List.length_map]; omega) (hjn ▸ he)
      exact ⟨by rw [decide_eq_true hall], hst.below⟩
end Go.Proofs.YtoojllfijfjmoaaDoor.W

/- The reference's Join. Printed by pv/gen_sp9.py. No condition. -/
namespace Go.Proofs.YtoojllfijfjmoaaDoor.W
open Go.RowKit Anv Go.Lib
theorem es_zM (n : Nat) (w : World) : (pfEs FM (List.replicate n (none, 0, 0))).P w := fun e he => by
  rw [List.eq_of_mem_replicate he]
  exact rin_none w
theorem fM_z0 : fM (none, 0, 0) = (Value.agg #[.bool false, .slice none 0 0]).cells.toList := by
  show [Value.bool (neg 0), Value.slice none (dl 0) 0] = _
  rw [neg_zero, dl_zero]; rfl
def NMRow (w : World) (v : Value) (n : Nat) (zs : List Int) : Prop := ∃ A c es, v = .slice A n c ∧ (pfRow fM FM 2 A n c es).P w ∧ es.map zz = zs
end Go.Proofs.YtoojllfijfjmoaaDoor.W

/- The reference's Parts. Printed by pv/gen_sp11.py. No condition. -/
namespace Go.Proofs.YtoojllfijfjmoaaDoor.W
open Go.RowKit Anv Go.Lib
def MLRow (w : World) (v : Value) (n : Nat) (zss : List (List Int)) : Prop := ∃ A c vs, v = .slice A n c ∧ (pfRow fQ FQ 1 A n c vs).P w ∧ vs.map lz = zss
def pjL (xs : List Int) (m i j : Nat) : List Int := (List.range m).map fun t => if t < j then xs.getD (i * m + t) 0 else 0
theorem pj_len (xs : List Int) (m i j : Nat) : (pjL xs m i j).length = m := by unfold pjL; rw [List.length_map, List.length_range]
theorem pj_zero (xs : List Int) (m i : Nat) : List.replicate m (0 : Int) = pjL xs m i 0 := by
  unfold pjL
  apply List.ext_getElem?
  intro t
  rcases Nat.lt_or_ge t m with h | h
  · rw [List.getElem?_map, List.getElem?_range h, List.getElem?_replicate, if_pos h]; rfl
  · rw [List.getElem?_eq_none (by rw [List.length_replicate]; exact h), List.getElem?_eq_none (by rw [List.length_map, List.length_range]; exact h)]
theorem pj_end (xs : List Int) (m i : Nat) : pjL xs m i m = partL xs m i := by
  unfold pjL partL
  apply List.ext_getElem?
  intro t
  rcases Nat.lt_or_ge t m with h | h
  · rw [List.getElem?_map, List.getElem?_range h, Option.map_some, if_pos h]
    rcases Nat.lt_or_ge (i * m + t) xs.length with h2 | h2
    · rw [List.getElem?_append_left (by rw [List.length_take, List.length_drop]; omega), List.getElem?_take_of_lt h, List.getElem?_drop, List.getD_eq_getElem?_getD, List.getElem?_eq_getElem h2]; rfl
    · rw [List.getElem?_append_right (by rw [List.length_take, List.length_drop]; omega), List.getElem?_replicate, if_pos (by rw [List.length_take, List.length_drop]; omega), List.getD_eq_getElem?_getD, List.getElem?_eq_none h2]; rfl
  · rw [List.getElem?_eq_none (by rw [List.length_map, List.length_range]; exact h), List.getElem?_eq_none (by rw [List.length_append, List.length_take, List.length_drop, List.length_replicate]; omega)]
theorem pj_miss {es : List NE} {xs : List Int} {m i j : Nat} (hz : es.map zz = xs) (h : es.length ≤ i * m + j) : pjL xs m i j = pjL xs m i (j + 1) := by
  unfold pjL
  apply List.map_congr_left
  intro t _
  rcases Nat.lt_or_ge t j with h1 | h1
  · rw [if_pos h1, if_pos (by omega)]
  · rw [if_neg (by omega)]
    split
    · rw [List.getD_eq_getElem?_getD, List.getElem?_eq_none (by rw [← hz, List.length_map]; omega)]; rfl
    · rfl
theorem pj_hit {ps es : List NE} {xs : List Int} {m i j : Nat} {C : Option Addr} {d : Nat} {x : Int} (ho : ps.map zz = pjL xs m i j) (hz : es.map zz = xs) (he : es[i * m + j]? = some (C, d, x)) (hj : j < m) : (ps.set j (C, d, x)).map zz = pjL xs m i (j + 1) := by
  rw [List.map_set, ho]
  unfold pjL
  apply List.ext_getElem?
  intro t
  rw [List.getElem?_set, List.length_map, List.length_range]
  rcases Nat.lt_or_ge t m with h | h
  · rw [List.getElem?_map, List.getElem?_map, List.getElem?_range h]
    by_cases e : j = t
    · subst e
      rw [if_pos rfl, if_pos h, Option.map_some, if_pos (by omega), List.getD_eq_getElem?_getD, ← hz, List.getElem?_map, he]; rfl
    · rw [if_neg e, Option.map_some, Option.map_some]
      congr 1
      rcases Nat.lt_or_ge t j with h1 | h1
      · rw [if_pos h1, if_pos (by omega)]
      · rw [if_neg (by omega), if_neg (by omega)]
  · rw [if_neg (by omega), List.getElem?_eq_none (by rw [List.length_map, List.length_range]; exact h), List.getElem?_eq_none (by rw [List.length_map, List.length_range]; exact h)]
set_option maxRecDepth 100000 in
set_option maxHeartbeats 2000000 in
theorem ref_parts {A0 : Option Addr} {n0 c0 : Nat} {es0 : List NE} {xs : List Int} {k m : Nat} {w0 : World} (h0 : (pfRow fM FM 2 A0 n0 c0 es0).P w0) (hz0 : es0.map zz = xs) (hm4 : m ≤ 4096) (hk8 : k ≤ 8) (hkm2 : k * m ≤ 32768) :
    Calls Tryd.prog 14 #[.slice A0 n0 c0, .int .i64 (k : Nat), .int .i64 (m : Nat)] w0 fun e w' => ∃ v, e = .returned v ∧ MLRow w' v k ((List.range k).map (partL xs m)) ∧ Below w0.heap.size w0 w' := by
  refine enter Tryd.func14 rfl Tryd.ntmps14 rfl ?_
  intro a henv hst
  have hlen0 := h0.2.1
  have hbig0 := Nat.le_trans h0.1.cap h0.1.big
  unfold maxLen at hbig0
  replace hst := hst.argRow h0
  clear h0
  refine wp_seq ?_
  refine region_seq ?_
  refine sv (v := .slice none 0 0) henv rfl (rn_assign henv rfl) ?_
  clear henv a; intro a henv
  refine wpList_nil ?_
  refine th_n ?_
  refine wp_seq ?_
  refine region_seq ?_
  refine sv (v := .slice none 0 0) henv rfl (rn_assign henv rfl) ?_
  clear henv a; intro a henv
  refine wpList_nil ?_
  refine th_n ?_
  refine wp_seq ?_
  refine wp_seq ?_
  refine region_seq ?_
  refine sv (v := .int .i64 0) henv rfl (rn_assign henv rfl) ?_
  clear henv a; intro a henv
  refine wpList_nil ?_
  refine th_n ?_
  refine wp_block ?_
  replace hst := (hst.addRowS notU 33 1).nilEs FQ
  replace hst : St w0 _ [rowS notU 33 1 none 0 0 (fl fQ ([]))] [pfEs FQ ([]), pfRow fM FM 2 A0 n0 c0 es0] := hst
  refine wp_loop_ghost (fun mz a w => ∃ i : Nat, ∃ B : Option Addr, ∃ d : Nat, ∃ os : List LE, k - i = mz ∧ Env 47 a [(0, .slice A0 n0 c0), (1, .int .i64 (k : Nat)), (2, .int .i64 (m : Nat)), (7, .slice B i d), (8, .int .i64 (i : Nat))] ∧ St w0 w [rowS notU 33 1 B i d (fl fQ os)] [pfRow fM FM 2 A0 n0 c0 es0, pfEs FQ os] ∧ i ≤ k ∧ os.map lz = (List.range i).map (partL xs m)) _ ⟨0, none, 0, [], rfl, henv.sub ⟨rfl, rfl, rfl, rfl, rfl, trivial⟩, hst.pick [0] [1, 0] (by decide), (Nat.zero_le _), rfl⟩ ?_
  clear henv hst a
  rintro mz a w51 ⟨i, B, d, os, rfl, henv, hst, hi, ho⟩
  refine wp_seq ?_
  refine wp_seq ?_
  refine region_seq ?_
  revert a
  refine mA rfl rfl ?_
  refine mA rfl rfl ?_
  refine sA (v := .bool (decide (((i : Nat) : Int) < ((k : Nat) : Int)))) rfl (fun _ henv => rn_bin henv rfl rfl rfl) ?_
  intro a henv
  refine wpList_nil ?_
  refine th_n ?_
  refine if_split henv rfl (fun hc52 => ?_) (fun hc52 => ?_)
  · have hlt0 : i < k := by have := of_decide_eq_true hc52; omega
    have him : i * m ≤ 32768 := Nat.le_trans (Nat.mul_le_mul_right m (Nat.le_of_lt hlt0)) hkm2
    refine wp_skip ?_
    refine th_n ?_
    refine wp_seq ?_
    refine wp_block ?_
    refine wp_seq ?_
    refine region_seq ?_
    refine sv (v := .int .i64 (m : Nat)) henv rfl (rn_move henv rfl) ?_
    clear henv a; intro a henv
    refine seq_step rfl (op_makeS (f := fM) (e0 := (none, 0, 0)) (q := notU) (n := m) henv hst rfl Tryd.underlying33 inf_anvil_anvilref02_Int rfl rfl fM_z0 rfl rfl rfl (by omega) (by unfold maxLen; omega) ?_)
    clear henv hst a; intro a w54 g53 henv hst
    replace hst := hst.addMs (es_zM m _) ⟨nou_rowS, nou_rowS, trivial⟩
    refine sv (v := .slice (some ⟨g53, 0, none⟩) m m) henv rfl (rn_assign henv rfl) ?_
    clear henv a; intro a henv
    refine wpList_nil ?_
    refine th_n ?_
    refine wp_seq ?_
    refine wp_seq ?_
    refine region_seq ?_
    refine sv (v := .int .i64 0) henv rfl (rn_assign henv rfl) ?_
    clear henv a; intro a henv
    refine wpList_nil ?_
    refine th_n ?_
    refine wp_block ?_
    refine wp_loop_ghost (fun mz a w => ∃ j : Nat, ∃ ps : List NE, m - j = mz ∧ Env 47 a [(0, .slice A0 n0 c0), (1, .int .i64 (k : Nat)), (2, .int .i64 (m : Nat)), (7, .slice B i d), (8, .int .i64 (i : Nat)), (9, .slice (some ⟨g53, 0, none⟩) m m), (10, .int .i64 (j : Nat))] ∧ St w0 w [rowS notU 68 2 (some ⟨g53, 0, none⟩) m m (fl fM ps), rowS notU 33 1 B i d (fl fQ os)] [pfRow fM FM 2 A0 n0 c0 es0, pfEs FQ os, pfEs FM ps] ∧ j ≤ m ∧ ps.map zz = pjL xs m i j) _ ⟨0, (List.replicate m (none, 0, 0)), rfl, henv.sub ⟨rfl, rfl, rfl, rfl, rfl, rfl, rfl, trivial⟩, hst.pick [0, 1] [1, 2, 0] (by decide), (Nat.zero_le _), (by rw [List.map_replicate, pj_zero])⟩ ?_
    clear henv hst a
    rintro mz a w55 ⟨j, ps, rfl, henv, hst, hj, ho2⟩
    refine wp_seq ?_
    refine wp_seq ?_
    refine region_seq ?_
    revert a
    refine mA rfl rfl ?_
    refine mA rfl rfl ?_
    refine sA (v := .bool (decide (((j : Nat) : Int) < ((m : Nat) : Int)))) rfl (fun _ henv => rn_bin henv rfl rfl rfl) ?_
    intro a henv
    refine wpList_nil ?_
    refine th_n ?_
    refine if_split henv rfl (fun hc56 => ?_) (fun hc56 => ?_)
    · have hlt : j < m := by have := of_decide_eq_true hc56; omega
      refine wp_skip ?_
      refine th_n ?_
      refine wp_seq ?_
      refine wp_block ?_
      refine wp_seq ?_
      refine region_seq ?_
      revert a
      refine mA rfl rfl ?_
      refine mA rfl rfl ?_
      refine sA (v := .int .i64 (i * m : Nat)) rfl (fun _ henv => rn_mul henv rfl rfl (by rw [IntWalk.i64_in _ (by omega)]; omega)) ?_
      refine mA rfl rfl ?_
      refine sA (v := .int .i64 ((i * m) + j : Nat)) rfl (fun _ henv => rn_add henv rfl rfl (by rw [IntWalk.i64_in _ (by omega)]; omega)) ?_
      refine mA rfl rfl ?_
      refine sA (v := .int .i64 (n0 : Nat)) rfl (fun _ henv => rn_len henv Tryd.underlying33 rfl) ?_
      refine sA (v := .bool (decide ((((i * m) + j : Nat) : Int) < ((n0 : Nat) : Int)))) rfl (fun _ henv => rn_bin henv rfl rfl rfl) ?_
      intro a henv
      refine wpList_nil ?_
      refine th_n ?_
      refine if_split henv rfl (fun hc57 => ?_) (fun hc57 => ?_)
      · have hlx : i * m + j < n0 := by have := of_decide_eq_true hc57; omega
        obtain ⟨⟨C, d1, x⟩, he0⟩ : ∃ e, es0[i * m + j]? = some e := ⟨_, List.getElem?_eq_getElem (by omega)⟩
        replace hst := hst.elem (k := 0) rfl he0
        replace hst : St w0 _ [rowS notU 68 2 (some ⟨g53, 0, none⟩) m m (fl fM ps), rowS notU 33 1 B i d (fl fQ os)] [pfR C d1 x, pfRow fM FM 2 A0 n0 c0 es0, pfEs FQ os, pfEs FM ps] := hst
        have hpl : ps.length = m := by rw [← List.length_map (f := zz), ho2, pj_len]
        refine region_seq ?_
        revert a
        refine mA rfl rfl ?_
        refine mA rfl rfl ?_
        refine mA rfl rfl ?_
        refine mA rfl rfl ?_
        refine mA rfl rfl ?_
        refine sA (v := .int .i64 (i * m : Nat)) rfl (fun _ henv => rn_mul henv rfl rfl (by rw [IntWalk.i64_in _ (by omega)]; omega)) ?_
        refine mA rfl rfl ?_
        refine sA (v := .int .i64 ((i * m) + j : Nat)) rfl (fun _ henv => rn_add henv rfl rfl (by rw [IntWalk.i64_in _ (by omega)]; omega)) ?_
        refine sA (v := .pointer (some ⟨ab A0, ao A0 + ((i * m) + j) * 2, none⟩)) rfl (fun _ henv => rn_idxR (i := (i * m) + j) henv Tryd.underlying33 (ty_anvil_anvilref02_Int.size) rfl rfl (by omega) rfl (show (pfRow fM FM 2 A0 n0 c0 es0).P _ from (hst.pat (k := 1) rfl)).1) ?_
        refine sA (v := .agg #[.bool (neg x), .slice C (dl x) d1]) rfl (fun _ henv => rn_loadE (i := (i * m) + j) (e := (C, d1, x)) henv ty_anvil_anvilref02_Int rfl rfl fM_len (show (pfRow fM FM 2 A0 n0 c0 es0).P _ from (hst.pat (k := 1) rfl)).1 (by omega) he0 rfl) ?_
        refine sA (v := .pointer (some ⟨ab (some ⟨g53, 0, none⟩), ao (some ⟨g53, 0, none⟩) + j * 2, none⟩)) rfl (fun _ henv => rn_idxR (i := j) henv Tryd.underlying33 (ty_anvil_anvilref02_Int.size) rfl rfl (by omega) rfl (rowS_rd (hst.owns (k := 0) rfl))) ?_
        intro a henv
        refine seq_step rfl (op_storeS (i := j) (e := (C, d1, x)) (k := 0) henv hst (ty_anvil_anvilref02_Int.size) rfl rfl rfl rfl fM_len (by omega) hpl rfl rfl rfl ?_)
        clear henv hst a; intro a w58 henv hst
        replace hst := hst.setEs (e := (C, d1, x)) (i := 3) (j := 0) rfl rfl j
        refine wpList_nil ?_
        refine bl_n (th_n ?_)
        refine region_seq ?_
        revert a
        refine mA rfl rfl ?_
        refine sA (v := .int .i64 (j + 1 : Nat)) rfl (fun _ henv => rn_add henv rfl rfl (by rw [IntWalk.i64_in _ (by omega)]; omega)) ?_
        refine aA rfl rfl ?_
        intro a henv
        refine wpList_nil ?_
        exact th_n ⟨_, (by omega), ⟨j + 1, (ps.set j (C, d1, x)), rfl, henv.sub ⟨rfl, rfl, rfl, rfl, rfl, rfl, rfl, trivial⟩, hst.pick [0, 1] [2, 3, 0] (by decide), (by omega), (pj_hit ho2 hz0 he0 hlt)⟩⟩
      · have hlx : n0 ≤ i * m + j := by have := of_decide_eq_false hc57; omega
        refine wp_skip ?_
        refine bl_n (th_n ?_)
        refine region_seq ?_
        revert a
        refine mA rfl rfl ?_
        refine sA (v := .int .i64 (j + 1 : Nat)) rfl (fun _ henv => rn_add henv rfl rfl (by rw [IntWalk.i64_in _ (by omega)]; omega)) ?_
        refine aA rfl rfl ?_
        intro a henv
        refine wpList_nil ?_
        exact th_n ⟨_, (by omega), ⟨j + 1, ps, rfl, henv.sub ⟨rfl, rfl, rfl, rfl, rfl, rfl, rfl, trivial⟩, hst.pick [0, 1] [0, 1, 2] (by decide), (by omega), (ho2.trans (pj_miss hz0 (by omega)))⟩⟩
    · obtain rfl : m = j := by have := of_decide_eq_false hc56; omega
      refine wp_exit ?_
      refine th_x (th_x (bl_x (th_n ?_)))
      have hpl : ps.length = m := by rw [← List.length_map (f := zz), ho2, pj_len]
      replace hst := hst.giveRow (k := 0) (j := 2) rfl rfl hpl
      replace hst : St w0 _ [rowS notU 33 1 B i d (fl fQ os)] [pfRow fM FM 2 (some ⟨g53, 0, none⟩) m m ps, pfRd 2 (some ⟨g53, 0, none⟩) m m (fl fM ps), pfRow fM FM 2 A0 n0 c0 es0, pfEs FQ os, pfEs FM ps] := hst
      refine region_seq ?_
      revert a
      refine mA rfl rfl ?_
      refine mA rfl rfl ?_
      intro a henv
      refine seq_step rfl (op_buildSlice (z := 1) (pv := #[(0, .slice (some ⟨g53, 0, none⟩) m m)]) (c := #[.slice (some ⟨g53, 0, none⟩) m m]) henv hst rfl Tryd.underlying31 (ty_anvil_anvilref20_Poly.size) zero_anvil_anvilref20_Poly (by decide) (by decide) rfl (by kernel_rfl) ?_)
      clear henv hst a; intro a w60 g59 henv hst
      refine seq_step rfl (op_appendS (k := 1) (j := 0) henv hst rfl Tryd.underlying31 inf_anvil_anvilref20_Poly rfl rfl rfl rfl rfl rfl rfl rfl rfl rfl rfl (by unfold maxLen; omega) (by omega) ?_)
      clear henv hst a; intro a w63 g61 c62 henv hst
      rw [show fl fQ os ++ (#[.slice (some ⟨g53, 0, none⟩) m m] : Array Value).toList = fl fQ (os ++ [(((some ⟨g53, 0, none⟩) : Option Addr), m, m, ps)]) from fl_snoc (f := fQ) os (((some ⟨g53, 0, none⟩) : Option Addr), m, m, ps)] at hst
      replace hst := hst.snocEs (e := (((some ⟨g53, 0, none⟩) : Option Addr), m, m, ps)) (i := 3) (j := 0) rfl rfl
      refine sv (v := .slice (some ⟨g61, 0, none⟩) (i + 1) c62) henv rfl (rn_assign henv rfl) ?_
      clear henv a; intro a henv
      refine wpList_nil ?_
      refine bl_n (th_n ?_)
      refine region_seq ?_
      revert a
      refine mA rfl rfl ?_
      refine sA (v := .int .i64 (i + 1 : Nat)) rfl (fun _ henv => rn_add henv rfl rfl (by rw [IntWalk.i64_in _ (by omega)]; omega)) ?_
      refine aA rfl rfl ?_
      intro a henv
      refine wpList_nil ?_
      exact th_n ⟨_, (by omega), ⟨i + 1, (some ⟨g61, 0, none⟩), c62, (os ++ [(((some ⟨g53, 0, none⟩) : Option Addr), m, m, ps)]), rfl, henv.sub ⟨rfl, rfl, rfl, rfl, rfl, trivial⟩, hst.pick [1] [3, 0] (by decide), (by omega), (part_step ho (ho2.trans (pj_end _ _ _)))⟩⟩
  · obtain rfl : k = i := by have := of_decide_eq_false hc52; omega
    refine wp_exit ?_
    refine th_x (th_x (bl_x (th_n ?_)))
    refine wp_seq ?_
    refine region_seq ?_
    revert a
    refine mA rfl rfl ?_
    refine aA rfl rfl ?_
    intro a henv
    refine wpList_nil ?_
    refine th_n ?_
    refine wp_ret ?_
    refine leave henv (res1 Tryd.results14 (RV.tmp henv rfl)) ?_
    exact ⟨_, rfl, ⟨_, _, _, rfl, ⟨rowS_rd (hst.owns (k := 0) rfl), (by have := congrArg List.length ho; simpa using this), hst.pat (k := 1) rfl⟩, ho⟩, hst.below⟩
set_option maxRecDepth 100000 in
set_option maxHeartbeats 2000000 in
theorem sp_parts_a0 {A0 : Option Addr} {n0 c0 : Nat} {k m : Int} {w0 : World} (h1 : k < 1) :
    Calls Tryd.prog 12 #[.slice A0 n0 c0, .int .i64 k, .int .i64 m] w0 fun e w' => e = .returned (.tuple #[.slice none 0 0, .int .i64 2]) ∧ Below w0.heap.size w0 w' := by
  refine enter Tryd.func12 rfl Tryd.ntmps12 rfl ?_
  intro a henv hst
  refine wp_seq ?_
  refine region_seq ?_
  revert a
  refine aA rfl rfl ?_
  refine aA rfl rfl ?_
  intro a henv
  refine wpList_nil ?_
  refine th_n ?_
  refine wp_seq ?_
  refine wp_block ?_
  refine wp_seq ?_
  refine region_seq ?_
  revert a
  refine mA rfl rfl ?_
  refine sA (v := .bool (decide (k < (1 : Int)))) rfl (fun _ henv => rn_bin henv rfl rfl rfl) ?_
  intro a henv
  rw [show (decide (k < (1 : Int))) = true from (decide_eq_true (by omega))] at henv
  revert a
  refine mA rfl rfl ?_
  refine kA rfl rfl rfl rfl rfl ?_
  refine kA rfl rfl rfl rfl rfl ?_
  refine sA (v := .bool true) rfl (fun _ henv => rn_pick henv rfl rfl) ?_
  refine mA rfl rfl ?_
  refine kA rfl rfl rfl rfl rfl ?_
  refine kA rfl rfl rfl rfl rfl ?_
  refine sA (v := .bool true) rfl (fun _ henv => rn_pick henv rfl rfl) ?_
  refine mA rfl rfl ?_
  refine kA rfl rfl rfl rfl rfl ?_
  refine kA rfl rfl rfl rfl rfl ?_
  refine sA (v := .bool true) rfl (fun _ henv => rn_pick henv rfl rfl) ?_
  refine aA rfl rfl ?_
  intro a henv
  refine wpList_nil ?_
  refine th_n ?_
  refine if_t henv rfl (rfl) ?_
  refine wp_seq ?_
  refine region_seq ?_
  revert a
  refine aA rfl rfl ?_
  refine aA rfl rfl ?_
  intro a henv
  refine wpList_nil ?_
  refine th_n ?_
  refine wp_ret ?_
  refine bl_r (th_r ?_)
  refine leave henv (res2 Tryd.results12 (RV.tmp henv rfl) (RV.tmp henv rfl)) ?_
  exact ⟨rfl, hst.below⟩
set_option maxRecDepth 100000 in
set_option maxHeartbeats 2000000 in
theorem sp_parts_a1 {A0 : Option Addr} {n0 c0 : Nat} {k m : Int} {w0 : World} (h1 : 8 < k) :
    Calls Tryd.prog 12 #[.slice A0 n0 c0, .int .i64 k, .int .i64 m] w0 fun e w' => e = .returned (.tuple #[.slice none 0 0, .int .i64 2]) ∧ Below w0.heap.size w0 w' := by
  refine enter Tryd.func12 rfl Tryd.ntmps12 rfl ?_
  intro a henv hst
  refine wp_seq ?_
  refine region_seq ?_
  revert a
  refine aA rfl rfl ?_
  refine aA rfl rfl ?_
  intro a henv
  refine wpList_nil ?_
  refine th_n ?_
  refine wp_seq ?_
  refine wp_block ?_
  refine wp_seq ?_
  refine region_seq ?_
  revert a
  refine mA rfl rfl ?_
  refine sA (v := .bool (decide (k < (1 : Int)))) rfl (fun _ henv => rn_bin henv rfl rfl rfl) ?_
  intro a henv
  rw [show (decide (k < (1 : Int))) = false from (decide_eq_false (by omega))] at henv
  revert a
  refine mA rfl rfl ?_
  refine gA (v := .int .i64 k) rfl rfl rfl rfl (fun _ henv => rn_move henv rfl) ?_
  refine gA (v := .bool (decide (k > (8 : Int)))) rfl rfl rfl rfl (fun _ henv => rn_bin henv rfl rfl rfl) ?_
  intro a henv
  rw [show (decide (k > (8 : Int))) = true from (decide_eq_true (by omega))] at henv
  revert a
  refine sA (v := .bool true) rfl (fun _ henv => rn_pick henv rfl rfl) ?_
  refine mA rfl rfl ?_
  refine kA rfl rfl rfl rfl rfl ?_
  refine kA rfl rfl rfl rfl rfl ?_
  refine sA (v := .bool true) rfl (fun _ henv => rn_pick henv rfl rfl) ?_
  refine mA rfl rfl ?_
  refine kA rfl rfl rfl rfl rfl ?_
  refine kA rfl rfl rfl rfl rfl ?_
  refine sA (v := .bool true) rfl (fun _ henv => rn_pick henv rfl rfl) ?_
  refine aA rfl rfl ?_
  intro a henv
  refine wpList_nil ?_
  refine th_n ?_
  refine if_t henv rfl (rfl) ?_
  refine wp_seq ?_
  refine region_seq ?_
  revert a
  refine aA rfl rfl ?_
  refine aA rfl rfl ?_
  intro a henv
  refine wpList_nil ?_
  refine th_n ?_
  refine wp_ret ?_
  refine bl_r (th_r ?_)
  refine leave henv (res2 Tryd.results12 (RV.tmp henv rfl) (RV.tmp henv rfl)) ?_
  exact ⟨rfl, hst.below⟩
set_option maxRecDepth 100000 in
set_option maxHeartbeats 2000000 in
theorem sp_parts_a2 {A0 : Option Addr} {n0 c0 : Nat} {k m : Int} {w0 : World} (h0 : 1 ≤ k) (h2 : k ≤ 8) (h1 : m < 1) :
    Calls Tryd.prog 12 #[.slice A0 n0 c0, .int .i64 k, .int .i64 m] w0 fun e w' => e = .returned (.tuple #[.slice none 0 0, .int .i64 2]) ∧ Below w0.heap.size w0 w' := by
  refine enter Tryd.func12 rfl Tryd.ntmps12 rfl ?_
  intro a henv hst
  refine wp_seq ?_
  refine region_seq ?_
  revert a
  refine aA rfl rfl ?_
  refine aA rfl rfl ?_
  intro a henv
  refine wpList_nil ?_
  refine th_n ?_
  refine wp_seq ?_
  refine wp_block ?_
  refine wp_seq ?_
  refine region_seq ?_
  revert a
  refine mA rfl rfl ?_
  refine sA (v := .bool (decide (k < (1 : Int)))) rfl (fun _ henv => rn_bin henv rfl rfl rfl) ?_
  intro a henv
  rw [show (decide (k < (1 : Int))) = false from (decide_eq_false (by omega))] at henv
  revert a
  refine mA rfl rfl ?_
  refine gA (v := .int .i64 k) rfl rfl rfl rfl (fun _ henv => rn_move henv rfl) ?_
  refine gA (v := .bool (decide (k > (8 : Int)))) rfl rfl rfl rfl (fun _ henv => rn_bin henv rfl rfl rfl) ?_
  intro a henv
  rw [show (decide (k > (8 : Int))) = false from (decide_eq_false (by omega))] at henv
  revert a
  refine sA (v := .bool false) rfl (fun _ henv => rn_pick henv rfl rfl) ?_
  refine mA rfl rfl ?_
  refine gA (v := .int .i64 m) rfl rfl rfl rfl (fun _ henv => rn_move henv rfl) ?_
  refine gA (v := .bool (decide (m < (1 : Int)))) rfl rfl rfl rfl (fun _ henv => rn_bin henv rfl rfl rfl) ?_
  intro a henv
  rw [show (decide (m < (1 : Int))) = true from (decide_eq_true (by omega))] at henv
  revert a
  refine sA (v := .bool true) rfl (fun _ henv => rn_pick henv rfl rfl) ?_
  refine mA rfl rfl ?_
  refine kA rfl rfl rfl rfl rfl ?_
  refine kA rfl rfl rfl rfl rfl ?_
  refine sA (v := .bool true) rfl (fun _ henv => rn_pick henv rfl rfl) ?_
  refine aA rfl rfl ?_
  intro a henv
  refine wpList_nil ?_
  refine th_n ?_
  refine if_t henv rfl (rfl) ?_
  refine wp_seq ?_
  refine region_seq ?_
  revert a
  refine aA rfl rfl ?_
  refine aA rfl rfl ?_
  intro a henv
  refine wpList_nil ?_
  refine th_n ?_
  refine wp_ret ?_
  refine bl_r (th_r ?_)
  refine leave henv (res2 Tryd.results12 (RV.tmp henv rfl) (RV.tmp henv rfl)) ?_
  exact ⟨rfl, hst.below⟩
set_option maxRecDepth 100000 in
set_option maxHeartbeats 2000000 in
theorem sp_parts_a3 {A0 : Option Addr} {n0 c0 : Nat} {k m : Int} {w0 : World} (h0 : 1 ≤ k) (h2 : k ≤ 8) (h1 : 4096 < m) :
    Calls Tryd.prog 12 #[.slice A0 n0 c0, .int .i64 k, .int .i64 m] w0 fun e w' => e = .returned (.tuple #[.slice none 0 0, .int .i64 2]) ∧ Below w0.heap.size w0 w' := by
  refine enter Tryd.func12 rfl Tryd.ntmps12 rfl ?_
  intro a henv hst
  refine wp_seq ?_
  refine region_seq ?_
  revert a
  refine aA rfl rfl ?_
  refine aA rfl rfl ?_
  intro a henv
  refine wpList_nil ?_
  refine th_n ?_
  refine wp_seq ?_
  refine wp_block ?_
  refine wp_seq ?_
  refine region_seq ?_
  revert a
  refine mA rfl rfl ?_
  refine sA (v := .bool (decide (k < (1 : Int)))) rfl (fun _ henv => rn_bin henv rfl rfl rfl) ?_
  intro a henv
  rw [show (decide (k < (1 : Int))) = false from (decide_eq_false (by omega))] at henv
  revert a
  refine mA rfl rfl ?_
  refine gA (v := .int .i64 k) rfl rfl rfl rfl (fun _ henv => rn_move henv rfl) ?_
  refine gA (v := .bool (decide (k > (8 : Int)))) rfl rfl rfl rfl (fun _ henv => rn_bin henv rfl rfl rfl) ?_
  intro a henv
  rw [show (decide (k > (8 : Int))) = false from (decide_eq_false (by omega))] at henv
  revert a
  refine sA (v := .bool false) rfl (fun _ henv => rn_pick henv rfl rfl) ?_
  refine mA rfl rfl ?_
  refine gA (v := .int .i64 m) rfl rfl rfl rfl (fun _ henv => rn_move henv rfl) ?_
  refine gA (v := .bool (decide (m < (1 : Int)))) rfl rfl rfl rfl (fun _ henv => rn_bin henv rfl rfl rfl) ?_
  intro a henv
  rw [show (decide (m < (1 : Int))) = false from (decide_eq_false (by omega))] at henv
  revert a
  refine sA (v := .bool false) rfl (fun _ henv => rn_pick henv rfl rfl) ?_
  refine mA rfl rfl ?_
  refine gA (v := .int .i64 m) rfl rfl rfl rfl (fun _ henv => rn_move henv rfl) ?_
  refine gA (v := .bool (decide (m > (4096 : Int)))) rfl rfl rfl rfl (fun _ henv => rn_bin henv rfl rfl rfl) ?_
  intro a henv
  rw [show (decide (m > (4096 : Int))) = true from (decide_eq_true (by omega))] at henv
  revert a
  refine sA (v := .bool true) rfl (fun _ henv => rn_pick henv rfl rfl) ?_
  refine aA rfl rfl ?_
  intro a henv
  refine wpList_nil ?_
  refine th_n ?_
  refine if_t henv rfl (rfl) ?_
  refine wp_seq ?_
  refine region_seq ?_
  revert a
  refine aA rfl rfl ?_
  refine aA rfl rfl ?_
  intro a henv
  refine wpList_nil ?_
  refine th_n ?_
  refine wp_ret ?_
  refine bl_r (th_r ?_)
  refine leave henv (res2 Tryd.results12 (RV.tmp henv rfl) (RV.tmp henv rfl)) ?_
  exact ⟨rfl, hst.below⟩
theorem sp_parts_arg {A0 : Option Addr} {n0 c0 : Nat} {k m : Int} {w0 : World} (h : k < 1 ∨ 8 < k ∨ m < 1 ∨ 4096 < m) :
    Calls Tryd.prog 12 #[.slice A0 n0 c0, .int .i64 k, .int .i64 m] w0 fun e w' => e = .returned (.tuple #[.slice none 0 0, .int .i64 2]) ∧ Below w0.heap.size w0 w' := by
  by_cases h1 : k < 1
  · exact sp_parts_a0 h1
  by_cases h2 : 8 < k
  · exact sp_parts_a1 h2
  by_cases h3 : m < 1
  · exact sp_parts_a2 (by omega) (by omega) h3
  · exact sp_parts_a3 (by omega) (by omega) (by omega)
set_option maxRecDepth 100000 in
set_option maxHeartbeats 2000000 in
theorem sp_parts_big {A0 : Option Addr} {n0 c0 : Nat} {k m : Int} {w0 : World} (h1 : 1 ≤ k) (h2 : k ≤ 8) (h3 : 1 ≤ m) (h4 : m ≤ 4096) (hn : 4096 < n0) :
    Calls Tryd.prog 12 #[.slice A0 n0 c0, .int .i64 k, .int .i64 m] w0 fun e w' => e = .returned (.tuple #[.slice none 0 0, .int .i64 3]) ∧ Below w0.heap.size w0 w' := by
  refine enter Tryd.func12 rfl Tryd.ntmps12 rfl ?_
  intro a henv hst
  refine wp_seq ?_
  refine region_seq ?_
  revert a
  refine aA rfl rfl ?_
  refine aA rfl rfl ?_
  intro a henv
  refine wpList_nil ?_
  refine th_n ?_
  refine wp_seq ?_
  refine wp_block ?_
  refine wp_seq ?_
  refine region_seq ?_
  revert a
  refine mA rfl rfl ?_
  refine sA (v := .bool (decide (k < (1 : Int)))) rfl (fun _ henv => rn_bin henv rfl rfl rfl) ?_
  intro a henv
  rw [show (decide (k < (1 : Int))) = false from (decide_eq_false (by omega))] at henv
  revert a
  refine mA rfl rfl ?_
  refine gA (v := .int .i64 k) rfl rfl rfl rfl (fun _ henv => rn_move henv rfl) ?_
  refine gA (v := .bool (decide (k > (8 : Int)))) rfl rfl rfl rfl (fun _ henv => rn_bin henv rfl rfl rfl) ?_
  intro a henv
  rw [show (decide (k > (8 : Int))) = false from (decide_eq_false (by omega))] at henv
  revert a
  refine sA (v := .bool false) rfl (fun _ henv => rn_pick henv rfl rfl) ?_
  refine mA rfl rfl ?_
  refine gA (v := .int .i64 m) rfl rfl rfl rfl (fun _ henv => rn_move henv rfl) ?_
  refine gA (v := .bool (decide (m < (1 : Int)))) rfl rfl rfl rfl (fun _ henv => rn_bin henv rfl rfl rfl) ?_
  intro a henv
  rw [show (decide (m < (1 : Int))) = false from (decide_eq_false (by omega))] at henv
  revert a
  refine sA (v := .bool false) rfl (fun _ henv => rn_pick henv rfl rfl) ?_
  refine mA rfl rfl ?_
  refine gA (v := .int .i64 m) rfl rfl rfl rfl (fun _ henv => rn_move henv rfl) ?_
  refine gA (v := .bool (decide (m > (4096 : Int)))) rfl rfl rfl rfl (fun _ henv => rn_bin henv rfl rfl rfl) ?_
  intro a henv
  rw [show (decide (m > (4096 : Int))) = false from (decide_eq_false (by omega))] at henv
  revert a
  refine sA (v := .bool false) rfl (fun _ henv => rn_pick henv rfl rfl) ?_
  refine aA rfl rfl ?_
  intro a henv
  refine wpList_nil ?_
  refine th_n ?_
  refine if_f henv rfl (rfl) ?_
  refine wp_seq ?_
  refine region_seq ?_
  revert a
  refine mA rfl rfl ?_
  refine sA (v := .int .i64 (n0 : Nat)) rfl (fun _ henv => rn_len henv Tryd.underlying24 rfl) ?_
  refine sA (v := .bool (decide (((n0 : Nat) : Int) > (4096 : Int)))) rfl (fun _ henv => rn_bin henv rfl rfl rfl) ?_
  intro a henv
  rw [show (decide (((n0 : Nat) : Int) > (4096 : Int))) = true from (decide_eq_true (by omega))] at henv
  refine sv (v := .bool true) henv rfl (rn_assign henv rfl) ?_
  clear henv a; intro a henv
  refine wpList_nil ?_
  refine th_n ?_
  refine if_t henv rfl (rfl) ?_
  refine wp_seq ?_
  refine region_seq ?_
  revert a
  refine aA rfl rfl ?_
  refine aA rfl rfl ?_
  intro a henv
  refine wpList_nil ?_
  refine th_n ?_
  refine wp_ret ?_
  refine bl_r (th_r ?_)
  refine leave henv (res2 Tryd.results12 (RV.tmp henv rfl) (RV.tmp henv rfl)) ?_
  exact ⟨rfl, hst.below⟩
end Go.Proofs.YtoojllfijfjmoaaDoor.W

/- Rows of the call's own, several at once: a made row goes in, the first comes out. No condition. -/
namespace Go.Proofs.YtoojllfijfjmoaaDoor.W
open Go.RowKit Anv Go.Lib
abbrev fH (v : LE) : List Value := fL v
def FH (v : LE) : PF := pfEs FN v.2.2.2
theorem fH_len (v : LE) : (fH v).length = 1 := rfl
abbrev oneR (E m : Nat) (v : LE) : PF := rowS notU E 2 v.1 m m (fl fN v.2.2.2)
def partsF (E m : Nat) (os : List LE) : PF :=
  ⟨fun w => (∀ v ∈ os, (oneR E m v).P w ∧ v.2.1 = m ∧ v.2.2.1 = m ∧ v.2.2.2.length = m) ∧ os.Pairwise fun u v => ∀ b, (oneR E m u).foot b → ¬ (oneR E m v).foot b, fun b => ∃ v ∈ os, (oneR E m v).foot b,
    fun h ⟨v, hv, hf⟩ => (oneR E m v).lt (h.1 v hv).1 hf,
    fun h hs hk => ⟨fun v hv => ⟨(oneR E m v).keep (h.1 v hv).1 hs fun b hb => hk b ⟨v, hv, hb⟩, (h.1 v hv).2⟩, h.2⟩⟩
theorem nou_parts {E m : Nat} {os : List LE} : NoU (partsF E m os) := fun w b o i hP ⟨v, hv, hf⟩ => nou_rowS w b o i (hP.1 v hv).1 hf
theorem St.addParts {w0 w : World} {own ps : List PF} (h : St w0 w own ps) (E m : Nat) : St w0 w (partsF E m [] :: own) ps :=
  ⟨h.below, fun e he => by
    rcases List.mem_cons.1 he with rfl | he
    · exact ⟨fun v hv => (by cases hv), List.Pairwise.nil⟩
    · exact h.mine e he, fun e he b hb => by
    rcases List.mem_cons.1 he with rfl | he
    · obtain ⟨v, hv, _⟩ := hb; cases hv
    · exact h.new e he b hb, List.pairwise_cons.2 ⟨fun e _ b hb => (by obtain ⟨v, hv, _⟩ := hb; cases hv), h.nd⟩, h.pers, fun p hp e he b hb => by
    rcases List.mem_cons.1 he with rfl | he
    · obtain ⟨v, hv, _⟩ := hb; cases hv
    · exact h.apart p hp e he b hb⟩
theorem St.merge {w0 w : World} {own ps : List PF} {E m : Nat} {A : Option Addr} {es : List NE} {os : List LE} (h : St w0 w (rowS notU E 2 A m m (fl fN es) :: partsF E m os :: own) ps) (hl : es.length = m) : St w0 w (partsF E m (os ++ [(A, m, m, es)]) :: own) ps := by
  have hn := List.pairwise_cons.1 h.nd
  have hn2 := List.pairwise_cons.1 hn.2
  have h1 := h.owns (k := 0) rfl
  have h2 := h.owns (k := 1) rfl
  have hf : ∀ b, (partsF E m (os ++ [(A, m, m, es)])).foot b → (rowS notU E 2 A m m (fl fN es)).foot b ∨ (partsF E m os).foot b := fun b ⟨v, hv, hb⟩ => by
    rcases List.mem_append.1 hv with hv | hv
    · exact .inr ⟨v, hv, hb⟩
    · rw [List.mem_singleton.1 hv] at hb; exact .inl hb
  refine ⟨h.below, fun e he => ?_, fun e he b hb => ?_, List.pairwise_cons.2 ⟨fun e he b hb => ?_, hn2.2⟩, h.pers, fun p hp e he b hb => ?_⟩
  · rcases List.mem_cons.1 he with rfl | he
    · refine ⟨fun v hv => ?_, List.pairwise_append.2 ⟨h2.2, List.pairwise_singleton .., fun u hu v hv b hb hc => ?_⟩⟩
      · rcases List.mem_append.1 hv with hv | hv
        · exact h2.1 v hv
        · rw [List.mem_singleton.1 hv]; exact ⟨h1, rfl, rfl, hl⟩
      · rw [List.mem_singleton.1 hv] at hc
        exact hn.1 _ (List.mem_cons_self ..) b hc ⟨u, hu, hb⟩
    · exact h.mine e (List.mem_cons_of_mem _ (List.mem_cons_of_mem _ he))
  · rcases List.mem_cons.1 he with rfl | he
    · rcases hf b hb with q | q
      · exact h.new _ (List.mem_cons_self ..) b q
      · exact h.new _ (List.mem_cons_of_mem _ (List.mem_cons_self ..)) b q
    · exact h.new e (List.mem_cons_of_mem _ (List.mem_cons_of_mem _ he)) b hb
  · rcases hf b hb with q | q
    · exact hn.1 e (List.mem_cons_of_mem _ he) b q
    · exact hn2.1 e he b q
  · rcases List.mem_cons.1 he with rfl | he
    · rcases hf b hb with q | q
      · exact h.apart p hp _ (List.mem_cons_self ..) b q
      · exact h.apart p hp _ (List.mem_cons_of_mem _ (List.mem_cons_self ..)) b q
    · exact h.apart p hp e (List.mem_cons_of_mem _ (List.mem_cons_of_mem _ he)) b hb
theorem St.unmerge {w0 w : World} {own ps : List PF} {E m : Nat} {v : LE} {os : List LE} (h : St w0 w (partsF E m (v :: os) :: own) ps) : St w0 w (oneR E m v :: partsF E m os :: own) ps := by
  have hn := List.pairwise_cons.1 h.nd
  have h1 := h.owns (k := 0) rfl
  have h2 := List.pairwise_cons.1 h1.2
  have fa : ∀ b, (oneR E m v).foot b → (partsF E m (v :: os)).foot b := fun b hb => ⟨v, List.mem_cons_self .., hb⟩
  have fb : ∀ b, (partsF E m os).foot b → (partsF E m (v :: os)).foot b := fun b ⟨u, hu, hb⟩ => ⟨u, List.mem_cons_of_mem _ hu, hb⟩
  refine ⟨h.below, fun e he => ?_, fun e he b hb => ?_, List.pairwise_cons.2 ⟨fun e he b hb => ?_, List.pairwise_cons.2 ⟨fun e he b hb => hn.1 e he b (fb b hb), hn.2⟩⟩, h.pers, fun p hp e he b hb => ?_⟩
  · rcases List.mem_cons.1 he with rfl | he
    · exact (h1.1 v (List.mem_cons_self ..)).1
    · rcases List.mem_cons.1 he with rfl | he
      · exact ⟨fun u hu => h1.1 u (List.mem_cons_of_mem _ hu), h2.2⟩
      · exact h.mine e (List.mem_cons_of_mem _ he)
  · rcases List.mem_cons.1 he with rfl | he
    · exact h.new _ (List.mem_cons_self ..) b (fa b hb)
    · rcases List.mem_cons.1 he with rfl | he
      · exact h.new _ (List.mem_cons_self ..) b (fb b hb)
      · exact h.new e (List.mem_cons_of_mem _ he) b hb
  · rcases List.mem_cons.1 he with rfl | he
    · rintro ⟨u, hu, hc⟩
      exact h2.1 u hu b hb hc
    · exact hn.1 e he b (fa b hb)
  · rcases List.mem_cons.1 he with rfl | he
    · exact h.apart p hp _ (List.mem_cons_self ..) b (fa b hb)
    · rcases List.mem_cons.1 he with rfl | he
      · exact h.apart p hp _ (List.mem_cons_self ..) b (fb b hb)
      · exact h.apart p hp e (List.mem_cons_of_mem _ he) b hb
theorem parts_lens {E m : Nat} {os : List LE} {w : World} (h : (partsF E m os).P w) {j n c : Nat} {A : Option Addr} {es : List NE} (he : os[j]? = some (A, n, c, es)) : m = n ∧ m = c := by
  have := h.1 _ (List.mem_of_getElem? he)
  exact ⟨this.2.1.symm, this.2.2.1.symm⟩
theorem drop_at {α : Type} {l : List α} {j : Nat} {x : α} (h : l[j]? = some x) : l.drop j = x :: l.drop (j + 1) := by
  obtain ⟨hj, rfl⟩ := List.getElem?_eq_some_iff.1 h
  exact List.drop_eq_getElem_cons hj
def PRow (B : Nat) (w : World) (E1 E m k : Nat) (A : Option Addr) (c : Nat) (vs : List LE) : Prop :=
  (rowS notU E1 1 A k c (fl fH vs)).P w ∧ (partsF E m vs).P w ∧ (pfEs FH vs).P w ∧ vs.length = k ∧ (∀ b, (rowS notU E1 1 A k c (fl fH vs)).foot b → B ≤ b) ∧ (∀ b, (partsF E m vs).foot b → B ≤ b) ∧ ∀ b, (rowS notU E1 1 A k c (fl fH vs)).foot b → ¬ (partsF E m vs).foot b
theorem parts_row {E1 E m k c : Nat} {A : Option Addr} {vs : List LE} {w : World} (h1 : (rowS notU E1 1 A k c (fl fH vs)).P w) (h2 : (partsF E m vs).P w) (h3 : (pfEs FH vs).P w) (hl : vs.length = k) : (pfRow fL FL 1 A k c vs).P w :=
  ⟨rowS_rd h1, hl, fun v hv => by
    obtain ⟨q1, q2, q3, q4⟩ := h2.1 v hv
    refine ⟨?_, by rw [q4, q2], h3 v hv⟩
    have := rowS_rd q1
    show Rd 2 w v.1 v.2.1 v.2.2.1 (fl fN v.2.2.2)
    rw [q2, q3]
    exact this⟩
theorem St.addPRow {w0 w w' : World} {ps : List PF} {E1 E m k c : Nat} {A : Option Addr} {vs : List LE} (h : St w0 w [] ps) (hb : Below w.heap.size w w') (hr : PRow w.heap.size w' E1 E m k A c vs) : St w0 w' [rowS notU E1 1 A k c (fl fH vs), partsF E m vs] (pfEs FH vs :: ps) := by
  obtain ⟨r1, r2, r3, r4, r5, r6, r7⟩ := hr
  have h2 := h.call hb
  have hb0 := h.below.size
  have base : St w0 w' [rowS notU E1 1 A k c (fl fH vs), partsF E m vs] ps := by
    refine ⟨h2.below, fun e he => ?_, fun e he b hf => ?_, List.pairwise_cons.2 ⟨fun e he b hf => ?_, List.pairwise_singleton ..⟩, h2.pers, fun p hp e he b hf hq => ?_⟩
    · rcases List.mem_cons.1 he with rfl | he
      · exact r1
      · rw [List.mem_singleton.1 he]; exact r2
    · rcases List.mem_cons.1 he with rfl | he
      · exact Nat.le_trans hb0 (r5 b hf)
      · rw [List.mem_singleton.1 he] at hf; exact Nat.le_trans hb0 (r6 b hf)
    · rw [List.mem_singleton.1 he]; exact r7 b hf
    · have hlt := p.lt (h.pers p hp) hq
      rcases List.mem_cons.1 he with rfl | he
      · have := r5 b hf; omega
      · rw [List.mem_singleton.1 he] at hf; have := r6 b hf; omega
  refine base.addP _ r3 fun o ho b hf ⟨v, hv, hq⟩ => ?_
  have hns : NoUs [rowS notU E1 1 A k c (fl fH vs), partsF E m vs] := ⟨nou_rowS, nou_parts, trivial⟩
  exact ap_N (es := v.2.2.2) (r3 v hv) hns o ho b hf (base.mine o ho) hq
end Go.Proofs.YtoojllfijfjmoaaDoor.W

/- SplitShort, SplitLevels, SplitEnds: the laws' walks. Printed by pv/gen_sp6.py. No condition. -/
namespace Go.Proofs.YtoojllfijfjmoaaDoor.W
open Go.RowKit Anv Go.Lib
end Go.Proofs.YtoojllfijfjmoaaDoor.W

/- SplitKnown: the law's walk. Printed by pv/gen_sp7.py. No condition. -/
namespace Go.Proofs.YtoojllfijfjmoaaDoor.W
open Go.RowKit Anv Go.Lib
section
variable {N : Nat} {dq : List Deferred} {a : Act} {l : List (Nat × Value)} {w : World} {d : Nat} {ty : TypeId} {pos : String} {af : Array Edge} {gd : Option (Nat × Bool)}
end
abbrev BE6 := Int × Int × Int × Int × Int × Int
def fB6 (e : BE6) : List Value := [.int .i64 e.1, .int .i64 e.2.1, .int .i64 e.2.2.1, .int .i64 e.2.2.2.1, .int .i64 e.2.2.2.2.1, .int .i64 e.2.2.2.2.2]
def FB6 (_ : BE6) : PF := pfT0
abbrev BE7 := Int × Int × Int × Int × Int × Bool × Int
def fB7 (e : BE7) : List Value := [.int .i64 e.1, .int .i64 e.2.1, .int .i64 e.2.2.1, .int .i64 e.2.2.2.1, .int .i64 e.2.2.2.2.1, .bool e.2.2.2.2.2.1, .int .i64 e.2.2.2.2.2.2]
def FB7 (_ : BE7) : PF := pfT0
def blkI (n1 n2 k1 k2 : Int) : Int := if RP n1 n2 k1 k2 then (blkN n1.toNat n2.toNat k1.toNat k2.toNat : Nat) else 0
def erI (n1 n2 k1 k2 : Int) : Int := if RP n1 n2 k1 k2 then 0 else 2
def enI (n1 n2 k1 k2 t : Int) : Bool := decide (RP n1 n2 k1 k2) && decide (EP n1.toNat n2.toNat k1.toNat k2.toNat t)
def dpI (n1 n2 k1 k2 t : Int) : Int := if RP n1 n2 k1 k2 then (depF k1.toNat k2.toNat t 4097 n1.toNat n2.toNat : Nat) else 0
def good6 (e : BE6) : Prop := blkI e.1 e.2.1 e.2.2.1 e.2.2.2.1 = e.2.2.2.2.1 ∧ erI e.1 e.2.1 e.2.2.1 e.2.2.2.1 = e.2.2.2.2.2
instance (e : BE6) : Decidable (good6 e) := inferInstanceAs (Decidable (_ ∧ _))
def good7 (e : BE7) : Prop := enI e.1 e.2.1 e.2.2.1 e.2.2.2.1 e.2.2.2.2.1 = e.2.2.2.2.2.1 ∧ dpI e.1 e.2.1 e.2.2.1 e.2.2.2.1 e.2.2.2.2.1 = e.2.2.2.2.2.2 ∧ erI e.1 e.2.1 e.2.2.1 e.2.2.2.1 = 0
instance (e : BE7) : Decidable (good7 e) := inferInstanceAs (Decidable (_ ∧ _))
set_option maxRecDepth 100000 in
set_option maxHeartbeats 2000000 in
theorem sp_parts_short {A0 : Option Addr} {n0 c0 : Nat} {es0 : List NE} {k m : Nat} {w0 : World} (h0 : (pfRow fN FN 2 A0 n0 c0 es0).P w0) (hn0 : n0 ≤ 4096) (hk1 : 1 ≤ k) (hk8 : k ≤ 8) (hm1 : 1 ≤ m) (hm4 : m ≤ 4096) (hkm : k * m < n0) :
    Calls Tryd.prog 12 #[.slice A0 n0 c0, .int .i64 (k : Nat), .int .i64 (m : Nat)] w0 fun e w' => e = .returned (.tuple #[.slice none 0 0, .int .i64 5]) ∧ Below w0.heap.size w0 w' := by
  refine enter Tryd.func12 rfl Tryd.ntmps12 rfl ?_
  intro a henv hst
  have hlen0 := h0.2.1
  have hbig0 := Nat.le_trans h0.1.cap h0.1.big
  unfold maxLen at hbig0
  replace hst := hst.argRow h0
  clear h0
  refine wp_seq ?_
  refine region_seq ?_
  revert a
  refine aA rfl rfl ?_
  refine aA rfl rfl ?_
  intro a henv
  refine wpList_nil ?_
  refine th_n ?_
  refine wp_seq ?_
  refine wp_block ?_
  refine wp_seq ?_
  refine region_seq ?_
  revert a
  refine mA rfl rfl ?_
  refine sA (v := .bool (decide (((k : Nat) : Int) < (1 : Int)))) rfl (fun _ henv => rn_bin henv rfl rfl rfl) ?_
  intro a henv
  rw [show (decide (((k : Nat) : Int) < (1 : Int))) = false from (decide_eq_false (by omega))] at henv
  revert a
  refine mA rfl rfl ?_
  refine gA (v := .int .i64 (k : Nat)) rfl rfl rfl rfl (fun _ henv => rn_move henv rfl) ?_
  refine gA (v := .bool (decide (((k : Nat) : Int) > (8 : Int)))) rfl rfl rfl rfl (fun _ henv => rn_bin henv rfl rfl rfl) ?_
  intro a henv
  rw [show (decide (((k : Nat) : Int) > (8 : Int))) = false from (decide_eq_false (by omega))] at henv
  revert a
  refine sA (v := .bool false) rfl (fun _ henv => rn_pick henv rfl rfl) ?_
  refine mA rfl rfl ?_
  refine gA (v := .int .i64 (m : Nat)) rfl rfl rfl rfl (fun _ henv => rn_move henv rfl) ?_
  refine gA (v := .bool (decide (((m : Nat) : Int) < (1 : Int)))) rfl rfl rfl rfl (fun _ henv => rn_bin henv rfl rfl rfl) ?_
  intro a henv
  rw [show (decide (((m : Nat) : Int) < (1 : Int))) = false from (decide_eq_false (by omega))] at henv
  revert a
  refine sA (v := .bool false) rfl (fun _ henv => rn_pick henv rfl rfl) ?_
  refine mA rfl rfl ?_
  refine gA (v := .int .i64 (m : Nat)) rfl rfl rfl rfl (fun _ henv => rn_move henv rfl) ?_
  refine gA (v := .bool (decide (((m : Nat) : Int) > (4096 : Int)))) rfl rfl rfl rfl (fun _ henv => rn_bin henv rfl rfl rfl) ?_
  intro a henv
  rw [show (decide (((m : Nat) : Int) > (4096 : Int))) = false from (decide_eq_false (by omega))] at henv
  revert a
  refine sA (v := .bool false) rfl (fun _ henv => rn_pick henv rfl rfl) ?_
  refine aA rfl rfl ?_
  intro a henv
  refine wpList_nil ?_
  refine th_n ?_
  refine if_f henv rfl (rfl) ?_
  refine wp_seq ?_
  refine region_seq ?_
  revert a
  refine mA rfl rfl ?_
  refine sA (v := .int .i64 (n0 : Nat)) rfl (fun _ henv => rn_len henv Tryd.underlying24 rfl) ?_
  refine sA (v := .bool (decide (((n0 : Nat) : Int) > (4096 : Int)))) rfl (fun _ henv => rn_bin henv rfl rfl rfl) ?_
  intro a henv
  rw [show (decide (((n0 : Nat) : Int) > (4096 : Int))) = false from (decide_eq_false (by omega))] at henv
  refine sv (v := .bool false) henv rfl (rn_assign henv rfl) ?_
  clear henv a; intro a henv
  refine wpList_nil ?_
  refine th_n ?_
  refine if_f henv rfl (rfl) ?_
  refine wp_seq ?_
  refine region_seq ?_
  revert a
  refine mA rfl rfl ?_
  refine mA rfl rfl ?_
  refine sA (v := .int .i64 (k * m : Nat)) rfl (fun _ henv => rn_mul henv rfl rfl (by rw [IntWalk.i64_in _ (by omega)]; omega)) ?_
  refine mA rfl rfl ?_
  refine sA (v := .int .i64 (n0 : Nat)) rfl (fun _ henv => rn_len henv Tryd.underlying24 rfl) ?_
  refine sA (v := .bool (decide (((k * m : Nat) : Int) < ((n0 : Nat) : Int)))) rfl (fun _ henv => rn_bin henv rfl rfl rfl) ?_
  intro a henv
  rw [show (decide (((k * m : Nat) : Int) < ((n0 : Nat) : Int))) = true from (decide_eq_true (by omega))] at henv
  refine sv (v := .bool true) henv rfl (rn_assign henv rfl) ?_
  clear henv a; intro a henv
  refine wpList_nil ?_
  refine th_n ?_
  refine if_t henv rfl (rfl) ?_
  refine wp_seq ?_
  refine region_seq ?_
  revert a
  refine aA rfl rfl ?_
  refine aA rfl rfl ?_
  intro a henv
  refine wpList_nil ?_
  refine th_n ?_
  refine wp_ret ?_
  refine bl_r (th_r ?_)
  refine leave henv (res2 Tryd.results12 (RV.tmp henv rfl) (RV.tmp henv rfl)) ?_
  exact ⟨rfl, hst.below⟩
end Go.Proofs.YtoojllfijfjmoaaDoor.W

/- split.Parts, its parts the caller's own. Printed by pv/gen_spb.py. No condition. -/
namespace Go.Proofs.YtoojllfijfjmoaaDoor.W
open Go.RowKit Anv Go.Lib
set_option maxRecDepth 100000 in
set_option maxHeartbeats 4000000 in
theorem sp_parts2 {A0 : Option Addr} {n0 c0 : Nat} {es0 : List NE} {xs : List Int} {k m : Nat} {w0 : World} (h0 : (pfRow fN FN 2 A0 n0 c0 es0).P w0) (hz0 : es0.map zz = xs) (hn0 : n0 ≤ 4096) (hk1 : 1 ≤ k) (hk8 : k ≤ 8) (hm1 : 1 ≤ m) (hm4 : m ≤ 4096) (hkm : n0 ≤ k * m) (hkm2 : k * m ≤ 32768) :
    Calls Tryd.prog 12 #[.slice A0 n0 c0, .int .i64 (k : Nat), .int .i64 (m : Nat)] w0 fun e w' => ∃ A c vs, e = .returned (.tuple #[.slice A k c, .int .i64 0]) ∧ PRow w0.heap.size w' 24 39 m k A c vs ∧ vs.map lz = (List.range k).map (partL xs m) ∧ Below w0.heap.size w0 w' := by
  refine enter Tryd.func12 rfl Tryd.ntmps12 rfl ?_
  intro a henv hst
  have hlen0 := h0.2.1
  have hbig0 := Nat.le_trans h0.1.cap h0.1.big
  unfold maxLen at hbig0
  replace hst := hst.argRow h0
  clear h0
  refine wp_seq ?_
  refine region_seq ?_
  revert a
  refine aA rfl rfl ?_
  refine aA rfl rfl ?_
  intro a henv
  refine wpList_nil ?_
  refine th_n ?_
  refine wp_seq ?_
  refine wp_block ?_
  refine wp_seq ?_
  refine region_seq ?_
  revert a
  refine mA rfl rfl ?_
  refine sA (v := .bool (decide (((k : Nat) : Int) < (1 : Int)))) rfl (fun _ henv => rn_bin henv rfl rfl rfl) ?_
  intro a henv
  rw [show (decide (((k : Nat) : Int) < (1 : Int))) = false from (decide_eq_false (by omega))] at henv
  revert a
  refine mA rfl rfl ?_
  refine gA (v := .int .i64 (k : Nat)) rfl rfl rfl rfl (fun _ henv => rn_move henv rfl) ?_
  refine gA (v := .bool (decide (((k : Nat) : Int) > (8 : Int)))) rfl rfl rfl rfl (fun _ henv => rn_bin henv rfl rfl rfl) ?_
  intro a henv
  rw [show (decide (((k : Nat) : Int) > (8 : Int))) = false from (decide_eq_false (by omega))] at henv
  revert a
  refine sA (v := .bool false) rfl (fun _ henv => rn_pick henv rfl rfl) ?_
  refine mA rfl rfl ?_
  refine gA (v := .int .i64 (m : Nat)) rfl rfl rfl rfl (fun _ henv => rn_move henv rfl) ?_
  refine gA (v := .bool (decide (((m : Nat) : Int) < (1 : Int)))) rfl rfl rfl rfl (fun _ henv => rn_bin henv rfl rfl rfl) ?_
  intro a henv
  rw [show (decide (((m : Nat) : Int) < (1 : Int))) = false from (decide_eq_false (by omega))] at henv
  revert a
  refine sA (v := .bool false) rfl (fun _ henv => rn_pick henv rfl rfl) ?_
  refine mA rfl rfl ?_
  refine gA (v := .int .i64 (m : Nat)) rfl rfl rfl rfl (fun _ henv => rn_move henv rfl) ?_
  refine gA (v := .bool (decide (((m : Nat) : Int) > (4096 : Int)))) rfl rfl rfl rfl (fun _ henv => rn_bin henv rfl rfl rfl) ?_
  intro a henv
  rw [show (decide (((m : Nat) : Int) > (4096 : Int))) = false from (decide_eq_false (by omega))] at henv
  revert a
  refine sA (v := .bool false) rfl (fun _ henv => rn_pick henv rfl rfl) ?_
  refine aA rfl rfl ?_
  intro a henv
  refine wpList_nil ?_
  refine th_n ?_
  refine if_f henv rfl (rfl) ?_
  refine wp_seq ?_
  refine region_seq ?_
  revert a
  refine mA rfl rfl ?_
  refine sA (v := .int .i64 (n0 : Nat)) rfl (fun _ henv => rn_len henv Tryd.underlying24 rfl) ?_
  refine sA (v := .bool (decide (((n0 : Nat) : Int) > (4096 : Int)))) rfl (fun _ henv => rn_bin henv rfl rfl rfl) ?_
  intro a henv
  rw [show (decide (((n0 : Nat) : Int) > (4096 : Int))) = false from (decide_eq_false (by omega))] at henv
  refine sv (v := .bool false) henv rfl (rn_assign henv rfl) ?_
  clear henv a; intro a henv
  refine wpList_nil ?_
  refine th_n ?_
  refine if_f henv rfl (rfl) ?_
  refine wp_seq ?_
  refine region_seq ?_
  revert a
  refine mA rfl rfl ?_
  refine mA rfl rfl ?_
  refine sA (v := .int .i64 (k * m : Nat)) rfl (fun _ henv => rn_mul henv rfl rfl (by rw [IntWalk.i64_in _ (by omega)]; omega)) ?_
  refine mA rfl rfl ?_
  refine sA (v := .int .i64 (n0 : Nat)) rfl (fun _ henv => rn_len henv Tryd.underlying24 rfl) ?_
  refine sA (v := .bool (decide (((k * m : Nat) : Int) < ((n0 : Nat) : Int)))) rfl (fun _ henv => rn_bin henv rfl rfl rfl) ?_
  intro a henv
  rw [show (decide (((k * m : Nat) : Int) < ((n0 : Nat) : Int))) = false from (decide_eq_false (by omega))] at henv
  refine sv (v := .bool false) henv rfl (rn_assign henv rfl) ?_
  clear henv a; intro a henv
  refine wpList_nil ?_
  refine th_n ?_
  refine if_f henv rfl (rfl) ?_
  refine wp_skip ?_
  refine bl_n (th_n ?_)
  refine wp_seq ?_
  refine region_seq ?_
  refine sv (v := .slice none 0 0) henv rfl (rn_assign henv rfl) ?_
  clear henv a; intro a henv
  refine wpList_nil ?_
  refine th_n ?_
  refine wp_seq ?_
  refine wp_seq ?_
  refine region_seq ?_
  revert a
  refine mA rfl rfl ?_
  refine mA rfl rfl ?_
  intro a henv
  refine wpList_nil ?_
  refine th_n ?_
  refine wp_block ?_
  replace hst := (hst.addRowS notU 24 1).nilEs FH
  replace hst : St w0 _ [rowS notU 24 1 none 0 0 (fl fH ([]))] [pfEs FH ([]), pfRow fN FN 2 A0 n0 c0 es0] := hst
  replace hst := hst.addParts 39 m
  replace hst : St w0 _ [partsF 39 m ([]), rowS notU 24 1 none 0 0 (fl fH ([]))] [pfEs FH ([]), pfRow fN FN 2 A0 n0 c0 es0] := hst
  refine wp_loop_ghost (fun mz a w => ∃ j : Nat, ∃ A : Option Addr, ∃ n : Nat, ∃ c : Nat, ∃ es : List NE, ∃ B : Option Addr, ∃ d : Nat, ∃ os : List LE, k - j = mz ∧ Env 54 a [(0, .slice A n c), (1, .int .i64 (k : Nat)), (2, .int .i64 (m : Nat)), (8, .slice B j d), (37, .int .i64 (k : Nat)), (38, .int .i64 (j : Nat))] ∧ St w0 w [rowS notU 24 1 B j d (fl fH os), partsF 39 m os] [pfRow fN FN 2 A n c es, pfEs FH os] ∧ j ≤ k ∧ n = n0 - j * m ∧ es.map zz = xs.drop (j * m) ∧ os.map lz = (List.range j).map (partL xs m)) _ ⟨0, A0, n0, c0, es0, none, 0, [], rfl, henv.sub ⟨rfl, rfl, rfl, rfl, rfl, rfl, trivial⟩, hst.pick [1, 0] [1, 0] (by decide), (Nat.zero_le _), (by omega), (by rw [Nat.zero_mul]; exact hz0), rfl⟩ ?_
  clear henv hst a
  rintro mz a w51 ⟨j, A, n, c, es, B, d, os, rfl, henv, hst, hj, hn, hz, ho⟩
  refine wp_seq ?_
  refine region_seq ?_
  refine sv (v := .bool (decide (((j : Nat) : Int) < ((k : Nat) : Int)))) henv rfl (rn_bin henv rfl rfl rfl) ?_
  clear henv a; intro a henv
  refine wpList_nil ?_
  refine th_n ?_
  refine wp_seq ?_
  refine if_split henv rfl (fun hc52 => ?_) (fun hc52 => ?_)
  · have hlt : j < k := by have := of_decide_eq_true hc52; omega
    have hel := (hst.pat (k := 0) rfl).2.1
    refine wp_skip ?_
    refine th_n ?_
    refine wp_seq ?_
    refine wp_block ?_
    refine wp_seq ?_
    refine region_seq ?_
    refine sv (v := .int .i64 (m : Nat)) henv rfl (rn_move henv rfl) ?_
    clear henv a; intro a henv
    refine seq_step rfl (op_makeS (f := fN) (e0 := (none, 0, 0)) (q := notU) (n := m) henv hst rfl Tryd.underlying24 inf_anvil_integer_Int rfl rfl fN_zero rfl rfl rfl (by omega) (by unfold maxLen; omega) ?_)
    clear henv hst a; intro a w54 g53 henv hst
    replace hst := hst.addNs (es_zeros m _) ⟨nou_rowS, nou_rowS, nou_parts, trivial⟩
    refine sv (v := .slice (some ⟨g53, 0, none⟩) m m) henv rfl (rn_assign henv rfl) ?_
    clear henv a; intro a henv
    refine wpList_nil ?_
    refine th_n ?_
    refine wp_seq ?_
    refine region_seq ?_
    revert a
    refine mA rfl rfl ?_
    refine mA rfl rfl ?_
    intro a henv
    refine seq_step rfl (op_copyS (f := fN) (es := (List.replicate m (none, 0, 0))) (es2 := es) (k := 0) henv hst rfl Tryd.underlying24 (ty_anvil_integer_Int.size) rfl rfl rfl (hst.pat (k := 1) rfl).1 fN_len List.length_replicate (hst.pat (k := 1) rfl).2.1 (fun _ => rfl) fN_one ?_)
    clear henv hst a; intro a w55 henv hst
    replace hst := ((hst.rowEs (i := 1) rfl).appEs (i := 0) (j := 1) rfl rfl).subEs (es' := (es.take m ++ (List.replicate m (none, 0, 0)).drop n)) (i := 0) rfl take_drop_mem
    replace hst := hst.pick [0, 1, 2] [0, 3, 4, 5] (by decide)
    replace hst : St w0 _ [rowS notU 39 2 (some ⟨g53, 0, none⟩) m m (fl fN (es.take m ++ (List.replicate m (none, 0, 0)).drop n)), rowS notU 24 1 B j d (fl fH os), partsF 39 m os] [pfEs FN (es.take m ++ (List.replicate m (none, 0, 0)).drop n), pfEs FN (List.replicate m (none, 0, 0)), pfRow fN FN 2 A n c es, pfEs FH os] := hst
    refine sv (v := .int .i64 (min n m : Nat)) henv rfl (rn_assign henv rfl) ?_
    clear henv a; intro a henv
    refine wpList_nil ?_
    refine th_n ?_
    refine wp_seq ?_
    refine region_seq ?_
    revert a
    refine mA rfl rfl ?_
    refine mA rfl rfl ?_
    refine sA (v := .slice (slA A c (min n m) 2) (n - min n m) (c - min n m)) rfl (fun _ henv => rn_sliceFromS (m := min n m) (z := 2) henv Tryd.underlying24 (ty_anvil_integer_Int.size) rfl rfl (by omega)) ?_
    refine aA rfl rfl ?_
    intro a henv
    refine wpList_nil ?_
    replace hst := hst.rowFrom (i := 2) rfl (min n m) fN_len (by omega)
    replace hst : St w0 _ [rowS notU 39 2 (some ⟨g53, 0, none⟩) m m (fl fN (es.take m ++ (List.replicate m (none, 0, 0)).drop n)), rowS notU 24 1 B j d (fl fH os), partsF 39 m os] [pfRow fN FN 2 (slA A c (min n m) 2) (n - min n m) (c - min n m) (es.drop (min n m)), pfEs FN (es.take m ++ (List.replicate m (none, 0, 0)).drop n), pfEs FN (List.replicate m (none, 0, 0)), pfRow fN FN 2 A n c es, pfEs FH os] := hst
    refine th_n ?_
    refine region_seq ?_
    revert a
    refine mA rfl rfl ?_
    refine mA rfl rfl ?_
    intro a henv
    refine seq_step rfl (op_buildSlice (z := 1) (pv := #[(0, .slice (some ⟨g53, 0, none⟩) m m)]) (c := #[.slice (some ⟨g53, 0, none⟩) m m]) henv hst rfl Tryd.underlying26 (ty__integer_Int.size) zero__integer_Int (by decide) (by decide) rfl (by kernel_rfl) ?_)
    clear henv hst a; intro a w57 g56 henv hst
    refine seq_step rfl (op_appendS (k := 2) (j := 0) henv hst rfl Tryd.underlying26 inf__integer_Int rfl rfl rfl rfl rfl rfl rfl rfl rfl rfl rfl (by unfold maxLen; omega) (by omega) ?_)
    clear henv hst a; intro a w60 g58 c59 henv hst
    rw [show fl fH os ++ (#[.slice (some ⟨g53, 0, none⟩) m m] : Array Value).toList = fl fH (os ++ [((some ⟨g53, 0, none⟩ : Option Addr), m, m, (es.take m ++ (List.replicate m (none, 0, 0)).drop n))]) from fl_snoc (f := fH) os ((some ⟨g53, 0, none⟩ : Option Addr), m, m, (es.take m ++ (List.replicate m (none, 0, 0)).drop n))] at hst
    replace hst := hst.snocEs (e := ((some ⟨g53, 0, none⟩ : Option Addr), m, m, (es.take m ++ (List.replicate m (none, 0, 0)).drop n))) (i := 4) (j := 1) rfl rfl
    refine sv (v := .slice (some ⟨g58, 0, none⟩) (j + 1) c59) henv rfl (rn_assign henv rfl) ?_
    clear henv a; intro a henv
    refine wpList_nil ?_
    replace hst := (hst.pick [1, 3, 0, 2] [0, 1, 2, 3, 4, 5] (by decide)).merge (part_len hel)
    replace hst : St w0 _ [partsF 39 m (os ++ [((some ⟨g53, 0, none⟩), m, m, (es.take m ++ (List.replicate m (none, 0, 0)).drop n))]), bk g56 #[.slice (some ⟨g53, 0, none⟩) m m] 24, rowS notU 24 1 (some ⟨g58, 0, none⟩) (j + 1) c59 (fl fH (os ++ [((some ⟨g53, 0, none⟩ : Option Addr), m, m, (es.take m ++ (List.replicate m (none, 0, 0)).drop n))]))] [pfEs FH (os ++ [((some ⟨g53, 0, none⟩ : Option Addr), m, m, (es.take m ++ (List.replicate m (none, 0, 0)).drop n))]), pfRow fN FN 2 (slA A c (min n m) 2) (n - min n m) (c - min n m) (es.drop (min n m)), pfEs FN (es.take m ++ (List.replicate m (none, 0, 0)).drop n), pfEs FN (List.replicate m (none, 0, 0)), pfRow fN FN 2 A n c es, pfEs FH os] := hst
    refine bl_n (th_n ?_)
    refine region_seq ?_
    revert a
    refine sA (v := .int .i64 (j + 1 : Nat)) rfl (fun _ henv => rn_add henv rfl rfl (by rw [IntWalk.i64_in _ (by omega)]; omega)) ?_
    refine mA rfl rfl ?_
    intro a henv
    refine wpList_nil ?_
    exact th_n ⟨_, (by omega), ⟨j + 1, (slA A c (min n m) 2), (n - min n m), (c - min n m), (es.drop (min n m)), (some ⟨g58, 0, none⟩), c59, (os ++ [((some ⟨g53, 0, none⟩ : Option Addr), m, m, (es.take m ++ (List.replicate m (none, 0, 0)).drop n))]), rfl, henv.sub ⟨rfl, rfl, rfl, rfl, rfl, rfl, trivial⟩, hst.pick [2, 0] [1, 0] (by decide), (by omega), (by rw [Nat.succ_mul]; omega), (part_rest hz hel), (part_step ho (part_one hz hel))⟩⟩
  · obtain rfl : j = k := by have := of_decide_eq_false hc52; omega
    refine wp_exit ?_
    refine th_x (th_x (bl_x (th_n ?_)))
    refine wp_seq ?_
    refine region_seq ?_
    revert a
    refine mA rfl rfl ?_
    refine aA rfl rfl ?_
    refine aA rfl rfl ?_
    intro a henv
    refine wpList_nil ?_
    refine th_n ?_
    refine wp_ret ?_
    refine leave henv (res2 Tryd.results12 (RV.tmp henv rfl) (RV.tmp henv rfl)) ?_
    exact ⟨_, _, _, rfl, ⟨hst.owns (k := 0) rfl, hst.owns (k := 1) rfl, hst.pat (k := 1) rfl, (by have := congrArg List.length ho; simpa using this), fun b hb => hst.new _ (List.mem_of_getElem? (i := 0) rfl) b hb, fun b hb => hst.new _ (List.mem_of_getElem? (i := 1) rfl) b hb, fun b h1 h2 => hst.one (k := 0) (j := 1) rfl rfl (by decide) b h1 h2⟩, ho, hst.below⟩
end Go.Proofs.YtoojllfijfjmoaaDoor.W

/- SplitJoins: the law's walk. Printed by pv/gen_sp10.py. No condition. -/
namespace Go.Proofs.YtoojllfijfjmoaaDoor.W
open Go.RowKit Anv Go.Lib
abbrev TE := Option Addr × Nat × Nat × List Int
def fT (v : TE) : List Value := [.slice v.1 v.2.1 v.2.2.1]
def FT (v : TE) : PF := pfRow fI FI 1 v.1 v.2.1 v.2.2.1 v.2.2.2
def lt (v : TE) : List Int := v.2.2.2
def totN (es : List TE) : Nat → Nat
  | 0 => 0
  | j + 1 => totN es j + (es.getD j (none, 0, 0, [])).2.1
theorem i64_zl {z : Int} (h : -9223372036854775808 ≤ z ∧ z ≤ 9223372036854775807) : zl z ≤ 2 := nl_le_of_lt (by show z.natAbs < _; omega)
end Go.Proofs.YtoojllfijfjmoaaDoor.W

/- SplitLaid. Printed by pv/gen_sl.py. No condition. -/
namespace Go.Proofs.YtoojllfijfjmoaaDoor.W
open Go.RowKit Anv Go.Lib
theorem lrow_at {ps : List LE} {L : List (List Int)} {p n c : Nat} {A : Option Addr} {es : List NE} (ho : ps.map lz = L) (he : ps[p]? = some (A, n, c, es)) : es.map zz = L.getD p [] := by
  rw [← ho, List.getD_eq_getElem?_getD, List.getElem?_map, he]; rfl
theorem i64_zk {es : List Int} (h : I64 es) : Zk 2 es := fun z hz => i64_zl (h z hz)
end Go.Proofs.YtoojllfijfjmoaaDoor.W
