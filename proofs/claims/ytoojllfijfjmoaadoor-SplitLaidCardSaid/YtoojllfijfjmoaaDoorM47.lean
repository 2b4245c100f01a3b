/- strings.Join at a blank; row.Text. Printed by pv/gen_rtx2.py. No condition. -/
import Derived.Test.YtoojllfijfjmoaaDoorM45
import Derived.Test.YtoojllfijfjmoaaDoorM15
import Derived.Test.YtoojllfijfjmoaaDoorM46
import Derived.Test.YtoojllfijfjmoaaDoorM31
import Derived.Test.YtoojllfijfjmoaaDoorM6
import Derived.Test.YtoojllfijfjmoaaDoorM44
import Derived.Test.YtoojllfijfjmoaaDoorM36
import Derived.Test.YtoojllfijfjmoaaDoorM41

namespace Go.Proofs.YtoojllfijfjmoaaDoor.W
open Go.RowKit Anv Go.Lib
def jt (s : List UInt8) (r : List (List UInt8)) (k : Nat) : List UInt8 := s ++ (r.take k).flatMap fun t => 32 :: t
def textRow (zs : List Int) : List UInt8 := 91 :: (jn (zs.map textZ) ++ [93])
end Go.Proofs.YtoojllfijfjmoaaDoor.W

/- row.Zero, Unit, IsZero; the laws' live; RowMakes. Printed by pv/gen_row2.py. No condition. -/
namespace Go.Proofs.YtoojllfijfjmoaaDoor.W
open Go.RowKit Anv Go.Lib
theorem fN_zero : fN (none, 0, 0) = (Value.agg #[.bool false, .slice none 0 0]).cells.toList := by
  show [Value.bool (neg 0), Value.slice none (zl 0) 0] = _
  rw [neg_zero, zl_zero]; rfl
theorem es_zeros (n : Nat) (w : World) : (pfEs FN (List.replicate n (none, 0, 0))).P w := fun e he => by
  rw [List.eq_of_mem_replicate he]
  exact zin_none w
def allz (es : List NE) : Bool := es.all fun e => decide (zz e = 0)
end Go.Proofs.YtoojllfijfjmoaaDoor.W

/- RowMakes: the law's walk. Printed by pv/gen_row3.py. No condition. -/
namespace Go.Proofs.YtoojllfijfjmoaaDoor.W
open Go.RowKit Anv Go.Lib
end Go.Proofs.YtoojllfijfjmoaaDoor.W

/- Plain laws of the texts of rows: what a text is read as, or where it goes wrong. No program. No condition. -/
namespace Go.Proofs.YtoojllfijfjmoaaDoor.W
open Anv
def stp (c : UInt8) : Prop := c.toNat = 32 ∨ c.toNat = 93
def ndg (c : UInt8) : Prop := c.toNat = 45 ∨ (48 ≤ c.toNat ∧ c.toNat ≤ 57)
def Rz (t : List UInt8) (z : Int) : Prop := (∃ d, t = 45 :: d ∧ Ok 1 d ∧ z = sg true (numOf d)) ∨ ((t.getD 0 0).toNat ≠ 45 ∧ Ok 0 t ∧ z = sg false (numOf t))
def Rb (t : List UInt8) (b : Nat) : Prop := (∃ d b', t = 45 :: d ∧ Fb 1 d b' ∧ b = b' + 1) ∨ ((t.getD 0 0).toNat ≠ 45 ∧ Fb 0 t b)
theorem head45 {t d : List UInt8} (h : t = 45 :: d) (k : (t.getD 0 0).toNat ≠ 45) : False := k (by rw [h]; rfl)
theorem rz_eq {t : List UInt8} {z y : Int} (h : Rz t z) (k : Rz t y) : z = y := by
  rcases h with ⟨d, h1, _, h3⟩ | ⟨h1, _, h3⟩ <;> rcases k with ⟨e, k1, _, k3⟩ | ⟨k1, _, k3⟩
  · rw [h1] at k1; cases k1; rw [h3, k3]
  · exact (head45 h1 k1).elim
  · exact (head45 k1 h1).elim
  · rw [h3, k3]
def cutw (s : List UInt8) (p q : Nat) : List UInt8 := (s.drop p).take (q - p)
def Seg (s : List UInt8) (p q : Nat) : Prop := p ≤ q ∧ q ≤ s.length ∧ (∀ i, p ≤ i → i < q → ¬ stp (s.getD i 0)) ∧ (q < s.length → stp (s.getD q 0))
def Sen (s : List UInt8) (p q : Nat) : Prop := p ≤ q ∧ q ≤ s.length ∧ (∀ i, p ≤ i → i < q → ndg (s.getD i 0)) ∧ (q < s.length → ¬ ndg (s.getD q 0))
inductive Go (s : List UInt8) : Nat → List Int → List Int ⊕ Nat → Prop
  | bad {p q b : Nat} {zs : List Int} (h : Seg s p q) (hb : Rb (cutw s p q) b) : Go s p zs (.inr (p + b))
  | fin {p : Nat} {zs : List Int} {z : Int} (h : Seg s p s.length) (hz : Rz (cutw s p s.length) z) : Go s p zs (.inr s.length)
  | more {p q : Nat} {zs : List Int} {z : Int} (h : Seg s p q) (hz : Rz (cutw s p q) z) (hc : (s.getD q 0).toNat = 93) (hq : q + 1 < s.length) : Go s p zs (.inr (q + 1))
  | done {p q : Nat} {zs : List Int} {z : Int} (h : Seg s p q) (hz : Rz (cutw s p q) z) (hc : (s.getD q 0).toNat = 93) (hq : q + 1 = s.length) : Go s p zs (.inl (zs ++ [z]))
  | next {p q : Nat} {zs : List Int} {z : Int} {r : List Int ⊕ Nat} (h : Seg s p q) (hz : Rz (cutw s p q) z) (hq : q < s.length) (hc : (s.getD q 0).toNat = 32) (hr : Go s (q + 1) (zs ++ [z]) r) : Go s p zs r
inductive Rd0 (s : List UInt8) : List Int ⊕ Nat → Prop
  | no (h : s = [] ∨ (s.getD 0 0).toNat ≠ 91) : Rd0 s (.inr 0)
  | void (h : (s.getD 0 0).toNat = 91) (h1 : (s.getD 1 0).toNat = 93) (h2 : s.length = 2) : Rd0 s (.inl [])
  | tail (h : (s.getD 0 0).toNat = 91) (h1 : (s.getD 1 0).toNat = 93) (h2 : 2 < s.length) : Rd0 s (.inr 2)
  | go (h : (s.getD 0 0).toNat = 91) (h0 : s ≠ []) (h1 : ¬ (1 < s.length ∧ (s.getD 1 0).toNat = 93)) {r : List Int ⊕ Nat} (hr : Go s 1 [] r) : Rd0 s r
end Go.Proofs.YtoojllfijfjmoaaDoor.W

/- Texts of rows: told and read back; the readers of words, by what the plain laws say of a word. No condition. -/
namespace Go.Proofs.YtoojllfijfjmoaaDoor.W
open Go.RowKit Anv Go.Lib
theorem rz_text (z : Int) : Rz (textZ z) z := by
  rcases textZ_cases z with ⟨_, h0, ht, hs⟩ | ⟨_, ht, hs⟩
  · exact .inl ⟨_, ht, ok_textN _ 1 fun _ => h0, by rw [numOf_textN, hs]⟩
  · have h2 := ok_textN z.natAbs 0 (fun e => by cases e)
    have h3 := ok_first h2
    refine .inr ⟨by rw [ht]; omega, by rw [ht]; exact h2, by rw [ht, numOf_textN, hs]⟩
end Go.Proofs.YtoojllfijfjmoaaDoor.W

/- Pairs of ints, the greater and the less of two; block lengths, levels: plain. No condition. -/
namespace Go.Proofs.YtoojllfijfjmoaaDoor.W
open Go.RowKit Anv Go.Lib
theorem bool_em (b : Bool) : b = true ∨ b = false := by cases b <;> simp
def ar2 (a b : Int) (j : Nat) : Int := if j = 0 then a else b
section
variable {N : Nat} {dq : List Deferred} {a : Act} {l : List (Nat × Value)} {w : World} {d : Nat} {ty : TypeId} {pos : String} {af : Array Edge} {gd : Option (Nat × Bool)}
theorem rn_arr2 {P : Program} {T E : TypeId} {x y : Operand} {m n : Int} (h : EnvD dq N a l) (hT : P.underlying T = some (.array 2 E)) (hE : ∃ i, P.info? E = some i ∧ i.size = 1) (hz : ∃ i, P.info? T = some i ∧ i.zero = some (.agg #[.int .i64 0, .int .i64 0])) (hx : evl l x = some (.int .i64 m)) (hy : evl l y = some (.int .i64 n)) :
    (execOp a.eval ⟨some d, .build T #[(0, x), (1, y)], ty, pos, af, gd⟩).run P w = .ok (.value (.agg #[.int .i64 m, .int .i64 n])) w := by
  have hzv : (zeroValue T).run P w = .ok (.agg #[.int .i64 0, .int .i64 0]) w := by obtain ⟨i, hi, hv⟩ := hz; simp [zeroValue, typeInfo, hi, hv]
  simp [execOp, h.ev hx, h.ev hy, Instr.build, hzv, run_underlying hT, Sem.run_bind, run_sizeOf hE, Instr.fill, Value.cells]
theorem rn_idxAr2 {P : Program} {T E : TypeId} {x y : Operand} {m n : Int} {j : Nat} (h : EnvD dq N a l) (hT : P.underlying T = some (.array 2 E)) (hE : TOne P E) (hx : evl l x = some (.agg #[.int .i64 m, .int .i64 n])) (hy : evl l y = some (.int .i64 (j : Nat))) (hj : j < 2) :
    (execOp a.eval ⟨some d, .index T x y, ty, pos, af, gd⟩).run P w = .ok (.value (.int .i64 (ar2 m n j))) w := by
  have hs := run_sizeOf (P := P) (w := w) hE.size
  rcases (show j = 0 ∨ j = 1 by omega) with rfl | rfl
  · simp [execOp, h.ev hx, h.ev hy, Instr.index, asIntOf, run_underlying hT, Sem.run_bind, part, hE.agg, hs, ar2]
  · simp [execOp, h.ev hx, h.ev hy, Instr.index, asIntOf, run_underlying hT, Sem.run_bind, part, hE.agg, hs, ar2]
theorem rn_maxI {P : Program} {x y : Operand} {T T' : Nat} {m n : Int} (h : EnvD dq N a l) (hx : evl l x = some (.int .i64 m)) (hy : evl l y = some (.int .i64 n)) :
    (execOp a.eval ⟨some d, .call ⟨.builtin .max, #[x, y], #[T, T']⟩, ty, pos, af, gd⟩).run P w = .ok (.value (.int .i64 (max m n))) w := by
  have hv := h.ev hx
  have hv' := h.ev hy
  have e : (max m n : Int) = if m < n then n else m := by split <;> omega
  rw [e]
  generalize a.eval = ρ at hv hv' ⊢
  simp [hv, hv', go_sem]
  split <;> omega
theorem rn_maxN {P : Program} {x y : Operand} {T T' : Nat} {m n : Nat} (h : EnvD dq N a l) (hx : evl l x = some (.int .i64 (m : Nat))) (hy : evl l y = some (.int .i64 (n : Nat))) :
    (execOp a.eval ⟨some d, .call ⟨.builtin .max, #[x, y], #[T, T']⟩, ty, pos, af, gd⟩).run P w = .ok (.value (.int .i64 (max m n : Nat))) w := by
  have h1 := rn_maxI (P := P) (d := d) (ty := ty) (pos := pos) (af := af) (gd := gd) (w := w) (T := T) (T' := T') h hx hy
  rwa [show (max (m : Int) (n : Int)) = ((max m n : Nat) : Int) by omega] at h1
end
def RP (n1 n2 k1 k2 : Int) : Prop := 0 ≤ n1 ∧ n1 ≤ 4096 ∧ 0 ≤ n2 ∧ n2 ≤ 4096 ∧ 1 ≤ k1 ∧ k1 ≤ 8 ∧ 1 ≤ k2 ∧ k2 ≤ 8
instance (n1 n2 k1 k2 : Int) : Decidable (RP n1 n2 k1 k2) := by unfold RP; infer_instance
def upN (n k : Nat) : Nat := (n + k - 1) / k
def blkN (n1 n2 k1 k2 : Nat) : Nat := max (upN n1 k1) (upN n2 k2)
theorem upN_le {n k : Nat} (hk : 1 ≤ k) : upN n k ≤ n := by
  unfold upN
  rcases Nat.eq_zero_or_pos n with rfl | hn
  · rw [Nat.div_eq_of_lt (by omega)]; omega
  · refine Nat.div_le_of_le_mul ?_
    have h1 : n + k ≤ k * n + 1 := by
      obtain ⟨m, rfl⟩ : ∃ m, k = m + 1 := ⟨k - 1, by omega⟩
      have : m ≤ m * n := Nat.le_mul_of_pos_right m hn
      rw [Nat.succ_mul]; omega
    omega
theorem upN_ge {n k : Nat} (hk : 1 ≤ k) : n ≤ k * upN n k := by
  unfold upN
  have h1 := Nat.div_add_mod (n + k - 1) k
  have h2 := Nat.mod_lt (n + k - 1) hk
  omega
theorem upN_zero {k : Nat} (hk : 1 ≤ k) : upN 0 k = 0 := Nat.div_eq_of_lt (by omega)
def EP (n1 n2 k1 k2 : Nat) (t : Int) : Prop := max t 1 < (min n1 n2 : Nat) ∧ blkN n1 n2 k1 k2 < max n1 n2
instance (n1 n2 k1 k2 : Nat) (t : Int) : Decidable (EP n1 n2 k1 k2 t) := by unfold EP; infer_instance
def depF (k1 k2 : Nat) (t : Int) : Nat → Nat → Nat → Nat
  | 0, _, _ => 0
  | f + 1, n1, n2 => if EP n1 n2 k1 k2 t then depF k1 k2 t f (blkN n1 n2 k1 k2) (blkN n1 n2 k1 k2) + 1 else 0
theorem rp_at {n1 n2 k1 k2 : Int} (h : RP n1 n2 k1 k2) (j : Nat) : (0 ≤ ar2 n1 n2 j ∧ ar2 n1 n2 j ≤ 4096) ∧ (1 ≤ ar2 k1 k2 j ∧ ar2 k1 k2 j ≤ 8) := by
  unfold RP at h
  unfold ar2
  split <;> omega
theorem rp_of {n1 n2 k1 k2 : Int} (h : ∀ i, i < 2 → 0 ≤ ar2 n1 n2 i ∧ ar2 n1 n2 i ≤ 4096) (k : ∀ i, i < 2 → 1 ≤ ar2 k1 k2 i ∧ ar2 k1 k2 i ≤ 8) : RP n1 n2 k1 k2 := by
  have h0 := h 0 (by decide)
  have h1 := h 1 (by decide)
  have g0 := k 0 (by decide)
  have g1 := k 1 (by decide)
  simp [ar2] at h0 h1 g0 g1
  unfold RP
  omega
theorem ar_step {C : Nat → Prop} {j : Nat} (h : ∀ i, i < j → C i) (hj : C j) : ∀ i, i < j + 1 → C i := fun i hi => by
  rcases Nat.lt_or_ge i j with h1 | h1
  · exact h i h1
  · obtain rfl : i = j := by omega
    exact hj
theorem mul_le8 {k m : Nat} (hk : k ≤ 8) (hm : m ≤ 4096) : k * m ≤ 32768 := Nat.mul_le_mul hk hm
theorem blk_ge {n1 n2 k1 k2 : Nat} (g1 : 1 ≤ k1) (g2 : 1 ≤ k2) : n1 ≤ k1 * blkN n1 n2 k1 k2 ∧ n2 ≤ k2 * blkN n1 n2 k1 k2 :=
  ⟨Nat.le_trans (upN_ge g1) (Nat.mul_le_mul_left _ (Nat.le_max_left ..)), Nat.le_trans (upN_ge g2) (Nat.mul_le_mul_left _ (Nat.le_max_right ..))⟩
end Go.Proofs.YtoojllfijfjmoaaDoor.W

/- Package split: block lengths, levels; the reference's. Printed by pv/gen_sp1.py. No condition. -/
namespace Go.Proofs.YtoojllfijfjmoaaDoor.W
open Go.RowKit Anv Go.Lib
set_option maxRecDepth 100000 in
set_option maxHeartbeats 2000000 in
theorem sp_up {n k : Nat} {w0 : World} (hn : n ≤ 4096) (hk : 1 ≤ k) (hk8 : k ≤ 8) :
    Calls Tryd.prog 41 #[.int .i64 (n : Nat), .int .i64 (k : Nat)] w0 fun e w' => e = .returned (.int .i64 (upN n k : Nat)) ∧ Below w0.heap.size w0 w' := by
  refine enter Tryd.func41 rfl Tryd.ntmps41 rfl ?_
  intro a henv hst
  refine wp_seq ?_
  refine region_seq ?_
  refine sv (v := .int .i64 0) henv rfl (rn_assign henv rfl) ?_
  clear henv a; intro a henv
  refine wpList_nil ?_
  refine th_n ?_
  refine wp_seq ?_
  refine region_seq ?_
  revert a
  refine mA rfl rfl ?_
  refine mA rfl rfl ?_
  refine sA (v := .int .i64 (n + k : Nat)) rfl (fun _ henv => rn_add henv rfl rfl (by rw [IntWalk.i64_in _ (by omega)]; omega)) ?_
  refine sA (v := .int .i64 ((n + k) - 1 : Nat)) rfl (fun _ henv => rn_sub henv rfl rfl (by rw [IntWalk.i64_in _ (by omega)]; omega)) ?_
  refine mA rfl rfl ?_
  refine sA (v := .int .i64 (((n + k) - 1) / k : Nat)) rfl (fun _ henv => rn_quo henv rfl rfl (by omega) (quo_i64 (t := (n + k) - 1) (c := k) (by omega))) ?_
  refine aA rfl rfl ?_
  intro a henv
  refine wpList_nil ?_
  refine th_n ?_
  refine wp_ret ?_
  refine leave henv (res1 Tryd.results41 (RV.tmp henv rfl)) ?_
  exact ⟨rfl, hst.below⟩
set_option maxRecDepth 100000 in
set_option maxHeartbeats 2000000 in
theorem sp_right {n1 n2 k1 k2 : Int} {w0 : World} :
    Calls Tryd.prog 40 #[.int .i64 n1, .int .i64 n2, .int .i64 k1, .int .i64 k2] w0 fun e w' => e = .returned (.bool (decide (RP n1 n2 k1 k2))) ∧ Below w0.heap.size w0 w' := by
  refine enter Tryd.func40 rfl Tryd.ntmps40 rfl ?_
  intro a henv hst
  refine wp_seq ?_
  refine region_seq ?_
  refine sv (v := .bool false) henv rfl (rn_assign henv rfl) ?_
  clear henv a; intro a henv
  refine wpList_nil ?_
  refine th_n ?_
  refine wp_seq ?_
  refine wp_seq ?_
  refine region_seq ?_
  revert a
  refine mA rfl rfl ?_
  refine mA rfl rfl ?_
  refine sA (v := .agg #[.int .i64 n1, .int .i64 n2]) rfl (fun _ henv => rn_arr2 henv Tryd.underlying101 (ty_int.size) zero__2_int rfl rfl) ?_
  refine mA rfl rfl ?_
  intro a henv
  refine wpList_nil ?_
  refine th_n ?_
  refine wp_block ?_
  refine wp_loop_ghost (fun mz a w => ∃ j : Nat, 2 - j = mz ∧ Env 39 a [(2, .int .i64 k1), (3, .int .i64 k2), (15, .agg #[.int .i64 n1, .int .i64 n2]), (16, .int .i64 (j : Nat))] ∧ St w0 w [] [] ∧ j ≤ 2 ∧ ∀ i, i < j → 0 ≤ ar2 n1 n2 i ∧ ar2 n1 n2 i ≤ 4096) _ ⟨0, rfl, henv.sub ⟨rfl, rfl, rfl, rfl, trivial⟩, hst.pick [] [] (by decide), (by decide), (fun i hi => absurd hi (Nat.not_lt_zero _))⟩ ?_
  clear henv hst a
  rintro mz a w51 ⟨j, rfl, henv, hst, hj, hqn1⟩
  refine wp_seq ?_
  refine region_seq ?_
  refine sv (v := .bool (decide (((j : Nat) : Int) < (2 : Int)))) henv rfl (rn_bin henv rfl rfl rfl) ?_
  clear henv a; intro a henv
  refine wpList_nil ?_
  refine th_n ?_
  refine wp_seq ?_
  refine if_split henv rfl (fun hc52 => ?_) (fun hc52 => ?_)
  · have hx53 := of_decide_eq_true hc52
    have hlt : j < 2 := by omega
    refine wp_skip ?_
    refine th_n ?_
    refine wp_seq ?_
    refine wp_block ?_
    refine wp_seq ?_
    refine region_seq ?_
    revert a
    refine sA (v := .int .i64 (ar2 n1 n2 j)) rfl (fun _ henv => rn_idxAr2 (m := n1) (n := n2) (j := j) henv Tryd.underlying101 ty_int rfl rfl (by omega)) ?_
    refine aA rfl rfl ?_
    intro a henv
    refine wpList_nil ?_
    refine th_n ?_
    refine wp_seq ?_
    refine region_seq ?_
    revert a
    refine mA rfl rfl ?_
    refine sA (v := .bool (decide ((ar2 n1 n2 j) < (0 : Int)))) rfl (fun _ henv => rn_bin henv rfl rfl rfl) ?_
    refine mA rfl rfl ?_
    intro a henv
    rcases bool_em (decide ((ar2 n1 n2 j) < (0 : Int))) with hg54 | hg54
    · rw [hg54] at henv
      have hx55 := of_decide_eq_true hg54
      revert a
      refine kA rfl rfl rfl rfl rfl ?_
      refine kA rfl rfl rfl rfl rfl ?_
      refine sA (v := .bool true) rfl (fun _ henv => rn_pick henv rfl rfl) ?_
      intro a henv
      refine wpList_nil ?_
      refine th_n ?_
      refine if_t henv rfl (rfl) ?_
      refine wp_seq ?_
      refine region_seq ?_
      refine sv (v := .bool false) henv rfl (rn_assign henv rfl) ?_
      clear henv a; intro a henv
      refine wpList_nil ?_
      refine th_n ?_
      refine wp_ret ?_
      refine bl_r (th_r (th_r (bl_r (th_r ?_))))
      refine leave henv (res1 Tryd.results40 (RV.tmp henv rfl)) ?_
      exact ⟨by rw [decide_eq_false fun h => by have := rp_at h j; omega], hst.below⟩
    · rw [hg54] at henv
      have hx56 := of_decide_eq_false hg54
      revert a
      refine gA (v := .int .i64 (ar2 n1 n2 j)) rfl rfl rfl rfl (fun _ henv => rn_move henv rfl) ?_
      refine gA (v := .bool (decide ((ar2 n1 n2 j) > (4096 : Int)))) rfl rfl rfl rfl (fun _ henv => rn_bin henv rfl rfl rfl) ?_
      refine sA (v := .bool (decide ((ar2 n1 n2 j) > (4096 : Int)))) rfl (fun _ henv => rn_pick henv rfl rfl) ?_
      intro a henv
      refine wpList_nil ?_
      refine th_n ?_
      refine if_split henv rfl (fun hc57 => ?_) (fun hc57 => ?_)
      · have hx58 := of_decide_eq_true hc57
        refine wp_seq ?_
        refine region_seq ?_
        refine sv (v := .bool false) henv rfl (rn_assign henv rfl) ?_
        clear henv a; intro a henv
        refine wpList_nil ?_
        refine th_n ?_
        refine wp_ret ?_
        refine bl_r (th_r (th_r (bl_r (th_r ?_))))
        refine leave henv (res1 Tryd.results40 (RV.tmp henv rfl)) ?_
        exact ⟨by rw [decide_eq_false fun h => by have := rp_at h j; omega], hst.below⟩
      · have hx59 := of_decide_eq_false hc57
        refine wp_skip ?_
        refine bl_n (th_n ?_)
        refine region_seq ?_
        revert a
        refine sA (v := .int .i64 (j + 1 : Nat)) rfl (fun _ henv => rn_add henv rfl rfl (by rw [IntWalk.i64_in _ (by omega)]; omega)) ?_
        refine mA rfl rfl ?_
        intro a henv
        refine wpList_nil ?_
        exact th_n ⟨_, (by omega), ⟨j + 1, rfl, henv.sub ⟨rfl, rfl, rfl, rfl, trivial⟩, hst.pick [] [] (by decide), (by omega), (ar_step hqn1 (by omega))⟩⟩
  · have hx60 := of_decide_eq_false hc52
    obtain rfl : j = 2 := by omega
    refine wp_exit ?_
    refine th_x (th_x (bl_x (th_n ?_)))
    refine wp_seq ?_
    refine wp_seq ?_
    refine region_seq ?_
    revert a
    refine mA rfl rfl ?_
    refine mA rfl rfl ?_
    refine sA (v := .agg #[.int .i64 k1, .int .i64 k2]) rfl (fun _ henv => rn_arr2 henv Tryd.underlying101 (ty_int.size) zero__2_int rfl rfl) ?_
    refine mA rfl rfl ?_
    intro a henv
    refine wpList_nil ?_
    refine th_n ?_
    refine wp_block ?_
    refine wp_loop_ghost (fun mz a w => ∃ j : Nat, 2 - j = mz ∧ Env 39 a [(28, .agg #[.int .i64 k1, .int .i64 k2]), (29, .int .i64 (j : Nat))] ∧ St w0 w [] [] ∧ j ≤ 2 ∧ ∀ i, i < j → 1 ≤ ar2 k1 k2 i ∧ ar2 k1 k2 i ≤ 8) _ ⟨0, rfl, henv.sub ⟨rfl, rfl, trivial⟩, hst.pick [] [] (by decide), (by decide), (fun i hi => absurd hi (Nat.not_lt_zero _))⟩ ?_
    clear henv hst a
    rintro mz a w61 ⟨j, rfl, henv, hst, hj, hqk1⟩
    refine wp_seq ?_
    refine region_seq ?_
    refine sv (v := .bool (decide (((j : Nat) : Int) < (2 : Int)))) henv rfl (rn_bin henv rfl rfl rfl) ?_
    clear henv a; intro a henv
    refine wpList_nil ?_
    refine th_n ?_
    refine wp_seq ?_
    refine if_split henv rfl (fun hc62 => ?_) (fun hc62 => ?_)
    · have hx63 := of_decide_eq_true hc62
      have hlt : j < 2 := by omega
      refine wp_skip ?_
      refine th_n ?_
      refine wp_seq ?_
      refine wp_block ?_
      refine wp_seq ?_
      refine region_seq ?_
      revert a
      refine sA (v := .int .i64 (ar2 k1 k2 j)) rfl (fun _ henv => rn_idxAr2 (m := k1) (n := k2) (j := j) henv Tryd.underlying101 ty_int rfl rfl (by omega)) ?_
      refine aA rfl rfl ?_
      intro a henv
      refine wpList_nil ?_
      refine th_n ?_
      refine wp_seq ?_
      refine region_seq ?_
      revert a
      refine mA rfl rfl ?_
      refine sA (v := .bool (decide ((ar2 k1 k2 j) < (1 : Int)))) rfl (fun _ henv => rn_bin henv rfl rfl rfl) ?_
      refine mA rfl rfl ?_
      intro a henv
      rcases bool_em (decide ((ar2 k1 k2 j) < (1 : Int))) with hg64 | hg64
      · rw [hg64] at henv
        have hx65 := of_decide_eq_true hg64
        revert a
        refine kA rfl rfl rfl rfl rfl ?_
        refine kA rfl rfl rfl rfl rfl ?_
        refine sA (v := .bool true) rfl (fun _ henv => rn_pick henv rfl rfl) ?_
        intro a henv
        refine wpList_nil ?_
        refine th_n ?_
        refine if_t henv rfl (rfl) ?_
        refine wp_seq ?_
        refine region_seq ?_
        refine sv (v := .bool false) henv rfl (rn_assign henv rfl) ?_
        clear henv a; intro a henv
        refine wpList_nil ?_
        refine th_n ?_
        refine wp_ret ?_
        refine bl_r (th_r (th_r (bl_r (th_r ?_))))
        refine leave henv (res1 Tryd.results40 (RV.tmp henv rfl)) ?_
        exact ⟨by rw [decide_eq_false fun h => by have := rp_at h j; omega], hst.below⟩
      · rw [hg64] at henv
        have hx66 := of_decide_eq_false hg64
        revert a
        refine gA (v := .int .i64 (ar2 k1 k2 j)) rfl rfl rfl rfl (fun _ henv => rn_move henv rfl) ?_
        refine gA (v := .bool (decide ((ar2 k1 k2 j) > (8 : Int)))) rfl rfl rfl rfl (fun _ henv => rn_bin henv rfl rfl rfl) ?_
        refine sA (v := .bool (decide ((ar2 k1 k2 j) > (8 : Int)))) rfl (fun _ henv => rn_pick henv rfl rfl) ?_
        intro a henv
        refine wpList_nil ?_
        refine th_n ?_
        refine if_split henv rfl (fun hc67 => ?_) (fun hc67 => ?_)
        · have hx68 := of_decide_eq_true hc67
          refine wp_seq ?_
          refine region_seq ?_
          refine sv (v := .bool false) henv rfl (rn_assign henv rfl) ?_
          clear henv a; intro a henv
          refine wpList_nil ?_
          refine th_n ?_
          refine wp_ret ?_
          refine bl_r (th_r (th_r (bl_r (th_r ?_))))
          refine leave henv (res1 Tryd.results40 (RV.tmp henv rfl)) ?_
          exact ⟨by rw [decide_eq_false fun h => by have := rp_at h j; omega], hst.below⟩
        · have hx69 := of_decide_eq_false hc67
          refine wp_skip ?_
          refine bl_n (th_n ?_)
          refine region_seq ?_
          revert a
          refine sA (v := .int .i64 (j + 1 : Nat)) rfl (fun _ henv => rn_add henv rfl rfl (by rw [IntWalk.i64_in _ (by omega)]; omega)) ?_
          refine mA rfl rfl ?_
          intro a henv
          refine wpList_nil ?_
          exact th_n ⟨_, (by omega), ⟨j + 1, rfl, henv.sub ⟨rfl, rfl, trivial⟩, hst.pick [] [] (by decide), (by omega), (ar_step hqk1 (by omega))⟩⟩
    · have hx70 := of_decide_eq_false hc62
      obtain rfl : j = 2 := by omega
      refine wp_exit ?_
      refine th_x (th_x (bl_x (th_n ?_)))
      refine wp_seq ?_
      refine region_seq ?_
      refine sv (v := .bool true) henv rfl (rn_assign henv rfl) ?_
      clear henv a; intro a henv
      refine wpList_nil ?_
      refine th_n ?_
      refine wp_ret ?_
      refine leave henv (res1 Tryd.results40 (RV.tmp henv rfl)) ?_
      exact ⟨by rw [decide_eq_true (rp_of hqn1 hqk1)], hst.below⟩
set_option maxRecDepth 100000 in
set_option maxHeartbeats 2000000 in
theorem sp_block_bad {n1 n2 k1 k2 : Int} {w0 : World} (hn : ¬ RP n1 n2 k1 k2) :
    Calls Tryd.prog 20 #[.int .i64 n1, .int .i64 n2, .int .i64 k1, .int .i64 k2] w0 fun e w' => e = .returned (.tuple #[.int .i64 0, .int .i64 2]) ∧ Below w0.heap.size w0 w' := by
  refine enter Tryd.func20 rfl Tryd.ntmps20 rfl ?_
  intro a henv hst
  refine wp_seq ?_
  refine region_seq ?_
  revert a
  refine aA rfl rfl ?_
  refine aA rfl rfl ?_
  intro a henv
  refine wpList_nil ?_
  refine th_n ?_
  refine wp_seq ?_
  refine wp_seq ?_
  refine region_seq ?_
  revert a
  refine mA rfl rfl ?_
  refine mA rfl rfl ?_
  refine mA rfl rfl ?_
  refine mA rfl rfl ?_
  intro a henv
  refine seq_step rfl (op_call henv rfl Tryd.call40 rfl (sp_right (n1 := n1) (n2 := n2) (k1 := k1) (k2 := k2)) ?_)
  rintro e w51 ⟨rfl, hb⟩
  refine ⟨_, rfl, ?_⟩
  clear henv a; intro a henv
  replace hst := hst.call hb
  clear hb
  rw [show (decide (RP n1 n2 k1 k2)) = false from (decide_eq_false hn)] at henv
  refine sv (v := .bool true) henv rfl (rn_un henv rfl rfl) ?_
  clear henv a; intro a henv
  refine wpList_nil ?_
  refine th_n ?_
  refine if_t henv rfl (rfl) ?_
  refine wp_seq ?_
  refine region_seq ?_
  revert a
  refine aA rfl rfl ?_
  refine aA rfl rfl ?_
  intro a henv
  refine wpList_nil ?_
  refine th_n ?_
  refine wp_ret ?_
  refine th_r ?_
  refine leave henv (res2 Tryd.results20 (RV.tmp henv rfl) (RV.tmp henv rfl)) ?_
  exact ⟨rfl, hst.below⟩
set_option maxRecDepth 100000 in
set_option maxHeartbeats 2000000 in
theorem sp_block {n1 n2 k1 k2 : Nat} {w0 : World} (h1 : n1 ≤ 4096) (h2 : n2 ≤ 4096) (g1 : 1 ≤ k1) (g2 : 1 ≤ k2) (f1 : k1 ≤ 8) (f2 : k2 ≤ 8) :
    Calls Tryd.prog 20 #[.int .i64 (n1 : Nat), .int .i64 (n2 : Nat), .int .i64 (k1 : Nat), .int .i64 (k2 : Nat)] w0 fun e w' => e = .returned (.tuple #[.int .i64 (blkN n1 n2 k1 k2 : Nat), .int .i64 0]) ∧ Below w0.heap.size w0 w' := by
  refine enter Tryd.func20 rfl Tryd.ntmps20 rfl ?_
  intro a henv hst
  refine wp_seq ?_
  refine region_seq ?_
  revert a
  refine aA rfl rfl ?_
  refine aA rfl rfl ?_
  intro a henv
  refine wpList_nil ?_
  refine th_n ?_
  refine wp_seq ?_
  refine wp_seq ?_
  refine region_seq ?_
  revert a
  refine mA rfl rfl ?_
  refine mA rfl rfl ?_
  refine mA rfl rfl ?_
  refine mA rfl rfl ?_
  intro a henv
  refine seq_step rfl (op_call henv rfl Tryd.call40 rfl (sp_right (n1 := ((n1 : Nat) : Int)) (n2 := ((n2 : Nat) : Int)) (k1 := ((k1 : Nat) : Int)) (k2 := ((k2 : Nat) : Int))) ?_)
  rintro e w51 ⟨rfl, hb⟩
  refine ⟨_, rfl, ?_⟩
  clear henv a; intro a henv
  replace hst := hst.call hb
  clear hb
  rw [show (decide (RP ((n1 : Nat) : Int) ((n2 : Nat) : Int) ((k1 : Nat) : Int) ((k2 : Nat) : Int))) = true from (decide_eq_true (show RP n1 n2 k1 k2 by unfold RP; omega))] at henv
  refine sv (v := .bool false) henv rfl (rn_un henv rfl rfl) ?_
  clear henv a; intro a henv
  refine wpList_nil ?_
  refine th_n ?_
  refine if_f henv rfl (rfl) ?_
  refine wp_skip ?_
  refine th_n ?_
  refine wp_seq ?_
  refine region_seq ?_
  revert a
  refine mA rfl rfl ?_
  refine mA rfl rfl ?_
  intro a henv
  refine seq_step rfl (op_call henv rfl Tryd.call41 rfl (sp_up (n := n1) (k := k1) (by omega) (by omega) (by omega)) ?_)
  rintro e w52 ⟨rfl, hb⟩
  refine ⟨_, rfl, ?_⟩
  clear henv a; intro a henv
  replace hst := hst.call hb
  clear hb
  revert a
  refine mA rfl rfl ?_
  refine mA rfl rfl ?_
  intro a henv
  refine seq_step rfl (op_call henv rfl Tryd.call41 rfl (sp_up (n := n2) (k := k2) (by omega) (by omega) (by omega)) ?_)
  rintro e w53 ⟨rfl, hb⟩
  refine ⟨_, rfl, ?_⟩
  clear henv a; intro a henv
  replace hst := hst.call hb
  clear hb
  revert a
  refine sA (v := .int .i64 (max (upN n1 k1) (upN n2 k2) : Nat)) rfl (fun _ henv => rn_maxN (m := upN n1 k1) (n := upN n2 k2) henv rfl rfl) ?_
  refine aA rfl rfl ?_
  refine aA rfl rfl ?_
  intro a henv
  refine wpList_nil ?_
  refine th_n ?_
  refine wp_ret ?_
  refine leave henv (res2 Tryd.results20 (RV.tmp henv rfl) (RV.tmp henv rfl)) ?_
  exact ⟨rfl, hst.below⟩
end Go.Proofs.YtoojllfijfjmoaaDoor.W

/- The laws' long. Printed by pv/gen_row4.py. No condition. -/
namespace Go.Proofs.YtoojllfijfjmoaaDoor.W
open Go.RowKit Anv Go.Lib
abbrev VE := Option Addr × Nat × Nat × List UE
def fV (v : VE) : List Value := [.slice v.1 v.2.1 v.2.2.1]
def FV (v : VE) : PF := pfRow fU FU 2 v.1 v.2.1 v.2.2.1 v.2.2.2
def tl (us : List UE) : Nat := (us.map fun e => e.2.2.1).sum
def tv (vs : List VE) : Nat := (vs.map fun v => v.2.1 + tl v.2.2.2).sum
def vz (e : UE) : Int := sg e.1 (val 4294967296 e.2.2.2.2)
end Go.Proofs.YtoojllfijfjmoaaDoor.W

/- row.Cmp, Same; the reference's Cmp, Same, IsZero. Printed by pv/gen_row5.py. No condition. -/
namespace Go.Proofs.YtoojllfijfjmoaaDoor.W
open Go.RowKit Anv Go.Lib
def lexc : List Int → List Int → Int
  | x :: xs, y :: ys => if (x - y).sign = 0 then lexc xs ys else (x - y).sign
  | _, _ => 0
def cmpR (xs ys : List Int) : Int := if xs.length < ys.length then -1 else if ys.length < xs.length then 1 else lexc xs ys
end Go.Proofs.YtoojllfijfjmoaaDoor.W

/- row.Widest, anvilref04.Widest. Printed by pv/gen_row6.py. No condition. -/
namespace Go.Proofs.YtoojllfijfjmoaaDoor.W
open Go.RowKit Anv Go.Lib
def wid (zs : List Int) : Int := zs.foldl (fun w z => if w < (z.natAbs : Int) then (z.natAbs : Int) else w) 0
end Go.Proofs.YtoojllfijfjmoaaDoor.W

/- What the law RowHolds needs, with no program in sight but the shape of the memory. No condition. -/
namespace Go.Proofs.YtoojllfijfjmoaaDoor.W
open Go.RowKit Anv Go.Lib
theorem tl_mem {us : List UE} {e : UE} (h : e ∈ us) : e.2.2.1 ≤ tl us := by
  induction us with
  | nil => cases h
  | cons x us ih =>
    unfold tl at *
    rw [List.map_cons, List.sum_cons]
    rcases List.mem_cons.1 h with rfl | h
    · omega
    · have := ih h; omega
end Go.Proofs.YtoojllfijfjmoaaDoor.W

/- What the laws of rows need of the memory: rows of rows written out, numbers written out, sizes. No program but the shape of the memory. No condition. -/
namespace Go.Proofs.YtoojllfijfjmoaaDoor.W
open Go.RowKit Anv Go.Lib
theorem zl_vze {w : World} {b : Bool} {A : Option Addr} {n c k : Nat} {xs : List Nat} (h : U32 w A n c xs) (hn : n ≤ k) : zl (sg b (val 4294967296 xs)) ≤ k := by
  have h2 := nl_val h
  have e : zl (sg b (val 4294967296 xs)) = nl (val 4294967296 xs) := by
    unfold sg zl
    split
    · rw [Int.natAbs_neg, Int.natAbs_natCast]
    · rw [Int.natAbs_natCast]
  omega
def Zk (k : Nat) (zs : List Int) : Prop := ∀ z ∈ zs, zl z ≤ k
theorem Zk.es {k : Nat} {es : List NE} {zs : List Int} (h : Zk k zs) (e : es.map zz = zs) : ZB k es := fun x hx => h (zz x) (e ▸ List.mem_map_of_mem hx)
theorem Zk.mono {k m : Nat} {zs : List Int} (h : Zk k zs) (hm : k ≤ m) : Zk m zs := fun z hz => Nat.le_trans (h z hz) hm
theorem Zk.map {k m : Nat} {zs : List Int} {f : Int → Int} (h : Zk k zs) (hf : ∀ z, zl z ≤ k → zl (f z) ≤ m) : Zk m (zs.map f) := fun x hx => by
  obtain ⟨z, hz, rfl⟩ := List.mem_map.1 hx
  exact hf z (h z hz)
theorem mem_zipWith {f : Int → Int → Int} {x : Int} : ∀ {xs ys : List Int}, x ∈ List.zipWith f xs ys → ∃ a ∈ xs, ∃ b ∈ ys, x = f a b
  | [], _, h => by simp at h
  | _ :: _, [], h => by simp at h
  | a :: xs, b :: ys, h => by
    rw [List.zipWith_cons_cons] at h
    rcases List.mem_cons.1 h with rfl | h
    · exact ⟨a, List.mem_cons_self .., b, List.mem_cons_self .., rfl⟩
    · obtain ⟨a, ha, b, hb, e⟩ := mem_zipWith h
      exact ⟨a, List.mem_cons_of_mem _ ha, b, List.mem_cons_of_mem _ hb, e⟩
theorem Zk.zip {k j m : Nat} {xs ys : List Int} {f : Int → Int → Int} (h : Zk k xs) (g : Zk j ys) (hf : ∀ x y, zl x ≤ k → zl y ≤ j → zl (f x y) ≤ m) : Zk m (List.zipWith f xs ys) := fun x hx => by
  obtain ⟨a, ha, b, hb, rfl⟩ := mem_zipWith hx
  exact hf a b (h a ha) (g b hb)
theorem Zk.vz {es : List UE} {k : Nat} {w : World} (h : (pfEs FU es).P w) (ht : tl es ≤ k) : Zk k (es.map vz) := by
  intro z hz
  obtain ⟨e, he, rfl⟩ := List.mem_map.1 hz
  have h1 : U32 w e.2.1 e.2.2.1 e.2.2.2.1 e.2.2.2.2 := h e he
  exact zl_vze h1 (Nat.le_trans (tl_mem he) ht)
theorem Zk.prim {k : Nat} {zs : List Int} (h : Zk k zs) : Zk k (prim zs) := h.map fun _ hz => Nat.le_trans (zl_ediv _ _) hz
theorem Zk.take {k : Nat} {zs : List Int} (h : Zk k zs) (j : Nat) : Zk k (zs.take j) := fun z hz => h z (List.mem_of_mem_take hz)
end Go.Proofs.YtoojllfijfjmoaaDoor.W

/- Rows handed as written numbers, compared; split.Parts, poly.Degree, split.Join. Printed by pv/gen_sp2.py. No condition. -/
namespace Go.Proofs.YtoojllfijfjmoaaDoor.W
open Go.RowKit Anv Go.Lib
theorem zts {es : List NE} {xs : List Int} {j : Nat} {A : Option Addr} {c : Nat} {z : Int} (hz : es.map zz = xs) (he : es[j]? = some (A, c, z)) : xs.take (j + 1) = xs.take j ++ [z] :=
  take_one (by rw [← hz, List.getElem?_map, he]; rfl)
theorem tz_inj {x y : Int} (h : textZ x = textZ y) : x = y := rz_eq (rz_text x) (h ▸ rz_text y)
theorem tz_iff {x y : Int} : textZ x = textZ y ↔ x = y := ⟨tz_inj, fun h => h ▸ rfl⟩
theorem eq_full {es fs : List NE} {xs ys : List Int} {n m : Nat} (h : es.map zz = xs) (hl : es.length = n) (k : fs.map zz = ys) (kl : fs.length = m) (hn : n = m) (he : xs.take n = ys.take n) : xs = ys := by
  rw [List.take_of_length_le (by rw [← h, List.length_map]; omega), List.take_of_length_le (by rw [← k, List.length_map]; omega)] at he
  exact he
theorem eq_ne {es fs : List NE} {xs ys : List Int} {n m : Nat} (h : es.map zz = xs) (hl : es.length = n) (k : fs.map zz = ys) (kl : fs.length = m) (hn : n ≠ m) : xs ≠ ys := fun e => hn (by
  have := congrArg List.length e
  rw [← h, ← k, List.length_map, List.length_map] at this
  omega)
theorem eq_at {es fs : List NE} {xs ys : List Int} {j : Nat} {A B : Option Addr} {c d : Nat} {x y : Int} (h : es.map zz = xs) (k : fs.map zz = ys) (he : es[j]? = some (A, c, x)) (hf : fs[j]? = some (B, d, y)) (hxy : ¬ x = y) : xs ≠ ys := by
  rintro rfl
  have h1 : xs[j]? = some x := by rw [← h, List.getElem?_map, he]; rfl
  have h2 : xs[j]? = some y := by rw [← k, List.getElem?_map, hf]; rfl
  rw [h1] at h2
  exact hxy (Option.some.inj h2)
set_option maxRecDepth 100000 in
set_option maxHeartbeats 2000000 in
theorem l_list {A0 : Option Addr} {n0 c0 : Nat} {es0 : List Int} {w0 : World} (h0 : (pfRow fI FI 1 A0 n0 c0 es0).P w0) (hI : I64 es0) (hn : n0 ≤ 100000000) :
    Calls Tryd.prog 11 #[.slice A0 n0 c0] w0 fun e w' => ∃ v, e = .returned v ∧ ZRow w0.heap.size w' v n0 es0 ∧ Below w0.heap.size w0 w' := by
  refine enter Tryd.func11 rfl Tryd.ntmps11 rfl ?_
  intro a henv hst
  have hlen0 := h0.2.1
  have hbig0 := Nat.le_trans h0.1.cap h0.1.big
  unfold maxLen at hbig0
  replace hst := hst.argRow h0
  clear h0
  refine wp_seq ?_
  refine region_seq ?_
  refine sv (v := .slice none 0 0) henv rfl (rn_assign henv rfl) ?_
  clear henv a; intro a henv
  refine wpList_nil ?_
  refine th_n ?_
  refine wp_seq ?_
  refine region_seq ?_
  refine sv (v := .slice none 0 0) henv rfl (rn_assign henv rfl) ?_
  clear henv a; intro a henv
  refine wpList_nil ?_
  refine th_n ?_
  refine wp_seq ?_
  refine wp_seq ?_
  refine region_seq ?_
  revert a
  refine mA rfl rfl ?_
  refine sA (v := .int .i64 (n0 : Nat)) rfl (fun _ henv => rn_len henv Tryd.underlying22 rfl) ?_
  refine mA rfl rfl ?_
  intro a henv
  refine wpList_nil ?_
  refine th_n ?_
  refine wp_block ?_
  replace hst := (hst.addRowS notU 39 2).nilEs FN
  replace hst : St w0 _ [rowS notU 39 2 none 0 0 (fl fN ([]))] [pfEs FN ([]), pfRow fI FI 1 A0 n0 c0 es0] := hst
  refine wp_loop_ghost (fun mz a w => ∃ j : Nat, ∃ B : Option Addr, ∃ d : Nat, ∃ os : List NE, n0 - j = mz ∧ Env 19 a [(6, .slice A0 n0 c0), (7, .int .i64 (n0 : Nat)), (8, .int .i64 (j : Nat)), (3, .slice B j d)] ∧ St w0 w [rowS notU 39 2 B j d (fl fN os)] [pfRow fI FI 1 A0 n0 c0 es0, pfEs FN os] ∧ j ≤ n0 ∧ os.map zz = es0.take j) _ ⟨0, none, 0, [], rfl, henv.sub ⟨rfl, rfl, rfl, rfl, trivial⟩, hst.pick [0] [1, 0] (by decide), (Nat.zero_le _), rfl⟩ ?_
  clear henv hst a
  rintro mz a w51 ⟨j, B, d, os, rfl, henv, hst, hj, ho⟩
  refine wp_seq ?_
  refine region_seq ?_
  refine sv (v := .bool (decide (((j : Nat) : Int) < ((n0 : Nat) : Int)))) henv rfl (rn_bin henv rfl rfl rfl) ?_
  clear henv a; intro a henv
  refine wpList_nil ?_
  refine th_n ?_
  refine wp_seq ?_
  refine if_split henv rfl (fun hc52 => ?_) (fun hc52 => ?_)
  · have hlt : j < n0 := by have := of_decide_eq_true hc52; omega
    obtain ⟨x, he0⟩ : ∃ x, es0[j]? = some x := ⟨_, List.getElem?_eq_getElem (by omega)⟩
    have hx := hI.at he0
    refine wp_skip ?_
    refine th_n ?_
    refine wp_seq ?_
    refine wp_block ?_
    refine wp_seq ?_
    refine region_seq ?_
    revert a
    refine sA (v := .pointer (some ⟨ab A0, ao A0 + j * 1, none⟩)) rfl (fun _ henv => rn_idxR (i := j) henv Tryd.underlying22 (ty_int64.size) rfl rfl (by omega) rfl (show (pfRow fI FI 1 A0 n0 c0 es0).P _ from (hst.pat (k := 0) rfl)).1) ?_
    refine sA (v := .int .i64 x) rfl (fun _ henv => rn_loadE1 (i := j) (j := 0) (e := x) henv ty_int64 rfl rfl fI_len (by decide) (show (pfRow fI FI 1 A0 n0 c0 es0).P _ from (hst.pat (k := 0) rfl)).1 (by omega) he0 rfl) ?_
    refine aA rfl rfl ?_
    intro a henv
    refine wpList_nil ?_
    refine th_n ?_
    refine region_seq ?_
    revert a
    refine mA rfl rfl ?_
    refine mA rfl rfl ?_
    intro a henv
    refine seq_step rfl (op_call henv rfl Tryd.call17 rfl (of_z (n := x) (by omega) (by omega)) ?_)
    rintro e w56 ⟨_, rfl, ⟨A53, c54, rfl, hz55⟩, hb⟩
    refine ⟨_, rfl, ?_⟩
    clear henv a; intro a henv
    replace hst := (hst.call hb).addZ hz55 ⟨nou_rowS, trivial⟩
    clear hz55
    clear hb
    refine seq_step rfl (op_buildSlice (z := 2) (pv := #[(0, .agg #[.bool (neg x), .slice A53 (zl x) c54])]) (c := #[.bool (neg x), .slice A53 (zl x) c54]) henv hst rfl Tryd.underlying24 (ty_anvil_integer_Int.size) zero_anvil_integer_Int (by decide) (by decide) rfl (by kernel_rfl) ?_)
    clear henv hst a; intro a w58 g57 henv hst
    refine seq_step rfl (op_appendS (k := 1) (j := 0) henv hst rfl Tryd.underlying24 inf_anvil_integer_Int rfl rfl rfl rfl rfl rfl rfl rfl rfl rfl rfl (by unfold maxLen; omega) (by omega) ?_)
    clear henv hst a; intro a w61 g59 c60 henv hst
    rw [show fl fN os ++ (#[.bool (neg x), .slice A53 (zl x) c54] : Array Value).toList = fl fN (os ++ [(A53, c54, x)]) from fl_snoc (f := fN) os (A53, c54, x)] at hst
    replace hst := hst.snocEs (e := (A53, c54, x)) (i := 2) (j := 0) rfl rfl
    refine sv (v := .slice (some ⟨g59, 0, none⟩) (j + 1) c60) henv rfl (rn_assign henv rfl) ?_
    clear henv a; intro a henv
    refine wpList_nil ?_
    refine bl_n (th_n ?_)
    refine region_seq ?_
    revert a
    refine sA (v := .int .i64 (j + 1 : Nat)) rfl (fun _ henv => rn_add henv rfl rfl (by rw [IntWalk.i64_in _ (by omega)]; omega)) ?_
    refine mA rfl rfl ?_
    intro a henv
    refine wpList_nil ?_
    exact th_n ⟨_, (by omega), ⟨j + 1, (some ⟨g59, 0, none⟩), c60, (os ++ [(A53, c54, x)]), rfl, henv.sub ⟨rfl, rfl, rfl, rfl, trivial⟩, hst.pick [1] [2, 0] (by decide), (by omega), (step_ints ho he0)⟩⟩
  · obtain rfl : j = n0 := by have := of_decide_eq_false hc52; omega
    refine wp_exit ?_
    refine th_x (th_x (bl_x (th_n ?_)))
    refine wp_seq ?_
    refine region_seq ?_
    revert a
    refine mA rfl rfl ?_
    refine aA rfl rfl ?_
    intro a henv
    refine wpList_nil ?_
    refine th_n ?_
    refine wp_ret ?_
    refine leave henv (res1 Tryd.results11 (RV.tmp henv rfl)) ?_
    exact ⟨_, rfl, ⟨_, _, os, rfl, hst.newRow (k := 0) (j := 1) rfl rfl, map_len ho (by rw [List.length_take]; omega), (ho.trans (List.take_of_length_le (by omega)))⟩, hst.below⟩
set_option maxRecDepth 100000 in
set_option maxHeartbeats 2000000 in
theorem l_ref {A0 : Option Addr} {n0 c0 : Nat} {es0 : List Int} {w0 : World} (h0 : (pfRow fI FI 1 A0 n0 c0 es0).P w0) (hI : I64 es0) (hn : n0 ≤ 100000000) :
    Calls Tryd.prog 15 #[.slice A0 n0 c0] w0 fun e w' => ∃ v, e = .returned v ∧ MRow w0.heap.size w' v n0 es0 ∧ Below w0.heap.size w0 w' := by
  refine enter Tryd.func15 rfl Tryd.ntmps15 rfl ?_
  intro a henv hst
  have hlen0 := h0.2.1
  have hbig0 := Nat.le_trans h0.1.cap h0.1.big
  unfold maxLen at hbig0
  replace hst := hst.argRow h0
  clear h0
  refine wp_seq ?_
  refine region_seq ?_
  refine sv (v := .slice none 0 0) henv rfl (rn_assign henv rfl) ?_
  clear henv a; intro a henv
  refine wpList_nil ?_
  refine th_n ?_
  refine wp_seq ?_
  refine region_seq ?_
  refine sv (v := .slice none 0 0) henv rfl (rn_assign henv rfl) ?_
  clear henv a; intro a henv
  refine wpList_nil ?_
  refine th_n ?_
  refine wp_seq ?_
  refine wp_seq ?_
  refine region_seq ?_
  revert a
  refine mA rfl rfl ?_
  refine sA (v := .int .i64 (n0 : Nat)) rfl (fun _ henv => rn_len henv Tryd.underlying22 rfl) ?_
  refine mA rfl rfl ?_
  intro a henv
  refine wpList_nil ?_
  refine th_n ?_
  refine wp_block ?_
  replace hst := (hst.addRowS notU 68 2).nilEs FM
  replace hst : St w0 _ [rowS notU 68 2 none 0 0 (fl fM ([]))] [pfEs FM ([]), pfRow fI FI 1 A0 n0 c0 es0] := hst
  refine wp_loop_ghost (fun mz a w => ∃ j : Nat, ∃ B : Option Addr, ∃ d : Nat, ∃ os : List NE, n0 - j = mz ∧ Env 19 a [(6, .slice A0 n0 c0), (7, .int .i64 (n0 : Nat)), (8, .int .i64 (j : Nat)), (3, .slice B j d)] ∧ St w0 w [rowS notU 68 2 B j d (fl fM os)] [pfRow fI FI 1 A0 n0 c0 es0, pfEs FM os] ∧ j ≤ n0 ∧ os.map zz = es0.take j) _ ⟨0, none, 0, [], rfl, henv.sub ⟨rfl, rfl, rfl, rfl, trivial⟩, hst.pick [0] [1, 0] (by decide), (Nat.zero_le _), rfl⟩ ?_
  clear henv hst a
  rintro mz a w51 ⟨j, B, d, os, rfl, henv, hst, hj, ho⟩
  refine wp_seq ?_
  refine region_seq ?_
  refine sv (v := .bool (decide (((j : Nat) : Int) < ((n0 : Nat) : Int)))) henv rfl (rn_bin henv rfl rfl rfl) ?_
  clear henv a; intro a henv
  refine wpList_nil ?_
  refine th_n ?_
  refine wp_seq ?_
  refine if_split henv rfl (fun hc52 => ?_) (fun hc52 => ?_)
  · have hlt : j < n0 := by have := of_decide_eq_true hc52; omega
    obtain ⟨x, he0⟩ : ∃ x, es0[j]? = some x := ⟨_, List.getElem?_eq_getElem (by omega)⟩
    have hx := hI.at he0
    refine wp_skip ?_
    refine th_n ?_
    refine wp_seq ?_
    refine wp_block ?_
    refine wp_seq ?_
    refine region_seq ?_
    revert a
    refine sA (v := .pointer (some ⟨ab A0, ao A0 + j * 1, none⟩)) rfl (fun _ henv => rn_idxR (i := j) henv Tryd.underlying22 (ty_int64.size) rfl rfl (by omega) rfl (show (pfRow fI FI 1 A0 n0 c0 es0).P _ from (hst.pat (k := 0) rfl)).1) ?_
    refine sA (v := .int .i64 x) rfl (fun _ henv => rn_loadE1 (i := j) (j := 0) (e := x) henv ty_int64 rfl rfl fI_len (by decide) (show (pfRow fI FI 1 A0 n0 c0 es0).P _ from (hst.pat (k := 0) rfl)).1 (by omega) he0 rfl) ?_
    refine aA rfl rfl ?_
    intro a henv
    refine wpList_nil ?_
    refine th_n ?_
    refine region_seq ?_
    revert a
    refine mA rfl rfl ?_
    refine mA rfl rfl ?_
    intro a henv
    refine seq_step rfl (op_call henv rfl Tryd.call30 rfl (of_r (n := x) (by omega) (by omega)) ?_)
    rintro e w56 ⟨_, rfl, ⟨A53, c54, rfl, hz55⟩, hb⟩
    refine ⟨_, rfl, ?_⟩
    clear henv a; intro a henv
    replace hst := (hst.call hb).addR hz55 ⟨nou_rowS, trivial⟩
    clear hz55
    clear hb
    refine seq_step rfl (op_buildSlice (z := 2) (pv := #[(0, .agg #[.bool (neg x), .slice A53 (dl x) c54])]) (c := #[.bool (neg x), .slice A53 (dl x) c54]) henv hst rfl Tryd.underlying33 (ty_anvil_anvilref02_Int.size) zero_anvil_anvilref02_Int (by decide) (by decide) rfl (by kernel_rfl) ?_)
    clear henv hst a; intro a w58 g57 henv hst
    refine seq_step rfl (op_appendS (k := 1) (j := 0) henv hst rfl Tryd.underlying33 inf_anvil_anvilref02_Int rfl rfl rfl rfl rfl rfl rfl rfl rfl rfl rfl (by unfold maxLen; omega) (by omega) ?_)
    clear henv hst a; intro a w61 g59 c60 henv hst
    rw [show fl fM os ++ (#[.bool (neg x), .slice A53 (dl x) c54] : Array Value).toList = fl fM (os ++ [(A53, c54, x)]) from fl_snoc (f := fM) os (A53, c54, x)] at hst
    replace hst := hst.snocEs (e := (A53, c54, x)) (i := 2) (j := 0) rfl rfl
    refine sv (v := .slice (some ⟨g59, 0, none⟩) (j + 1) c60) henv rfl (rn_assign henv rfl) ?_
    clear henv a; intro a henv
    refine wpList_nil ?_
    refine bl_n (th_n ?_)
    refine region_seq ?_
    revert a
    refine sA (v := .int .i64 (j + 1 : Nat)) rfl (fun _ henv => rn_add henv rfl rfl (by rw [IntWalk.i64_in _ (by omega)]; omega)) ?_
    refine mA rfl rfl ?_
    intro a henv
    refine wpList_nil ?_
    exact th_n ⟨_, (by omega), ⟨j + 1, (some ⟨g59, 0, none⟩), c60, (os ++ [(A53, c54, x)]), rfl, henv.sub ⟨rfl, rfl, rfl, rfl, trivial⟩, hst.pick [1] [2, 0] (by decide), (by omega), (step_ints ho he0)⟩⟩
  · obtain rfl : j = n0 := by have := of_decide_eq_false hc52; omega
    refine wp_exit ?_
    refine th_x (th_x (bl_x (th_n ?_)))
    refine wp_seq ?_
    refine region_seq ?_
    revert a
    refine mA rfl rfl ?_
    refine aA rfl rfl ?_
    intro a henv
    refine wpList_nil ?_
    refine th_n ?_
    refine wp_ret ?_
    refine leave henv (res1 Tryd.results15 (RV.tmp henv rfl)) ?_
    exact ⟨_, rfl, ⟨_, _, os, rfl, hst.newRow (k := 0) (j := 1) rfl rfl, map_len ho (by rw [List.length_take]; omega), (ho.trans (List.take_of_length_le (by omega)))⟩, hst.below⟩
set_option maxRecDepth 100000 in
set_option maxHeartbeats 2000000 in
theorem is_one {A B : Option Addr} {c d : Nat} {x y : Int} {w0 : World} (hx : ZIn w0 A c x) (hy : RIn w0 B d y) (hn : zl x ≤ 20000) (hm : dl y ≤ 60000) :
    Calls Tryd.prog 32 #[.agg #[.bool (neg x), .slice A (zl x) c], .agg #[.bool (neg y), .slice B (dl y) d]] w0 fun e w' => e = .returned (.bool (decide (x = y))) ∧ Below w0.heap.size w0 w' := by
  refine enter Tryd.func32 rfl Tryd.ntmps32 rfl ?_
  intro a henv hst
  replace hst := (hst.addZ hx trivial).addR hy trivial
  clear hx hy
  refine wp_seq ?_
  refine region_seq ?_
  refine seq_step rfl (op_box (c := #[.bool (neg x), .slice A (zl x) c]) henv hst rfl rfl rfl ?_)
  clear henv hst a; intro a w52 g51 henv hst
  refine seq_step rfl (op_box (c := #[.bool (neg y), .slice B (dl y) d]) henv hst rfl rfl rfl ?_)
  clear henv hst a; intro a w54 g53 henv hst
  refine sv (v := .bool false) henv rfl (rn_assign henv rfl) ?_
  clear henv a; intro a henv
  refine wpList_nil ?_
  refine th_n ?_
  refine wp_seq ?_
  refine region_any (n := 6) (Sk [bk g53 #[.bool (neg y), .slice B (dl y) d] 68, bk g51 #[.bool (neg x), .slice A (zl x) c] 39] [pfR B d y, pfZ A c x] [] []) mixed rfl henv hst ?_
  clear henv hst; intro w55 henv hst
  refine tL (i := 0) 1 1 [1, 3, 4, 5] rfl (by kernel_rfl) (fun _ _ _ h => h) henv rfl ty_anvil_integer_Int rfl hst rfl rfl rfl ?_
  clear henv a; intro a henv
  refine tL (i := 2) 0 0 [3, 4, 5] rfl (by kernel_rfl) (fun _ _ _ h => h) henv rfl ty_anvil_anvilref02_Int rfl hst rfl rfl rfl ?_
  clear henv a; intro a henv
  refine sAny_one (i := 1) (by kernel_rfl) rfl rfl (op_call henv rfl Tryd.call33 rfl (text_z (z := x) (show ZIn _ A c x from hst.pat (k := 1) rfl) (by omega)) ?_)
  rintro e w56 ⟨rfl, hb⟩
  refine ⟨_, rfl, ?_⟩
  clear henv a; intro a henv
  replace hst := hst.call hb
  clear hb
  refine ⟨.inr ⟨hst.kn.pick [0, 1] [0, 1], .inr (hst.kn.pick [] [])⟩, ?_⟩
  refine sAny_one (i := 3) (by kernel_rfl) rfl rfl (op_call henv rfl Tryd.call34 rfl (text_r (z := y) (show RIn _ B d y from hst.pat (k := 0) rfl) (by omega)) ?_)
  rintro e w57 ⟨rfl, hb⟩
  refine ⟨_, rfl, ?_⟩
  clear henv a; intro a henv
  replace hst := hst.call hb
  clear hb
  refine ⟨.inr ⟨hst.kn.pick [0, 1] [0, 1], .inr (hst.kn.pick [] [])⟩, ?_⟩
  refine tA (i := 4) [5] (v := .bool (decide ((textZ x) = (textZ y)))) rfl (by kernel_rfl) (fun _ _ _ h => h) henv rfl (fun _ => rn_eqls (s := (textZ x)) (t := (textZ y)) henv rfl rfl) ?_
  clear henv a; intro a henv
  refine tA (i := 5) [] (v := .bool (decide ((textZ x) = (textZ y)))) rfl (by kernel_rfl) (fun _ _ _ h => h) henv rfl (fun _ => rn_assign henv rfl) ?_
  clear henv a; intro a henv
  refine sAny_done (by kernel_rfl) ?_ _
  refine th_n ?_
  refine wp_ret ?_
  refine leave henv (res1 Tryd.results32 (RV.tmp henv rfl)) ?_
  exact ⟨congrArg (fun b => Ending.returned (Value.bool b)) (decide_eq_decide.2 tz_iff), hst.below⟩
set_option maxRecDepth 100000 in
set_option maxHeartbeats 2000000 in
theorem eq_func {A0 A1 : Option Addr} {n0 n1 c0 c1 : Nat} {es0 es1 : List NE} {xs ys : List Int} {w0 : World} (h0 : (pfRow fN FN 2 A0 n0 c0 es0).P w0) (hz0 : es0.map zz = xs) (h1 : (pfRow fM FM 2 A1 n1 c1 es1).P w0) (hz1 : es1.map zz = ys) (hk0 : Zk 20000 xs) (hk1 : Zk 20000 ys) :
    Calls Tryd.prog 31 #[.slice A0 n0 c0, .slice A1 n1 c1, .func (.func 32) #[] #[]] w0 fun e w' => e = .returned (.bool (decide (xs = ys))) ∧ Below w0.heap.size w0 w' := by
  have hb0 := hk0.es hz0
  have hb1 := hk1.es hz1
  refine enter Tryd.func31 rfl Tryd.ntmps31 rfl ?_
  intro a henv hst
  have hlen0 := h0.2.1
  have hlen1 := h1.2.1
  have hbig0 := Nat.le_trans h0.1.cap h0.1.big
  unfold maxLen at hbig0
  replace hst := (hst.argRow h1).argRow h0
  clear h0 h1
  refine wp_seq ?_
  refine region_seq ?_
  refine sv (v := .bool false) henv rfl (rn_assign henv rfl) ?_
  clear henv a; intro a henv
  refine wpList_nil ?_
  refine th_n ?_
  refine wp_seq ?_
  refine wp_seq ?_
  refine region_seq ?_
  revert a
  refine mA rfl rfl ?_
  refine sA (v := .int .i64 (n0 : Nat)) rfl (fun _ henv => rn_len henv Tryd.underlying24 rfl) ?_
  refine mA rfl rfl ?_
  refine sA (v := .int .i64 (n1 : Nat)) rfl (fun _ henv => rn_len henv Tryd.underlying33 rfl) ?_
  refine sA (v := .bool (((n0 : Nat) : Int) != ((n1 : Nat) : Int))) rfl (fun _ henv => rn_bin henv rfl rfl rfl) ?_
  intro a henv
  refine wpList_nil ?_
  refine th_n ?_
  refine if_split henv rfl (fun hc51 => ?_) (fun hc51 => ?_)
  · have hne : n0 ≠ n1 := by have := hc51; simp at this; omega
    refine wp_seq ?_
    refine region_seq ?_
    refine sv (v := .bool false) henv rfl (rn_assign henv rfl) ?_
    clear henv a; intro a henv
    refine wpList_nil ?_
    refine th_n ?_
    refine wp_ret ?_
    refine th_r ?_
    refine leave henv (res1 Tryd.results31 (RV.tmp henv rfl)) ?_
    first | exact ⟨by rw [decide_eq_false (eq_ne hz0 hlen0 hz1 hlen1 hne)], hst.below⟩ | exact ⟨by rw [decide_eq_false (eq_at hz0 hz1 he0 he1 hxy)], hst.below⟩
  · have hnn : n0 = n1 := by have := hc51; simp at this; omega
    refine wp_skip ?_
    refine th_n ?_
    refine wp_seq ?_
    refine wp_seq ?_
    refine region_seq ?_
    revert a
    refine mA rfl rfl ?_
    refine sA (v := .int .i64 (n0 : Nat)) rfl (fun _ henv => rn_len henv Tryd.underlying24 rfl) ?_
    refine mA rfl rfl ?_
    intro a henv
    refine wpList_nil ?_
    refine th_n ?_
    refine wp_block ?_
    refine wp_loop_ghost (fun mz a w => ∃ j : Nat, n0 - j = mz ∧ Env 32 a [(1, .slice A1 n1 c1), (2, .func (.func 32) #[] #[]), (15, .slice A0 n0 c0), (16, .int .i64 (n0 : Nat)), (17, .int .i64 (j : Nat))] ∧ St w0 w [] [pfRow fN FN 2 A0 n0 c0 es0, pfRow fM FM 2 A1 n1 c1 es1] ∧ j ≤ n0 ∧ xs.take j = ys.take j) _ ⟨0, rfl, henv.sub ⟨rfl, rfl, rfl, rfl, rfl, trivial⟩, hst.pick [] [0, 1] (by decide), (Nat.zero_le _), rfl⟩ ?_
    clear henv hst a
    rintro mz a w52 ⟨j, rfl, henv, hst, hj, he⟩
    refine wp_seq ?_
    refine region_seq ?_
    refine sv (v := .bool (decide (((j : Nat) : Int) < ((n0 : Nat) : Int)))) henv rfl (rn_bin henv rfl rfl rfl) ?_
    clear henv a; intro a henv
    refine wpList_nil ?_
    refine th_n ?_
    refine wp_seq ?_
    refine if_split henv rfl (fun hc53 => ?_) (fun hc53 => ?_)
    · have hlt : j < n0 := by have := of_decide_eq_true hc53; omega
      obtain ⟨⟨A, c, x⟩, he0⟩ : ∃ e, es0[j]? = some e := ⟨_, List.getElem?_eq_getElem (by omega)⟩
      replace hst := hst.elem (k := 0) rfl he0
      replace hst : St w0 _ [] [pfZ A c x, pfRow fN FN 2 A0 n0 c0 es0, pfRow fM FM 2 A1 n1 c1 es1] := hst
      obtain ⟨⟨C, d, y⟩, he1⟩ : ∃ e, es1[j]? = some e := ⟨_, List.getElem?_eq_getElem (by omega)⟩
      replace hst := hst.elem (k := 2) rfl he1
      replace hst : St w0 _ [] [pfR C d y, pfZ A c x, pfRow fN FN 2 A0 n0 c0 es0, pfRow fM FM 2 A1 n1 c1 es1] := hst
      have hx1 := hb0.at he0
      have hy1 := hb1.at he1
      have hdy := dl_zl y
      refine wp_skip ?_
      refine th_n ?_
      refine wp_seq ?_
      refine wp_block ?_
      refine wp_seq ?_
      refine region_seq ?_
      revert a
      refine mA rfl rfl ?_
      refine sA (v := .pointer (some ⟨ab A0, ao A0 + j * 2, none⟩)) rfl (fun _ henv => rn_idxR (i := j) henv Tryd.underlying24 (ty_anvil_integer_Int.size) rfl rfl (by omega) rfl (show (pfRow fN FN 2 A0 n0 c0 es0).P _ from (hst.pat (k := 2) rfl)).1) ?_
      refine sA (v := .agg #[.bool (neg x), .slice A (zl x) c]) rfl (fun _ henv => rn_loadE (i := j) (e := (A, c, x)) henv ty_anvil_integer_Int rfl rfl fN_len (show (pfRow fN FN 2 A0 n0 c0 es0).P _ from (hst.pat (k := 2) rfl)).1 (by omega) he0 rfl) ?_
      intro a henv
      refine seq_step rfl (op_alloc (c := #[.bool (neg 0), .slice none (zl 0) 0]) henv hst rfl zero_anvil_integer_Int zcells ?_)
      clear henv hst a; intro a w55 g54 henv hst
      refine sv (v := .int .i64 (j : Nat)) henv rfl (rn_assign henv rfl) ?_
      clear henv a; intro a henv
      refine seq_step rfl (op_store (k := 0) (c' := #[.bool (neg x), .slice A (zl x) c]) henv hst (ty_anvil_integer_Int.size) rfl rfl rfl rfl (by simp) rfl rfl ?_)
      clear henv hst a; intro a w56 henv hst
      refine wpList_nil ?_
      refine th_n ?_
      refine wp_seq ?_
      refine region_seq ?_
      revert a
      refine mA rfl rfl ?_
      refine mA rfl rfl ?_
      refine sA (v := .pointer (some ⟨ab A1, ao A1 + j * 2, none⟩)) rfl (fun _ henv => rn_idxR (i := j) henv Tryd.underlying33 (ty_anvil_anvilref02_Int.size) rfl rfl (by omega) rfl (show (pfRow fM FM 2 A1 n1 c1 es1).P _ from (hst.pat (k := 3) rfl)).1) ?_
      refine sA (v := .agg #[.bool (neg y), .slice C (dl y) d]) rfl (fun _ henv => rn_loadE (i := j) (e := (C, d, y)) henv ty_anvil_anvilref02_Int rfl rfl fM_len (show (pfRow fM FM 2 A1 n1 c1 es1).P _ from (hst.pat (k := 3) rfl)).1 (by omega) he1 rfl) ?_
      intro a henv
      refine seq_step rfl (op_alloc (c := #[.bool (neg 0), .slice none (dl 0) 0]) henv hst rfl zero_anvil_anvilref02_Int rcells ?_)
      clear henv hst a; intro a w58 g57 henv hst
      refine seq_step rfl (op_store (k := 0) (c' := #[.bool (neg y), .slice C (dl y) d]) henv hst (ty_anvil_anvilref02_Int.size) rfl rfl rfl rfl (by simp) rfl rfl ?_)
      clear henv hst a; intro a w59 henv hst
      refine wpList_nil ?_
      refine th_n ?_
      refine wp_seq ?_
      refine region_seq ?_
      revert a
      refine mA rfl rfl ?_
      refine sA (v := .agg #[.bool (neg x), .slice A (zl x) c]) rfl (fun _ henv => rn_load0 henv ty_anvil_integer_Int rfl (hst.oat (k := 1) rfl) rfl) ?_
      refine sA (v := .agg #[.bool (neg y), .slice C (dl y) d]) rfl (fun _ henv => rn_load0 henv ty_anvil_anvilref02_Int rfl (hst.oat (k := 0) rfl) rfl) ?_
      intro a henv
      refine seq_step rfl (op_callc (vs := #[.agg #[.bool (neg x), .slice A (zl x) c], .agg #[.bool (neg y), .slice C (dl y) d]]) henv rfl Tryd.call32 rfl rfl (calls_app (by simp) (is_one (x := x) (y := y) (show ZIn _ A c x from hst.pat (k := 1) rfl) (show RIn _ C d y from hst.pat (k := 0) rfl) (by omega) (by omega))) ?_)
      rintro e w60 ⟨rfl, hb⟩
      refine ⟨_, rfl, ?_⟩
      clear henv a; intro a henv
      replace hst := hst.call hb
      clear hb
      refine sv (v := .bool (!(decide (x = y)))) henv rfl (rn_un henv rfl rfl) ?_
      clear henv a; intro a henv
      refine wpList_nil ?_
      refine th_n ?_
      refine if_split henv rfl (fun hc61 => ?_) (fun hc61 => ?_)
      · have hxy : ¬ x = y := by have := hc61; simpa using this
        refine wp_seq ?_
        refine region_seq ?_
        refine sv (v := .bool false) henv rfl (rn_assign henv rfl) ?_
        clear henv a; intro a henv
        refine wpList_nil ?_
        refine th_n ?_
        refine wp_ret ?_
        refine bl_r (th_r (th_r (bl_r (th_r ?_))))
        refine leave henv (res1 Tryd.results31 (RV.tmp henv rfl)) ?_
        first | exact ⟨by rw [decide_eq_false (eq_ne hz0 hlen0 hz1 hlen1 hne)], hst.below⟩ | exact ⟨by rw [decide_eq_false (eq_at hz0 hz1 he0 he1 hxy)], hst.below⟩
      · have hxy : x = y := by have := hc61; simpa using this
        refine wp_skip ?_
        refine bl_n (th_n ?_)
        refine region_seq ?_
        revert a
        refine sA (v := .int .i64 (j + 1 : Nat)) rfl (fun _ henv => rn_add henv rfl rfl (by rw [IntWalk.i64_in _ (by omega)]; omega)) ?_
        refine mA rfl rfl ?_
        intro a henv
        refine wpList_nil ?_
        exact th_n ⟨_, (by omega), ⟨j + 1, rfl, henv.sub ⟨rfl, rfl, rfl, rfl, rfl, trivial⟩, hst.pick [] [2, 3] (by decide), (by omega), (by rw [zts hz0 he0, zts hz1 he1, he, hxy])⟩⟩
    · have hjn : j = n0 := by have := of_decide_eq_false hc53; omega
      refine wp_exit ?_
      refine th_x (th_x (bl_x (th_n ?_)))
      refine wp_seq ?_
      refine region_seq ?_
      refine sv (v := .bool true) henv rfl (rn_assign henv rfl) ?_
      clear henv a; intro a henv
      refine wpList_nil ?_
      refine th_n ?_
      refine wp_ret ?_
      refine leave henv (res1 Tryd.results31 (RV.tmp henv rfl)) ?_
      have hall : xs = ys := eq_full hz0 hlen0 hz1 hlen1 (hnn ▸ rfl) (hjn ▸ he)
      exact ⟨by rw [decide_eq_true hall], hst.below⟩
set_option maxRecDepth 100000 in
set_option maxHeartbeats 2000000 in
theorem l_is {A0 A1 : Option Addr} {n0 n1 c0 c1 : Nat} {es0 es1 : List NE} {xs ys : List Int} {w0 : World} (h0 : (pfRow fN FN 2 A0 n0 c0 es0).P w0) (hz0 : es0.map zz = xs) (h1 : (pfRow fM FM 2 A1 n1 c1 es1).P w0) (hz1 : es1.map zz = ys) (hk0 : Zk 20000 xs) (hk1 : Zk 20000 ys) :
    Calls Tryd.prog 16 #[.slice A0 n0 c0, .slice A1 n1 c1] w0 fun e w' => e = .returned (.bool (decide (xs = ys))) ∧ Below w0.heap.size w0 w' := by
  refine enter Tryd.func16 rfl Tryd.ntmps16 rfl ?_
  intro a henv hst
  have hlen0 := h0.2.1
  have hlen1 := h1.2.1
  have hbig0 := Nat.le_trans h0.1.cap h0.1.big
  unfold maxLen at hbig0
  replace hst := (hst.argRow h1).argRow h0
  clear h0 h1
  refine wp_seq ?_
  refine region_seq ?_
  refine sv (v := .bool false) henv rfl (rn_assign henv rfl) ?_
  clear henv a; intro a henv
  refine wpList_nil ?_
  refine th_n ?_
  refine wp_seq ?_
  refine region_seq ?_
  revert a
  refine mA rfl rfl ?_
  refine mA rfl rfl ?_
  intro a henv
  refine seq_step rfl (op_call henv rfl Tryd.call31 rfl (eq_func (hst.pat (k := 0) rfl) hz0 (hst.pat (k := 1) rfl) hz1 hk0 hk1) ?_)
  rintro e w51 ⟨rfl, hb⟩
  refine ⟨_, rfl, ?_⟩
  clear henv a; intro a henv
  replace hst := hst.call hb
  clear hb
  refine sv (v := .bool (decide (xs = ys))) henv rfl (rn_assign henv rfl) ?_
  clear henv a; intro a henv
  refine wpList_nil ?_
  refine th_n ?_
  refine wp_ret ?_
  refine leave henv (res1 Tryd.results16 (RV.tmp henv rfl)) ?_
  exact ⟨rfl, hst.below⟩
end Go.Proofs.YtoojllfijfjmoaaDoor.W

/- split.Parts. Printed by pv/gen_sp3.py. No condition. -/
namespace Go.Proofs.YtoojllfijfjmoaaDoor.W
open Go.RowKit Anv Go.Lib
theorem fN_one (e : NE) (v : Value) (h : v ∈ fN e) : v.oneCell' = true := by
  unfold fN at h
  rcases List.mem_cons.1 h with rfl | h
  · rfl
  · rcases List.mem_cons.1 h with rfl | h
    · rfl
    · cases h
theorem take_drop_mem {α : Type} {l bs : List α} {n m : Nat} (x : α) (h : x ∈ l.take n ++ bs.drop m) : x ∈ l ++ bs := by
  rcases List.mem_append.1 h with h | h
  · exact List.mem_append.2 (.inl (List.mem_of_mem_take h))
  · exact List.mem_append.2 (.inr (List.mem_of_mem_drop h))
def LRow (w : World) (v : Value) (n : Nat) (zss : List (List Int)) : Prop := ∃ A c vs, v = .slice A n c ∧ (pfRow fL FL 1 A n c vs).P w ∧ vs.map lz = zss
def partL (xs : List Int) (m j : Nat) : List Int := (xs.drop (j * m)).take m ++ List.replicate (m - (xs.drop (j * m)).length) 0
theorem part_rest {es : List NE} {xs : List Int} {j m n : Nat} (hz : es.map zz = xs.drop (j * m)) (hl : es.length = n) : (es.drop (min n m)).map zz = xs.drop ((j + 1) * m) := by
  rw [List.map_drop, hz, List.drop_drop, Nat.succ_mul]
  have h : (xs.drop (j * m)).length = n := by rw [← hz, List.length_map, hl]
  rw [List.length_drop] at h
  rcases Nat.le_total n m with hm | hm
  · rw [Nat.min_eq_left hm, List.drop_eq_nil_of_le (by omega), List.drop_eq_nil_of_le (by omega)]
  · rw [Nat.min_eq_right hm]
theorem part_one {es : List NE} {xs : List Int} {j m n : Nat} (hz : es.map zz = xs.drop (j * m)) (hl : es.length = n) : (es.take m ++ (List.replicate m ((none, 0, 0) : NE)).drop n).map zz = partL xs m j := by
  have h : (xs.drop (j * m)).length = n := by rw [← hz, List.length_map, hl]
  unfold partL
  rw [List.map_append, List.map_take, hz, List.drop_replicate, List.map_replicate, h]
theorem part_len {es : List NE} {m n : Nat} (hl : es.length = n) : (es.take m ++ (List.replicate m ((none, 0, 0) : NE)).drop n).length = m := by
  rw [List.length_append, List.length_take, List.length_drop, List.length_replicate, hl]
  omega
theorem part_step {os : List LE} {xs : List Int} {j m n c : Nat} {A : Option Addr} {es : List NE} (ho : os.map lz = (List.range j).map (partL xs m)) (h : es.map zz = partL xs m j) : (os ++ [(A, n, c, es)]).map lz = (List.range (j + 1)).map (partL xs m) := by
  rw [List.map_append, ho, List.range_succ, List.map_append]
  congr 1
  exact congrArg (fun l => [l]) h
set_option maxRecDepth 100000 in
set_option maxHeartbeats 2000000 in
theorem sp_parts {A0 : Option Addr} {n0 c0 : Nat} {es0 : List NE} {xs : List Int} {k m : Nat} {w0 : World} (h0 : (pfRow fN FN 2 A0 n0 c0 es0).P w0) (hz0 : es0.map zz = xs) (hn0 : n0 ≤ 4096) (hk1 : 1 ≤ k) (hk8 : k ≤ 8) (hm1 : 1 ≤ m) (hm4 : m ≤ 4096) (hkm : n0 ≤ k * m) (hkm2 : k * m ≤ 32768) :
    Calls Tryd.prog 12 #[.slice A0 n0 c0, .int .i64 (k : Nat), .int .i64 (m : Nat)] w0 fun e w' => ∃ v, e = .returned (.tuple #[v, .int .i64 0]) ∧ LRow w' v k ((List.range k).map (partL xs m)) ∧ Below w0.heap.size w0 w' := by
  refine enter Tryd.func12 rfl Tryd.ntmps12 rfl ?_
  intro a henv hst
  have hlen0 := h0.2.1
  have hbig0 := Nat.le_trans h0.1.cap h0.1.big
  unfold maxLen at hbig0
  replace hst := hst.argRow h0
  clear h0
  refine wp_seq ?_
  refine region_seq ?_
  revert a
  refine aA rfl rfl ?_
  refine aA rfl rfl ?_
  intro a henv
  refine wpList_nil ?_
  refine th_n ?_
  refine wp_seq ?_
  refine wp_block ?_
  refine wp_seq ?_
  refine region_seq ?_
  revert a
  refine mA rfl rfl ?_
  refine sA (v := .bool (decide (((k : Nat) : Int) < (1 : Int)))) rfl (fun _ henv => rn_bin henv rfl rfl rfl) ?_
  intro a henv
  rw [show (decide (((k : Nat) : Int) < (1 : Int))) = false from (decide_eq_false (by omega))] at henv
  revert a
  refine mA rfl rfl ?_
  refine gA (v := .int .i64 (k : Nat)) rfl rfl rfl rfl (fun _ henv => rn_move henv rfl) ?_
  refine gA (v := .bool (decide (((k : Nat) : Int) > (8 : Int)))) rfl rfl rfl rfl (fun _ henv => rn_bin henv rfl rfl rfl) ?_
  intro a henv
  rw [show (decide (((k : Nat) : Int) > (8 : Int))) = false from (decide_eq_false (by omega))] at henv
  revert a
  refine sA (v := .bool false) rfl (fun _ henv => rn_pick henv rfl rfl) ?_
  refine mA rfl rfl ?_
  refine gA (v := .int .i64 (m : Nat)) rfl rfl rfl rfl (fun _ henv => rn_move henv rfl) ?_
  refine gA (v := .bool (decide (((m : Nat) : Int) < (1 : Int)))) rfl rfl rfl rfl (fun _ henv => rn_bin henv rfl rfl rfl) ?_
  intro a henv
  rw [show (decide (((m : Nat) : Int) < (1 : Int))) = false from (decide_eq_false (by omega))] at henv
  revert a
  refine sA (v := .bool false) rfl (fun _ henv => rn_pick henv rfl rfl) ?_
  refine mA rfl rfl ?_
  refine gA (v := .int .i64 (m : Nat)) rfl rfl rfl rfl (fun _ henv => rn_move henv rfl) ?_
  refine gA (v := .bool (decide (((m : Nat) : Int) > (4096 : Int)))) rfl rfl rfl rfl (fun _ henv => rn_bin henv rfl rfl rfl) ?_
  intro a henv
  rw [show (decide (((m : Nat) : Int) > (4096 : Int))) = false from (decide_eq_false (by omega))] at henv
  revert a
  refine sA (v := .bool false) rfl (fun _ henv => rn_pick henv rfl rfl) ?_
  refine aA rfl rfl ?_
  intro a henv
  refine wpList_nil ?_
  refine th_n ?_
  refine if_f henv rfl (rfl) ?_
  refine wp_seq ?_
  refine region_seq ?_
  revert a
  refine mA rfl rfl ?_
  refine sA (v := .int .i64 (n0 : Nat)) rfl (fun _ henv => rn_len henv Tryd.underlying24 rfl) ?_
  refine sA (v := .bool (decide (((n0 : Nat) : Int) > (4096 : Int)))) rfl (fun _ henv => rn_bin henv rfl rfl rfl) ?_
  intro a henv
  rw [show (decide (((n0 : Nat) : Int) > (4096 : Int))) = false from (decide_eq_false (by omega))] at henv
  refine sv (v := .bool false) henv rfl (rn_assign henv rfl) ?_
  clear henv a; intro a henv
  refine wpList_nil ?_
  refine th_n ?_
  refine if_f henv rfl (rfl) ?_
  refine wp_seq ?_
  refine region_seq ?_
  revert a
  refine mA rfl rfl ?_
  refine mA rfl rfl ?_
  refine sA (v := .int .i64 (k * m : Nat)) rfl (fun _ henv => rn_mul henv rfl rfl (by rw [IntWalk.i64_in _ (by omega)]; omega)) ?_
  refine mA rfl rfl ?_
  refine sA (v := .int .i64 (n0 : Nat)) rfl (fun _ henv => rn_len henv Tryd.underlying24 rfl) ?_
  refine sA (v := .bool (decide (((k * m : Nat) : Int) < ((n0 : Nat) : Int)))) rfl (fun _ henv => rn_bin henv rfl rfl rfl) ?_
  intro a henv
  rw [show (decide (((k * m : Nat) : Int) < ((n0 : Nat) : Int))) = false from (decide_eq_false (by omega))] at henv
  refine sv (v := .bool false) henv rfl (rn_assign henv rfl) ?_
  clear henv a; intro a henv
  refine wpList_nil ?_
  refine th_n ?_
  refine if_f henv rfl (rfl) ?_
  refine wp_skip ?_
  refine bl_n (th_n ?_)
  refine wp_seq ?_
  refine region_seq ?_
  refine sv (v := .slice none 0 0) henv rfl (rn_assign henv rfl) ?_
  clear henv a; intro a henv
  refine wpList_nil ?_
  refine th_n ?_
  refine wp_seq ?_
  refine wp_seq ?_
  refine region_seq ?_
  revert a
  refine mA rfl rfl ?_
  refine mA rfl rfl ?_
  intro a henv
  refine wpList_nil ?_
  refine th_n ?_
  refine wp_block ?_
  replace hst := (hst.addRowS notU 24 1).nilEs FL
  replace hst : St w0 _ [rowS notU 24 1 none 0 0 (fl fL ([]))] [pfEs FL ([]), pfRow fN FN 2 A0 n0 c0 es0] := hst
  refine wp_loop_ghost (fun mz a w => ∃ j : Nat, ∃ A : Option Addr, ∃ n : Nat, ∃ c : Nat, ∃ es : List NE, ∃ B : Option Addr, ∃ d : Nat, ∃ os : List LE, k - j = mz ∧ Env 54 a [(0, .slice A n c), (1, .int .i64 (k : Nat)), (2, .int .i64 (m : Nat)), (8, .slice B j d), (37, .int .i64 (k : Nat)), (38, .int .i64 (j : Nat))] ∧ St w0 w [rowS notU 24 1 B j d (fl fL os)] [pfRow fN FN 2 A n c es, pfEs FL os] ∧ j ≤ k ∧ n = n0 - j * m ∧ es.map zz = xs.drop (j * m) ∧ os.map lz = (List.range j).map (partL xs m)) _ ⟨0, A0, n0, c0, es0, none, 0, [], rfl, henv.sub ⟨rfl, rfl, rfl, rfl, rfl, rfl, trivial⟩, hst.pick [0] [1, 0] (by decide), (Nat.zero_le _), (by omega), (by rw [Nat.zero_mul]; exact hz0), rfl⟩ ?_
  clear henv hst a
  rintro mz a w51 ⟨j, A, n, c, es, B, d, os, rfl, henv, hst, hj, hn, hz, ho⟩
  refine wp_seq ?_
  refine region_seq ?_
  refine sv (v := .bool (decide (((j : Nat) : Int) < ((k : Nat) : Int)))) henv rfl (rn_bin henv rfl rfl rfl) ?_
  clear henv a; intro a henv
  refine wpList_nil ?_
  refine th_n ?_
  refine wp_seq ?_
  refine if_split henv rfl (fun hc52 => ?_) (fun hc52 => ?_)
  · have hlt : j < k := by have := of_decide_eq_true hc52; omega
    have hel := (hst.pat (k := 0) rfl).2.1
    refine wp_skip ?_
    refine th_n ?_
    refine wp_seq ?_
    refine wp_block ?_
    refine wp_seq ?_
    refine region_seq ?_
    refine sv (v := .int .i64 (m : Nat)) henv rfl (rn_move henv rfl) ?_
    clear henv a; intro a henv
    refine seq_step rfl (op_makeS (f := fN) (e0 := (none, 0, 0)) (q := notU) (n := m) henv hst rfl Tryd.underlying24 inf_anvil_integer_Int rfl rfl fN_zero rfl rfl rfl (by omega) (by unfold maxLen; omega) ?_)
    clear henv hst a; intro a w54 g53 henv hst
    replace hst := hst.addNs (es_zeros m _) ⟨nou_rowS, nou_rowS, trivial⟩
    refine sv (v := .slice (some ⟨g53, 0, none⟩) m m) henv rfl (rn_assign henv rfl) ?_
    clear henv a; intro a henv
    refine wpList_nil ?_
    refine th_n ?_
    refine wp_seq ?_
    refine region_seq ?_
    revert a
    refine mA rfl rfl ?_
    refine mA rfl rfl ?_
    intro a henv
    refine seq_step rfl (op_copyS (f := fN) (es := (List.replicate m (none, 0, 0))) (es2 := es) (k := 0) henv hst rfl Tryd.underlying24 (ty_anvil_integer_Int.size) rfl rfl rfl (hst.pat (k := 1) rfl).1 fN_len List.length_replicate (hst.pat (k := 1) rfl).2.1 (fun _ => rfl) fN_one ?_)
    clear henv hst a; intro a w55 henv hst
    replace hst := ((hst.rowEs (i := 1) rfl).appEs (i := 0) (j := 1) rfl rfl).subEs (es' := (es.take m ++ (List.replicate m (none, 0, 0)).drop n)) (i := 0) rfl take_drop_mem
    replace hst := hst.pick [0, 1] [0, 3, 4, 5] (by decide)
    replace hst : St w0 _ [rowS notU 39 2 (some ⟨g53, 0, none⟩) m m (fl fN (es.take m ++ (List.replicate m (none, 0, 0)).drop n)), rowS notU 24 1 B j d (fl fL os)] [pfEs FN (es.take m ++ (List.replicate m (none, 0, 0)).drop n), pfEs FN (List.replicate m (none, 0, 0)), pfRow fN FN 2 A n c es, pfEs FL os] := hst
    refine sv (v := .int .i64 (min n m : Nat)) henv rfl (rn_assign henv rfl) ?_
    clear henv a; intro a henv
    refine wpList_nil ?_
    replace hst := hst.giveRow (k := 0) (j := 0) rfl rfl (part_len hel)
    replace hst : St w0 _ [rowS notU 24 1 B j d (fl fL os)] [pfRow fN FN 2 (some ⟨g53, 0, none⟩) m m (es.take m ++ (List.replicate m (none, 0, 0)).drop n), pfRd 2 (some ⟨g53, 0, none⟩) m m (fl fN (es.take m ++ (List.replicate m (none, 0, 0)).drop n)), pfEs FN (es.take m ++ (List.replicate m (none, 0, 0)).drop n), pfEs FN (List.replicate m (none, 0, 0)), pfRow fN FN 2 A n c es, pfEs FL os] := hst
    refine th_n ?_
    refine wp_seq ?_
    refine region_seq ?_
    revert a
    refine mA rfl rfl ?_
    refine mA rfl rfl ?_
    refine sA (v := .slice (slA A c (min n m) 2) (n - min n m) (c - min n m)) rfl (fun _ henv => rn_sliceFromS (m := min n m) (z := 2) henv Tryd.underlying24 (ty_anvil_integer_Int.size) rfl rfl (by omega)) ?_
    refine aA rfl rfl ?_
    intro a henv
    refine wpList_nil ?_
    replace hst := hst.rowFrom (i := 4) rfl (min n m) fN_len (by omega)
    replace hst : St w0 _ [rowS notU 24 1 B j d (fl fL os)] [pfRow fN FN 2 (slA A c (min n m) 2) (n - min n m) (c - min n m) (es.drop (min n m)), pfRow fN FN 2 (some ⟨g53, 0, none⟩) m m (es.take m ++ (List.replicate m (none, 0, 0)).drop n), pfRd 2 (some ⟨g53, 0, none⟩) m m (fl fN (es.take m ++ (List.replicate m (none, 0, 0)).drop n)), pfEs FN (es.take m ++ (List.replicate m (none, 0, 0)).drop n), pfEs FN (List.replicate m (none, 0, 0)), pfRow fN FN 2 A n c es, pfEs FL os] := hst
    refine th_n ?_
    refine region_seq ?_
    revert a
    refine mA rfl rfl ?_
    refine mA rfl rfl ?_
    intro a henv
    refine seq_step rfl (op_buildSlice (z := 1) (pv := #[(0, .slice (some ⟨g53, 0, none⟩) m m)]) (c := #[.slice (some ⟨g53, 0, none⟩) m m]) henv hst rfl Tryd.underlying26 (ty__integer_Int.size) zero__integer_Int (by decide) (by decide) rfl (by kernel_rfl) ?_)
    clear henv hst a; intro a w57 g56 henv hst
    refine seq_step rfl (op_appendS (k := 1) (j := 0) henv hst rfl Tryd.underlying26 inf__integer_Int rfl rfl rfl rfl rfl rfl rfl rfl rfl rfl rfl (by unfold maxLen; omega) (by omega) ?_)
    clear henv hst a; intro a w60 g58 c59 henv hst
    rw [show fl fL os ++ (#[.slice (some ⟨g53, 0, none⟩) m m] : Array Value).toList = fl fL (os ++ [((some ⟨g53, 0, none⟩ : Option Addr), m, m, (es.take m ++ (List.replicate m (none, 0, 0)).drop n))]) from fl_snoc (f := fL) os ((some ⟨g53, 0, none⟩ : Option Addr), m, m, (es.take m ++ (List.replicate m (none, 0, 0)).drop n))] at hst
    replace hst := hst.snocEs (e := ((some ⟨g53, 0, none⟩ : Option Addr), m, m, (es.take m ++ (List.replicate m (none, 0, 0)).drop n))) (i := 6) (j := 1) rfl rfl
    refine sv (v := .slice (some ⟨g58, 0, none⟩) (j + 1) c59) henv rfl (rn_assign henv rfl) ?_
    clear henv a; intro a henv
    refine wpList_nil ?_
    refine bl_n (th_n ?_)
    refine region_seq ?_
    revert a
    refine sA (v := .int .i64 (j + 1 : Nat)) rfl (fun _ henv => rn_add henv rfl rfl (by rw [IntWalk.i64_in _ (by omega)]; omega)) ?_
    refine mA rfl rfl ?_
    intro a henv
    refine wpList_nil ?_
    exact th_n ⟨_, (by omega), ⟨j + 1, (slA A c (min n m) 2), (n - min n m), (c - min n m), (es.drop (min n m)), (some ⟨g58, 0, none⟩), c59, (os ++ [((some ⟨g53, 0, none⟩ : Option Addr), m, m, (es.take m ++ (List.replicate m (none, 0, 0)).drop n))]), rfl, henv.sub ⟨rfl, rfl, rfl, rfl, rfl, rfl, trivial⟩, hst.pick [1] [1, 0] (by decide), (by omega), (by rw [Nat.succ_mul]; omega), (part_rest hz hel), (part_step ho (part_one hz hel))⟩⟩
  · obtain rfl : j = k := by have := of_decide_eq_false hc52; omega
    refine wp_exit ?_
    refine th_x (th_x (bl_x (th_n ?_)))
    refine wp_seq ?_
    refine region_seq ?_
    revert a
    refine mA rfl rfl ?_
    refine aA rfl rfl ?_
    refine aA rfl rfl ?_
    intro a henv
    refine wpList_nil ?_
    refine th_n ?_
    refine wp_ret ?_
    refine leave henv (res2 Tryd.results12 (RV.tmp henv rfl) (RV.tmp henv rfl)) ?_
    exact ⟨_, rfl, ⟨_, _, _, rfl, ⟨rowS_rd (hst.owns (k := 0) rfl), (by have := congrArg List.length ho; simpa using this), hst.pat (k := 1) rfl⟩, ho⟩, hst.below⟩
end Go.Proofs.YtoojllfijfjmoaaDoor.W

/- poly.Degree, split.Join. Printed by pv/gen_sp4.py. No condition. -/
namespace Go.Proofs.YtoojllfijfjmoaaDoor.W
open Go.RowKit Anv Go.Lib
def degN (xs : List Int) : Nat := (xs.reverse.dropWhile (· == 0)).length
theorem deg_nil (xs : List Int) : degN (xs.take 0) = 0 := by rw [List.take_zero]; rfl
theorem deg_snoc0 (xs : List Int) : degN (xs ++ [0]) = degN xs := by simp [degN]
theorem deg_snoc {xs : List Int} {x : Int} (h : x ≠ 0) : degN (xs ++ [x]) = xs.length + 1 := by
  unfold degN
  rw [List.reverse_append, List.reverse_singleton, List.singleton_append, List.dropWhile_cons_of_neg (by simpa using h), List.length_cons, List.length_reverse]
def NRow (w : World) (v : Value) (n : Nat) (zs : List Int) : Prop := ∃ A c es, v = .slice A n c ∧ (pfRow fN FN 2 A n c es).P w ∧ es.map zz = zs
def szN (zss : List (List Int)) (k m : Nat) : Nat → Nat
  | 0 => m
  | i + 1 => max (szN zss k m i) (i * k + (zss.getD i []).length)
def adN (xs : List Int) (p : Nat) (l : List Int) : Nat → List Int
  | 0 => l
  | j + 1 => (adN xs p l j).set (p + j) ((adN xs p l j).getD (p + j) 0 + xs.getD j 0)
def jnN (zss : List (List Int)) (k T : Nat) : Nat → List Int
  | 0 => List.replicate T 0
  | i + 1 => adN (zss.getD i []) (i * k) (jnN zss k T i) (zss.getD i []).length
theorem adN_len (xs : List Int) (p : Nat) (l : List Int) : ∀ j, (adN xs p l j).length = l.length
  | 0 => rfl
  | j + 1 => by rw [adN, List.length_set, adN_len]
theorem jnN_len (zss : List (List Int)) (k T : Nat) : ∀ i, (jnN zss k T i).length = T
  | 0 => List.length_replicate
  | i + 1 => by rw [jnN, adN_len, jnN_len]
theorem sz_ge0 (zss : List (List Int)) (k m : Nat) : ∀ i, m ≤ szN zss k m i
  | 0 => Nat.le_refl _
  | i + 1 => Nat.le_trans (sz_ge0 zss k m i) (Nat.le_max_left ..)
theorem sz_at (zss : List (List Int)) (k m : Nat) {i : Nat} : ∀ {n : Nat}, i < n → i * k + (zss.getD i []).length ≤ szN zss k m n
  | 0, h => by omega
  | n + 1, h => by
    rcases Nat.lt_or_ge i n with h1 | h1
    · exact Nat.le_trans (sz_at zss k m h1) (Nat.le_max_left ..)
    · obtain rfl : i = n := by omega
      exact Nat.le_max_right ..
theorem part_at {es0 : List LE} {zss : List (List Int)} {i n c : Nat} {A : Option Addr} {es : List NE} (hz : es0.map lz = zss) (he : es0[i]? = some (A, n, c, es)) (hl : es.length = n) : zss.getD i [] = es.map zz ∧ (zss.getD i []).length = n := by
  have e : zss.getD i [] = es.map zz := by rw [List.getD_eq_getElem?_getD, ← hz, List.getElem?_map, he]; rfl
  exact ⟨e, by rw [e, List.length_map, hl]⟩
theorem ad_step {ps es : List NE} {xs l : List Int} {p j : Nat} {C E A : Option Addr} {d f c : Nat} {x y : Int} (ho : ps.map zz = adN xs p l j) (hx : xs = es.map zz) (he : es[j]? = some (C, d, x)) (hp : ps[p + j]? = some (E, f, y)) : (ps.set (p + j) (A, c, y + x)).map zz = adN xs p l (j + 1) := by
  have e1 : xs.getD j 0 = x := by rw [hx, List.getD_eq_getElem?_getD, List.getElem?_map, he]; rfl
  have e2 : (adN xs p l j).getD (p + j) 0 = y := by rw [← ho, List.getD_eq_getElem?_getD, List.getElem?_map, hp]; rfl
  rw [adN, e1, e2, ← ho, List.map_set]
theorem zl_addm (x y : Int) : zl (x + y) ≤ max (zl x) (zl y) + 1 := by
  refine nl_le_of_lt ?_
  have h1 : x.natAbs < 4294967296 ^ max (zl x) (zl y) := Nat.lt_of_lt_of_le (lt_nl _) (Nat.pow_le_pow_right (by decide) (Nat.le_max_left ..))
  have h2 : y.natAbs < 4294967296 ^ max (zl x) (zl y) := Nat.lt_of_lt_of_le (lt_nl _) (Nat.pow_le_pow_right (by decide) (Nat.le_max_right ..))
  have h3 := Int.natAbs_add_le x y
  rw [Nat.pow_succ]
  omega
theorem zk_set {a b p c : Nat} {ps : List NE} {A : Option Addr} {v : Int} (h : Zk a (ps.map zz)) (hv : zl v ≤ b) (hab : a ≤ b) : Zk b ((ps.set p (A, c, v)).map zz) := by
  intro z hz
  rw [List.map_set] at hz
  rcases mem_set_cases hz with h1 | h1
  · exact Nat.le_trans (h z h1) hab
  · rw [h1]; exact hv
theorem rd_pre {α : Type} {f : α → List Value} {z n m c : Nat} {w : World} {A : Option Addr} {es : List α} (hz : ∀ e, (f e).length = z) (h : Rd z w A n c (fl f es)) (hm : m ≤ n) : Rd z w A m m (fl f (es.take m)) := by
  have h1 : m * z ≤ n * z := Nat.mul_le_mul_right _ hm
  have h2 := h.len
  rw [fl_take hz]
  refine ⟨by rw [List.length_take]; omega, Nat.le_refl _, Nat.le_trans hm (Nat.le_trans h.cap h.big), fun hp => ?_⟩
  obtain ⟨b, off, rfl, hlt, hc⟩ := h.cells (by omega)
  exact ⟨b, off, rfl, hlt, fun i hi => by rw [hc i (by omega), List.getElem?_take_of_lt hi]⟩
set_option maxRecDepth 100000 in
set_option maxHeartbeats 2000000 in
theorem p_deg {A0 : Option Addr} {n0 c0 : Nat} {es0 : List NE} {xs : List Int} {w0 : World} (h0 : (pfRow fN FN 2 A0 n0 c0 es0).P w0) (hz0 : es0.map zz = xs) (hn : n0 ≤ 100000000) :
    Calls Tryd.prog 37 #[.slice A0 n0 c0] w0 fun e w' => e = .returned (.int .i64 (((degN xs : Nat) : Int) - 1)) ∧ Below w0.heap.size w0 w' := by
  refine enter Tryd.func37 rfl Tryd.ntmps37 rfl ?_
  intro a henv hst
  have hlen0 := h0.2.1
  have hbig0 := Nat.le_trans h0.1.cap h0.1.big
  unfold maxLen at hbig0
  replace hst := hst.argRow h0
  clear h0
  refine wp_seq ?_
  refine region_seq ?_
  refine sv (v := .int .i64 0) henv rfl (rn_assign henv rfl) ?_
  clear henv a; intro a henv
  refine wpList_nil ?_
  refine th_n ?_
  refine wp_scope_straight ?_
  refine wp_seq ?_
  refine region_seq ?_
  revert a
  refine mA rfl rfl ?_
  refine sA (v := .int .i64 (n0 : Nat)) rfl (fun _ henv => rn_len henv Tryd.underlying24 rfl) ?_
  refine sA (v := .int .i64 (((n0 : Nat) : Int) - (1 : Int))) rfl (fun _ henv => rn_sub henv rfl rfl (IntWalk.i64_in _ (by omega))) ?_
  refine aA rfl rfl ?_
  intro a henv
  refine wpList_nil ?_
  refine th_n ?_
  refine wp_seq ?_
  refine wp_label ?_
  refine th_n ?_
  refine wp_seq ?_
  refine cut (fun a w => ∃ q : Nat, Env 18 a [(3, .int .i64 (((q : Nat) : Int) - 1))] ∧ St w0 w [] [] ∧ degN xs = q) ?_ ?_
  · refine wp_block ?_
    refine wp_loop_ghost (fun mz a w => ∃ i : Nat, i = mz ∧ Env 18 a [(0, .slice A0 n0 c0), (3, .int .i64 (((i : Nat) : Int) - 1))] ∧ St w0 w [] [pfRow fN FN 2 A0 n0 c0 es0] ∧ i ≤ n0 ∧ degN xs = degN (xs.take i)) _ ⟨n0, rfl, henv.sub ⟨rfl, rfl, trivial⟩, hst.pick [] [0] (by decide), (Nat.le_refl _), (by rw [List.take_of_length_le (by rw [← hz0, List.length_map]; omega)])⟩ ?_
    clear henv hst a
    rintro mz a w51 ⟨i, rfl, henv, hst, hi, hd⟩
    refine wp_seq ?_
    refine wp_seq ?_
    refine region_seq ?_
    revert a
    refine mA rfl rfl ?_
    refine sA (v := .bool (decide (((i : Nat) : Int) - 1 ≥ (0 : Int)))) rfl (fun _ henv => rn_bin henv rfl rfl rfl) ?_
    intro a henv
    refine wpList_nil ?_
    refine th_n ?_
    refine if_split henv rfl (fun hc52 => ?_) (fun hc52 => ?_)
    · obtain ⟨j, hj⟩ : ∃ j : Nat, ((i : Nat) : Int) - 1 = (j : Nat) := ⟨i - 1, by have := of_decide_eq_true hc52; omega⟩
      rw [hj] at henv
      obtain rfl : i = j + 1 := by omega
      clear hj
      obtain ⟨⟨A, c, x⟩, he0⟩ : ∃ e, es0[j]? = some e := ⟨_, List.getElem?_eq_getElem (by omega)⟩
      replace hst := hst.elem (k := 0) rfl he0
      replace hst : St w0 _ [] [pfZ A c x, pfRow fN FN 2 A0 n0 c0 es0] := hst
      refine wp_skip ?_
      refine th_n ?_
      refine wp_seq ?_
      refine wp_block ?_
      refine wp_seq ?_
      refine region_seq ?_
      revert a
      refine mA rfl rfl ?_
      refine mA rfl rfl ?_
      refine sA (v := .pointer (some ⟨ab A0, ao A0 + j * 2, none⟩)) rfl (fun _ henv => rn_idxR (i := j) henv Tryd.underlying24 (ty_anvil_integer_Int.size) rfl rfl (by omega) rfl (show (pfRow fN FN 2 A0 n0 c0 es0).P _ from (hst.pat (k := 1) rfl)).1) ?_
      refine sA (v := .agg #[.bool (neg x), .slice A (zl x) c]) rfl (fun _ henv => rn_loadE (i := j) (e := (A, c, x)) henv ty_anvil_integer_Int rfl rfl fN_len (show (pfRow fN FN 2 A0 n0 c0 es0).P _ from (hst.pat (k := 1) rfl)).1 (by omega) he0 rfl) ?_
      intro a henv
      refine seq_step rfl (op_call henv rfl Tryd.call56 rfl (sign_z (z := x)) ?_)
      rintro e w53 ⟨rfl, hb⟩
      refine ⟨_, rfl, ?_⟩
      clear henv a; intro a henv
      replace hst := hst.call hb
      clear hb
      refine sv (v := .bool (x.sign != (0 : Int))) henv rfl (rn_bin henv rfl rfl rfl) ?_
      clear henv a; intro a henv
      refine wpList_nil ?_
      refine th_n ?_
      refine if_split henv rfl (fun hc54 => ?_) (fun hc54 => ?_)
      · have hx0 : x ≠ 0 := fun h0 => by rw [h0] at hc54; simp at hc54
        rw [show ((j : Nat) : Int) = ((j + 1 : Nat) : Int) - 1 by omega] at henv
        refine wp_exit ?_
        refine bl_o rfl (th_x (th_x (bl_x (th_n ?_))))
        exact ⟨j + 1, henv.sub ⟨rfl, trivial⟩, hst.pick [] [] (by decide), (hd.trans (by rw [zts hz0 he0, deg_snoc hx0, List.length_take, ← hz0, List.length_map]; omega))⟩
      · have hx0 : x = 0 := Int.sign_eq_zero_iff_zero.1 (by have := hc54; simpa using this)
        refine wp_skip ?_
        refine bl_n (th_n ?_)
        refine region_seq ?_
        revert a
        refine mA rfl rfl ?_
        refine sA (v := .int .i64 (((j : Nat) : Int) - (1 : Int))) rfl (fun _ henv => rn_sub henv rfl rfl (IntWalk.i64_in _ (by omega))) ?_
        refine aA rfl rfl ?_
        intro a henv
        refine wpList_nil ?_
        exact th_n ⟨_, (by omega), ⟨j, rfl, henv.sub ⟨rfl, rfl, trivial⟩, hst.pick [] [1] (by decide), (by omega), (by rw [hd, zts hz0 he0, hx0, deg_snoc0])⟩⟩
    · obtain rfl : i = 0 := by have := of_decide_eq_false hc52; omega
      refine wp_exit ?_
      refine th_x (th_x (bl_x (th_n ?_)))
      exact ⟨0, henv.sub ⟨rfl, trivial⟩, hst.pick [] [] (by decide), (hd.trans (deg_nil _))⟩
  clear henv hst a
  rintro a w55 ⟨q, henv, hst, hq⟩
  refine wp_seq ?_
  refine region_seq ?_
  revert a
  refine mA rfl rfl ?_
  refine aA rfl rfl ?_
  intro a henv
  refine wpList_nil ?_
  refine th_n ?_
  refine wp_ret ?_
  refine sc_r ?_
  refine leave henv (res1 Tryd.results37 (RV.tmp henv rfl)) ?_
  exact ⟨by rw [hq], hst.below⟩
set_option maxRecDepth 100000 in
set_option maxHeartbeats 4000000 in
theorem sp_join_ok {A0 : Option Addr} {n0 c0 : Nat} {es0 : List LE} {zss : List (List Int)} {k m : Nat} {w0 : World} (h0 : (pfRow fL FL 1 A0 n0 c0 es0).P w0) (hz0 : es0.map lz = zss) (hlen : ∀ v ∈ es0, v.2.1 ≤ 8192) (hxk : ∀ v ∈ es0, ∀ x ∈ v.2.2.2, zl (zz x) ≤ 1000) (hn0 : n0 ≤ 15) (hk1 : 1 ≤ k) (hk4 : k ≤ 4096) (hm8 : m ≤ 8192) (hm0 : m ≠ 0) (hdg : ¬ (((degN (jnN zss k (szN zss k m n0) n0) : Nat) : Int) - 1 ≥ (m : Nat))) :
    Calls Tryd.prog 18 #[.slice A0 n0 c0, .int .i64 (k : Nat), .int .i64 (m : Nat)] w0 fun e w' => ∃ v, e = .returned (.tuple #[v, .int .i64 0]) ∧ NRow w' v m ((jnN zss k (szN zss k m n0) n0).take m) ∧ Below w0.heap.size w0 w' := by
  refine enter Tryd.func18 rfl Tryd.ntmps18 rfl ?_
  intro a henv hst
  have hlen0 := h0.2.1
  have hbig0 := Nat.le_trans h0.1.cap h0.1.big
  unfold maxLen at hbig0
  replace hst := hst.argRow h0
  clear h0
  refine wp_seq ?_
  refine region_seq ?_
  revert a
  refine aA rfl rfl ?_
  refine aA rfl rfl ?_
  intro a henv
  refine wpList_nil ?_
  refine th_n ?_
  refine wp_seq ?_
  refine wp_seq ?_
  refine region_seq ?_
  revert a
  refine mA rfl rfl ?_
  refine sA (v := .bool (decide (((k : Nat) : Int) < (1 : Int)))) rfl (fun _ henv => rn_bin henv rfl rfl rfl) ?_
  intro a henv
  rw [show (decide (((k : Nat) : Int) < (1 : Int))) = false from (decide_eq_false (by omega))] at henv
  revert a
  refine mA rfl rfl ?_
  refine gA (v := .int .i64 (k : Nat)) rfl rfl rfl rfl (fun _ henv => rn_move henv rfl) ?_
  refine gA (v := .bool (decide (((k : Nat) : Int) > (4096 : Int)))) rfl rfl rfl rfl (fun _ henv => rn_bin henv rfl rfl rfl) ?_
  intro a henv
  rw [show (decide (((k : Nat) : Int) > (4096 : Int))) = false from (decide_eq_false (by omega))] at henv
  revert a
  refine sA (v := .bool false) rfl (fun _ henv => rn_pick henv rfl rfl) ?_
  refine mA rfl rfl ?_
  refine gA (v := .int .i64 (m : Nat)) rfl rfl rfl rfl (fun _ henv => rn_move henv rfl) ?_
  refine gA (v := .bool (decide (((m : Nat) : Int) < (0 : Int)))) rfl rfl rfl rfl (fun _ henv => rn_bin henv rfl rfl rfl) ?_
  intro a henv
  rw [show (decide (((m : Nat) : Int) < (0 : Int))) = false from (decide_eq_false (by omega))] at henv
  revert a
  refine sA (v := .bool false) rfl (fun _ henv => rn_pick henv rfl rfl) ?_
  refine mA rfl rfl ?_
  refine gA (v := .int .i64 (m : Nat)) rfl rfl rfl rfl (fun _ henv => rn_move henv rfl) ?_
  refine gA (v := .bool (decide (((m : Nat) : Int) > (8192 : Int)))) rfl rfl rfl rfl (fun _ henv => rn_bin henv rfl rfl rfl) ?_
  intro a henv
  rw [show (decide (((m : Nat) : Int) > (8192 : Int))) = false from (decide_eq_false (by omega))] at henv
  refine sv (v := .bool false) henv rfl (rn_pick henv rfl rfl) ?_
  clear henv a; intro a henv
  refine wpList_nil ?_
  refine th_n ?_
  refine if_f henv rfl (rfl) ?_
  refine wp_skip ?_
  refine th_n ?_
  refine wp_seq ?_
  refine wp_seq ?_
  refine region_seq ?_
  revert a
  refine mA rfl rfl ?_
  refine sA (v := .int .i64 (n0 : Nat)) rfl (fun _ henv => rn_len henv Tryd.underlying26 rfl) ?_
  refine sA (v := .bool (decide (((n0 : Nat) : Int) > (15 : Int)))) rfl (fun _ henv => rn_bin henv rfl rfl rfl) ?_
  intro a henv
  rw [show (decide (((n0 : Nat) : Int) > (15 : Int))) = false from (decide_eq_false (by omega))] at henv
  refine wpList_nil ?_
  refine th_n ?_
  refine if_f henv rfl (rfl) ?_
  refine wp_skip ?_
  refine th_n ?_
  refine wp_seq ?_
  refine region_seq ?_
  revert a
  refine mA rfl rfl ?_
  refine aA rfl rfl ?_
  intro a henv
  refine wpList_nil ?_
  refine th_n ?_
  refine wp_seq ?_
  refine wp_seq ?_
  refine region_seq ?_
  revert a
  refine mA rfl rfl ?_
  refine sA (v := .int .i64 (n0 : Nat)) rfl (fun _ henv => rn_len henv Tryd.underlying26 rfl) ?_
  refine mA rfl rfl ?_
  intro a henv
  refine wpList_nil ?_
  refine th_n ?_
  refine wp_block ?_
  refine wp_loop_ghost (fun mz a w => ∃ i : Nat, ∃ T : Nat, n0 - i = mz ∧ Env 98 a [(0, .slice A0 n0 c0), (1, .int .i64 (k : Nat)), (2, .int .i64 (m : Nat)), (8, .int .i64 (T : Nat)), (34, .slice A0 n0 c0), (35, .int .i64 (n0 : Nat)), (36, .int .i64 (i : Nat))] ∧ St w0 w [] [pfRow fL FL 1 A0 n0 c0 es0] ∧ i ≤ n0 ∧ T = szN zss k m i ∧ T ≤ 65536) _ ⟨0, m, rfl, henv.sub ⟨rfl, rfl, rfl, rfl, rfl, rfl, rfl, trivial⟩, hst.pick [] [0] (by decide), (Nat.zero_le _), rfl, (by omega)⟩ ?_
  clear henv hst a
  rintro mz a w51 ⟨i, T, rfl, henv, hst, hi, hT, hTb⟩
  refine wp_seq ?_
  refine region_seq ?_
  refine sv (v := .bool (decide (((i : Nat) : Int) < ((n0 : Nat) : Int)))) henv rfl (rn_bin henv rfl rfl rfl) ?_
  clear henv a; intro a henv
  refine wpList_nil ?_
  refine th_n ?_
  refine wp_seq ?_
  refine if_split henv rfl (fun hc52 => ?_) (fun hc52 => ?_)
  · have hlt0 : i < n0 := by have := of_decide_eq_true hc52; omega
    obtain ⟨⟨A, n, c, es⟩, he0⟩ : ∃ e, es0[i]? = some e := ⟨_, List.getElem?_eq_getElem (by omega)⟩
    replace hst := hst.elem (k := 0) rfl he0
    replace hst : St w0 _ [] [pfRow fN FN 2 A n c es, pfRow fL FL 1 A0 n0 c0 es0] := hst
    have hel := (hst.pat (k := 0) rfl).2.1
    have hn8 : n ≤ 8192 := hlen _ (List.mem_of_getElem? he0)
    obtain ⟨hxi, hxl⟩ := part_at hz0 he0 hel
    have hik : i * k ≤ 57344 := Nat.mul_le_mul (show i ≤ 14 by omega) hk4
    refine wp_skip ?_
    refine th_n ?_
    refine wp_seq ?_
    refine wp_block ?_
    refine wp_seq ?_
    refine region_seq ?_
    revert a
    refine mA rfl rfl ?_
    refine sA (v := .pointer (some ⟨ab A0, ao A0 + i * 1, none⟩)) rfl (fun _ henv => rn_idxR (i := i) henv Tryd.underlying26 (ty__integer_Int.size) rfl rfl (by omega) rfl (show (pfRow fL FL 1 A0 n0 c0 es0).P _ from (hst.pat (k := 1) rfl)).1) ?_
    refine sA (v := .slice A n c) rfl (fun _ henv => rn_loadE1 (i := i) (j := 0) (e := (A, n, c, es)) henv ty__integer_Int rfl rfl fL_len (by decide) (show (pfRow fL FL 1 A0 n0 c0 es0).P _ from (hst.pat (k := 1) rfl)).1 (by omega) he0 rfl) ?_
    refine aA rfl rfl ?_
    refine aA rfl rfl ?_
    intro a henv
    refine wpList_nil ?_
    refine th_n ?_
    refine wp_seq ?_
    refine wp_seq ?_
    refine region_seq ?_
    revert a
    refine mA rfl rfl ?_
    refine sA (v := .int .i64 (n : Nat)) rfl (fun _ henv => rn_len henv Tryd.underlying24 rfl) ?_
    refine sA (v := .bool (decide (((n : Nat) : Int) > (8192 : Int)))) rfl (fun _ henv => rn_bin henv rfl rfl rfl) ?_
    intro a henv
    rw [show (decide (((n : Nat) : Int) > (8192 : Int))) = false from (decide_eq_false (by omega))] at henv
    refine wpList_nil ?_
    refine th_n ?_
    refine if_f henv rfl (rfl) ?_
    refine wp_skip ?_
    refine th_n ?_
    refine region_seq ?_
    revert a
    refine mA rfl rfl ?_
    refine mA rfl rfl ?_
    refine mA rfl rfl ?_
    refine sA (v := .int .i64 (i * k : Nat)) rfl (fun _ henv => rn_mul henv rfl rfl (by rw [IntWalk.i64_in _ (by omega)]; omega)) ?_
    refine mA rfl rfl ?_
    refine sA (v := .int .i64 (n : Nat)) rfl (fun _ henv => rn_len henv Tryd.underlying24 rfl) ?_
    refine sA (v := .int .i64 ((i * k) + n : Nat)) rfl (fun _ henv => rn_add henv rfl rfl (by rw [IntWalk.i64_in _ (by omega)]; omega)) ?_
    refine sA (v := .int .i64 (max T ((i * k) + n) : Nat)) rfl (fun _ henv => rn_maxN (m := T) (n := (i * k) + n) henv rfl rfl) ?_
    refine aA rfl rfl ?_
    intro a henv
    refine wpList_nil ?_
    refine bl_n (th_n ?_)
    refine region_seq ?_
    revert a
    refine sA (v := .int .i64 (i + 1 : Nat)) rfl (fun _ henv => rn_add henv rfl rfl (by rw [IntWalk.i64_in _ (by omega)]; omega)) ?_
    refine mA rfl rfl ?_
    intro a henv
    refine wpList_nil ?_
    exact th_n ⟨_, (by omega), ⟨i + 1, max T ((i * k) + n), rfl, henv.sub ⟨rfl, rfl, rfl, rfl, rfl, rfl, rfl, trivial⟩, hst.pick [] [1] (by decide), (by omega), (by rw [hT, szN, hxl]), (by omega)⟩⟩
  · obtain rfl : n0 = i := by have := of_decide_eq_false hc52; omega
    refine wp_exit ?_
    refine th_x (th_x (bl_x (th_n ?_)))
    refine wp_seq ?_
    refine region_seq ?_
    refine sv (v := .int .i64 (T : Nat)) henv rfl (rn_move henv rfl) ?_
    clear henv a; intro a henv
    refine seq_step rfl (op_makeS (f := fN) (e0 := (none, 0, 0)) (q := notU) (n := T) henv hst rfl Tryd.underlying24 inf_anvil_integer_Int rfl rfl fN_zero rfl rfl rfl (by omega) (by unfold maxLen; omega) ?_)
    clear henv hst a; intro a w54 g53 henv hst
    have hmT : m ≤ T := hT ▸ sz_ge0 zss k m n0
    replace hst := hst.addNs (es_zeros T _) ⟨nou_rowS, trivial⟩
    refine sv (v := .slice (some ⟨g53, 0, none⟩) T T) henv rfl (rn_assign henv rfl) ?_
    clear henv a; intro a henv
    refine wpList_nil ?_
    refine th_n ?_
    refine wp_seq ?_
    refine wp_seq ?_
    refine region_seq ?_
    revert a
    refine mA rfl rfl ?_
    refine sA (v := .int .i64 (n0 : Nat)) rfl (fun _ henv => rn_len henv Tryd.underlying26 rfl) ?_
    refine mA rfl rfl ?_
    intro a henv
    refine wpList_nil ?_
    refine th_n ?_
    refine wp_block ?_
    refine wp_loop_ghost (fun mz a w => ∃ i : Nat, ∃ os : List NE, n0 - i = mz ∧ Env 98 a [(1, .int .i64 (k : Nat)), (2, .int .i64 (m : Nat)), (11, .slice (some ⟨g53, 0, none⟩) T T), (55, .slice A0 n0 c0), (56, .int .i64 (n0 : Nat)), (57, .int .i64 (i : Nat))] ∧ St w0 w [rowS notU 39 2 (some ⟨g53, 0, none⟩) T T (fl fN os)] [pfRow fL FL 1 A0 n0 c0 es0, pfEs FN os] ∧ i ≤ n0 ∧ os.map zz = jnN zss k T i ∧ Zk (1000 + 8192 * i) (os.map zz)) _ ⟨0, (List.replicate T (none, 0, 0)), rfl, henv.sub ⟨rfl, rfl, rfl, rfl, rfl, rfl, trivial⟩, hst.pick [0] [1, 0] (by decide), (Nat.zero_le _), (by rw [List.map_replicate]; rfl), (fun z hz => by rw [List.map_replicate] at hz; rw [List.eq_of_mem_replicate hz]; exact Nat.le_trans (by rw [zl_zero]; omega) (Nat.zero_le _))⟩ ?_
    clear henv hst a
    rintro mz a w55 ⟨i, os, rfl, henv, hst, hi, ho, hkz⟩
    refine wp_seq ?_
    refine region_seq ?_
    refine sv (v := .bool (decide (((i : Nat) : Int) < ((n0 : Nat) : Int)))) henv rfl (rn_bin henv rfl rfl rfl) ?_
    clear henv a; intro a henv
    refine wpList_nil ?_
    refine th_n ?_
    refine wp_seq ?_
    refine if_split henv rfl (fun hc56 => ?_) (fun hc56 => ?_)
    · have hlt0 : i < n0 := by have := of_decide_eq_true hc56; omega
      obtain ⟨⟨A, n, c, es⟩, he0⟩ : ∃ e, es0[i]? = some e := ⟨_, List.getElem?_eq_getElem (by omega)⟩
      replace hst := hst.elem (k := 0) rfl he0
      replace hst : St w0 _ [rowS notU 39 2 (some ⟨g53, 0, none⟩) T T (fl fN os)] [pfRow fN FN 2 A n c es, pfRow fL FL 1 A0 n0 c0 es0, pfEs FN os] := hst
      have hel := (hst.pat (k := 0) rfl).2.1
      have hn8 : n ≤ 8192 := hlen _ (List.mem_of_getElem? he0)
      obtain ⟨hxi, hxl⟩ := part_at hz0 he0 hel
      have hik : i * k ≤ 57344 := Nat.mul_le_mul (show i ≤ 14 by omega) hk4
      have hsz : i * k + n ≤ T := by have := sz_at zss k m (i := i) hlt0; rw [hxl, ← hT] at this; exact this
      refine wp_skip ?_
      refine th_n ?_
      refine wp_seq ?_
      refine wp_block ?_
      refine wp_seq ?_
      refine region_seq ?_
      revert a
      refine mA rfl rfl ?_
      refine sA (v := .pointer (some ⟨ab A0, ao A0 + i * 1, none⟩)) rfl (fun _ henv => rn_idxR (i := i) henv Tryd.underlying26 (ty__integer_Int.size) rfl rfl (by omega) rfl (show (pfRow fL FL 1 A0 n0 c0 es0).P _ from (hst.pat (k := 1) rfl)).1) ?_
      refine sA (v := .slice A n c) rfl (fun _ henv => rn_loadE1 (i := i) (j := 0) (e := (A, n, c, es)) henv ty__integer_Int rfl rfl fL_len (by decide) (show (pfRow fL FL 1 A0 n0 c0 es0).P _ from (hst.pat (k := 1) rfl)).1 (by omega) he0 rfl) ?_
      refine aA rfl rfl ?_
      refine aA rfl rfl ?_
      intro a henv
      refine wpList_nil ?_
      refine th_n ?_
      refine wp_seq ?_
      refine region_seq ?_
      revert a
      refine mA rfl rfl ?_
      refine sA (v := .int .i64 (n : Nat)) rfl (fun _ henv => rn_len henv Tryd.underlying24 rfl) ?_
      refine mA rfl rfl ?_
      intro a henv
      refine wpList_nil ?_
      refine th_n ?_
      refine wp_block ?_
      refine wp_loop_ghost (fun mz a w => ∃ j : Nat, ∃ ps : List NE, n - j = mz ∧ Env 98 a [(1, .int .i64 (k : Nat)), (2, .int .i64 (m : Nat)), (11, .slice (some ⟨g53, 0, none⟩) T T), (12, .int .i64 (i : Nat)), (55, .slice A0 n0 c0), (56, .int .i64 (n0 : Nat)), (57, .int .i64 (i : Nat)), (62, .slice A n c), (63, .int .i64 (n : Nat)), (64, .int .i64 (j : Nat))] ∧ St w0 w [rowS notU 39 2 (some ⟨g53, 0, none⟩) T T (fl fN ps)] [pfRow fL FL 1 A0 n0 c0 es0, pfRow fN FN 2 A n c es, pfEs FN ps] ∧ j ≤ n ∧ ps.map zz = adN (zss.getD i []) (i * k) (jnN zss k T i) j ∧ Zk (1000 + 8192 * i + j) (ps.map zz)) _ ⟨0, os, rfl, henv.sub ⟨rfl, rfl, rfl, rfl, rfl, rfl, rfl, rfl, rfl, rfl, trivial⟩, hst.pick [0] [1, 0, 2] (by decide), (Nat.zero_le _), ho, hkz⟩ ?_
      clear henv hst a
      rintro mz a w57 ⟨j, ps, rfl, henv, hst, hj, ho2, hkz2⟩
      refine wp_seq ?_
      refine region_seq ?_
      refine sv (v := .bool (decide (((j : Nat) : Int) < ((n : Nat) : Int)))) henv rfl (rn_bin henv rfl rfl rfl) ?_
      clear henv a; intro a henv
      refine wpList_nil ?_
      refine th_n ?_
      refine wp_seq ?_
      refine if_split henv rfl (fun hc58 => ?_) (fun hc58 => ?_)
      · have hlt : j < n := by have := of_decide_eq_true hc58; omega
        obtain ⟨⟨C, d, x⟩, he1⟩ : ∃ e, es[j]? = some e := ⟨_, List.getElem?_eq_getElem (by omega)⟩
        have hpl : ps.length = T := by rw [← List.length_map (f := zz), ho2, adN_len, jnN_len]
        obtain ⟨⟨E, f, y⟩, he2⟩ : ∃ e, ps[i * k + j]? = some e := ⟨_, List.getElem?_eq_getElem (by omega)⟩
        replace hst := hst.elem (k := 1) rfl he1
        replace hst := hst.elemE (k := 3) rfl he2
        replace hst : St w0 _ [rowS notU 39 2 (some ⟨g53, 0, none⟩) T T (fl fN ps)] [pfZ E f y, pfZ C d x, pfRow fL FL 1 A0 n0 c0 es0, pfRow fN FN 2 A n c es, pfEs FN ps] := hst
        have hx1 : zl x ≤ 1000 := hxk _ (List.mem_of_getElem? he0) _ (List.mem_of_getElem? he1)
        have hy1 : zl y ≤ 1000 + 8192 * i + j := hkz2.es rfl _ (List.mem_of_getElem? he2)
        refine wp_skip ?_
        refine th_n ?_
        refine wp_seq ?_
        refine wp_block ?_
        refine wp_seq ?_
        refine region_seq ?_
        revert a
        refine mA rfl rfl ?_
        refine sA (v := .pointer (some ⟨ab A, ao A + j * 2, none⟩)) rfl (fun _ henv => rn_idxR (i := j) henv Tryd.underlying24 (ty_anvil_integer_Int.size) rfl rfl (by omega) rfl (show (pfRow fN FN 2 A n c es).P _ from (hst.pat (k := 3) rfl)).1) ?_
        refine sA (v := .agg #[.bool (neg x), .slice C (zl x) d]) rfl (fun _ henv => rn_loadE (i := j) (e := (C, d, x)) henv ty_anvil_integer_Int rfl rfl fN_len (show (pfRow fN FN 2 A n c es).P _ from (hst.pat (k := 3) rfl)).1 (by omega) he1 rfl) ?_
        intro a henv
        refine seq_step rfl (op_alloc (c := #[.bool (neg 0), .slice none (zl 0) 0]) henv hst rfl zero_anvil_integer_Int zcells ?_)
        clear henv hst a; intro a w60 g59 henv hst
        refine sv (v := .int .i64 (j : Nat)) henv rfl (rn_assign henv rfl) ?_
        clear henv a; intro a henv
        refine seq_step rfl (op_store (k := 0) (c' := #[.bool (neg x), .slice C (zl x) d]) henv hst (ty_anvil_integer_Int.size) rfl rfl rfl rfl (by simp) rfl rfl ?_)
        clear henv hst a; intro a w61 henv hst
        refine wpList_nil ?_
        refine th_n ?_
        refine region_any (n := 18) (Sk [bk g59 #[.bool (neg x), .slice C (zl x) d] 39] [pfZ E f y, pfZ C d x, pfRow fL FL 1 A0 n0 c0 es0, pfRow fN FN 2 A n c es, pfEs FN ps] [17] [rowS notU 39 2 (some ⟨g53, 0, none⟩) T T (fl fN ps)]) mixed rfl henv hst ?_
        clear henv hst; intro w62 henv hst
        refine tM (i := 0) [16, 17] rfl (by kernel_rfl) (fun _ _ _ h => h) henv rfl rfl ?_
        clear henv a; intro a henv
        refine tM (i := 1) [3, 5, 16, 17] rfl (by kernel_rfl) (fun _ _ _ h => h) henv rfl rfl ?_
        clear henv a; intro a henv
        refine tM (i := 2) [3, 5, 16, 17] rfl (by kernel_rfl) (fun _ _ _ h => h) henv rfl rfl ?_
        clear henv a; intro a henv
        refine tA (i := 3) [5, 16, 17] (v := .int .i64 (i * k : Nat)) rfl (by kernel_rfl) (fun _ _ _ h => h) henv rfl (fun _ => rn_mul henv rfl rfl (by rw [IntWalk.i64_in _ (by omega)]; omega)) ?_
        clear henv a; intro a henv
        refine tM (i := 4) [5, 16, 17] rfl (by kernel_rfl) (fun _ _ _ h => h) henv rfl rfl ?_
        clear henv a; intro a henv
        refine tA (i := 5) [16, 17] (v := .int .i64 ((i * k) + j : Nat)) rfl (by kernel_rfl) (fun _ _ _ h => h) henv rfl (fun _ => rn_add henv rfl rfl (by rw [IntWalk.i64_in _ (by omega)]; omega)) ?_
        clear henv a; intro a henv
        refine tM (i := 6) [12, 13, 15, 16, 17] rfl (by kernel_rfl) (fun _ _ _ h => h) henv rfl rfl ?_
        clear henv a; intro a henv
        refine tM (i := 7) [9, 11, 12, 13, 15, 16, 17] rfl (by kernel_rfl) (fun _ _ _ h => h) henv rfl rfl ?_
        clear henv a; intro a henv
        refine tM (i := 8) [9, 11, 12, 13, 15, 16, 17] rfl (by kernel_rfl) (fun _ _ _ h => h) henv rfl rfl ?_
        clear henv a; intro a henv
        refine tA (i := 9) [11, 12, 13, 15, 16, 17] (v := .int .i64 (i * k : Nat)) rfl (by kernel_rfl) (fun _ _ _ h => h) henv rfl (fun _ => rn_mul henv rfl rfl (by rw [IntWalk.i64_in _ (by omega)]; omega)) ?_
        clear henv a; intro a henv
        refine tM (i := 10) [11, 12, 13, 15, 16, 17] rfl (by kernel_rfl) (fun _ _ _ h => h) henv rfl rfl ?_
        clear henv a; intro a henv
        refine tA (i := 11) [12, 13, 15, 16, 17] (v := .int .i64 ((i * k) + j : Nat)) rfl (by kernel_rfl) (fun _ _ _ h => h) henv rfl (fun _ => rn_add henv rfl rfl (by rw [IntWalk.i64_in _ (by omega)]; omega)) ?_
        clear henv a; intro a henv
        refine sAny_take (i := 12) [13, 15, 16, 17] (fun w' => (rowS notU 39 2 (some ⟨g53, 0, none⟩) T T (fl fN ps)).P w') (v := .pointer (some ⟨ab (some ⟨g53, 0, none⟩), ao (some ⟨g53, 0, none⟩) + ((i * k) + j) * 2, none⟩)) rfl (by kernel_rfl) (fun _ _ _ h => h) (fun _ _ hj hS => (hS.two rfl hj).owns (k := 0) rfl) henv rfl (hst.owns (k := 1) rfl) (fun w' hg => rn_idxR (i := (i * k) + j) henv Tryd.underlying24 (ty_anvil_integer_Int.size) rfl rfl (by omega) rfl (rowS_rd hg)) ?_
        clear henv a; intro a henv
        refine sAny_take (i := 13) [15, 16, 17] (fun w' => (rowS notU 39 2 (some ⟨g53, 0, none⟩) T T (fl fN ps)).P w') (v := .agg #[.bool (neg y), .slice E (zl y) f]) rfl (by kernel_rfl) (fun _ _ _ h => h) (fun _ _ hj hS => (hS.two rfl hj).owns (k := 0) rfl) henv rfl (hst.owns (k := 1) rfl) (fun w' hg => rn_loadE (i := (i * k) + j) (e := (E, f, y)) henv ty_anvil_integer_Int rfl rfl fN_len (rowS_rd hg) (by omega) he2 rfl) ?_
        clear henv a; intro a henv
        refine tL (i := 14) 0 0 [15, 16, 17] rfl (by kernel_rfl) (fun _ _ _ h => h) henv rfl ty_anvil_integer_Int rfl hst rfl rfl rfl ?_
        clear henv a; intro a henv
        have hs63 := zl_add y x
        refine sAny_one (i := 15) (by kernel_rfl) rfl rfl (op_call henv rfl Tryd.call36 rfl (add_z (x := y) (y := x) (show ZIn _ E f y from hst.pat (k := 0) rfl) (show ZIn _ C d x from hst.pat (k := 1) rfl) (by omega) (by omega)) ?_)
        rintro e w67 ⟨_, rfl, ⟨A64, c65, rfl, hz66⟩, hb⟩
        refine ⟨_, rfl, ?_⟩
        clear henv a; intro a henv
        replace hst := (hst.call hb).addZ hz66 ⟨nou_bk rfl, nou_rowS, trivial⟩
        clear hz66
        clear hb
        refine ⟨.inr ⟨hst.kn.pick [0] (rg 1 5), .inr (hst.kn.pick [1] [])⟩, ?_⟩
        refine sAny_take (i := 16) [17] (fun w' => (rowS notU 39 2 (some ⟨g53, 0, none⟩) T T (fl fN ps)).P w') (v := .pointer (some ⟨ab (some ⟨g53, 0, none⟩), ao (some ⟨g53, 0, none⟩) + ((i * k) + j) * 2, none⟩)) rfl (by kernel_rfl) (fun _ _ _ h => h) (fun _ _ hj hS => (hS.two rfl hj).owns (k := 0) rfl) henv rfl (hst.owns (k := 1) rfl) (fun w' hg => rn_idxR (i := (i * k) + j) henv Tryd.underlying24 (ty_anvil_integer_Int.size) rfl rfl (by omega) rfl (rowS_rd hg)) ?_
        clear henv a; intro a henv
        refine sAny_one (i := 17) (by kernel_rfl) rfl rfl (op_storeS (i := (i * k) + j) (e := (A64, c65, (y + x))) (k := 1) henv hst (ty_anvil_integer_Int.size) rfl rfl rfl rfl fN_len (by omega) hpl rfl rfl rfl ?_)
        clear henv hst a; intro a w68 henv hst
        replace hst := hst.setEs (e := (A64, c65, (y + x))) (i := 5) (j := 0) rfl rfl ((i * k) + j)
        refine ⟨.inr ⟨hst.kn.pick [0] (rg 2 5), .inl rfl⟩, ?_⟩
        refine sAny_done (by kernel_rfl) ?_ _
        refine bl_n (th_n ?_)
        refine region_seq ?_
        revert a
        refine sA (v := .int .i64 (j + 1 : Nat)) rfl (fun _ henv => rn_add henv rfl rfl (by rw [IntWalk.i64_in _ (by omega)]; omega)) ?_
        refine mA rfl rfl ?_
        intro a henv
        refine wpList_nil ?_
        exact th_n ⟨_, (by omega), ⟨j + 1, (ps.set ((i * k) + j) (A64, c65, (y + x))), rfl, henv.sub ⟨rfl, rfl, rfl, rfl, rfl, rfl, rfl, rfl, rfl, rfl, trivial⟩, hst.pick [1] [4, 5, 0] (by decide), (by omega), (ad_step ho2 hxi he1 he2), (zk_set hkz2 (by have := zl_addm y x; omega) (by omega))⟩⟩
      · obtain rfl : j = n := by have := of_decide_eq_false hc58; omega
        refine wp_exit ?_
        refine th_x (th_x (bl_x (bl_n (th_n ?_))))
        refine region_seq ?_
        revert a
        refine sA (v := .int .i64 (i + 1 : Nat)) rfl (fun _ henv => rn_add henv rfl rfl (by rw [IntWalk.i64_in _ (by omega)]; omega)) ?_
        refine mA rfl rfl ?_
        intro a henv
        refine wpList_nil ?_
        exact th_n ⟨_, (by omega), ⟨i + 1, ps, rfl, henv.sub ⟨rfl, rfl, rfl, rfl, rfl, rfl, trivial⟩, hst.pick [0] [0, 2] (by decide), (by omega), (by rw [ho2, jnN, hxl]), (hkz2.mono (by omega))⟩⟩
    · obtain rfl : n0 = i := by have := of_decide_eq_false hc56; omega
      refine wp_exit ?_
      refine th_x (th_x (bl_x (th_n ?_)))
      refine wp_seq ?_
      refine wp_seq ?_
      rw [← hT] at hdg
      refine region_seq ?_
      refine sv (v := .slice (some ⟨g53, 0, none⟩) T T) henv rfl (rn_move henv rfl) ?_
      clear henv a; intro a henv
      have hol : os.length = T := by rw [← List.length_map (f := zz), ho, jnN_len]
      refine seq_step rfl (op_call henv rfl Tryd.call37 rfl (p_deg (es0 := os) ⟨rowS_rd (hst.owns (k := 0) rfl), hol, hst.pat (k := 1) rfl⟩ ho (by omega)) ?_)
      rintro e w69 ⟨rfl, hb⟩
      refine ⟨_, rfl, ?_⟩
      clear henv a; intro a henv
      replace hst := hst.call hb
      clear hb
      revert a
      refine mA rfl rfl ?_
      refine sA (v := .bool (decide (((degN (jnN zss k T n0) : Nat) : Int) - 1 ≥ ((m : Nat) : Int)))) rfl (fun _ henv => rn_bin henv rfl rfl rfl) ?_
      intro a henv
      rw [show (decide (((degN (jnN zss k T n0) : Nat) : Int) - 1 ≥ ((m : Nat) : Int))) = false from (decide_eq_false hdg)] at henv
      refine wpList_nil ?_
      refine th_n ?_
      refine if_f henv rfl (rfl) ?_
      refine wp_skip ?_
      refine th_n ?_
      refine wp_seq ?_
      refine wp_seq ?_
      refine region_seq ?_
      revert a
      refine mA rfl rfl ?_
      refine sA (v := .bool (((m : Nat) : Int) == (0 : Int))) rfl (fun _ henv => rn_bin henv rfl rfl rfl) ?_
      intro a henv
      rw [show (((m : Nat) : Int) == (0 : Int)) = false from (beq_eq_false_iff_ne.2 (by omega))] at henv
      refine wpList_nil ?_
      refine th_n ?_
      refine if_f henv rfl (rfl) ?_
      refine wp_skip ?_
      refine th_n ?_
      refine wp_seq ?_
      refine region_seq ?_
      revert a
      refine mA rfl rfl ?_
      refine mA rfl rfl ?_
      refine mA rfl rfl ?_
      refine sA (v := .slice (some ⟨g53, 0, none⟩) m m) rfl (fun _ henv => rn_slice3 (m := m) (z := 2) henv Tryd.underlying24 (ty_anvil_integer_Int.size) rfl rfl rfl hmT) ?_
      refine aA rfl rfl ?_
      refine aA rfl rfl ?_
      intro a henv
      refine wpList_nil ?_
      refine th_n ?_
      refine wp_ret ?_
      refine leave henv (res2 Tryd.results18 (RV.tmp henv rfl) (RV.tmp henv rfl)) ?_
      exact ⟨_, rfl, ⟨_, _, _, rfl, ⟨rd_pre fN_len (rowS_rd (hst.owns (k := 0) rfl)) hmT, (by rw [List.length_take, hol]; omega), (hst.subEs (es' := os.take m) (i := 1) rfl fun _ hx => List.mem_of_mem_take hx).pat (k := 0) rfl⟩, (by rw [List.map_take, ho, ← hT])⟩, hst.below⟩
end Go.Proofs.YtoojllfijfjmoaaDoor.W

/- anvillaw21.works. Printed by pv/gen_sp5.py. No condition. -/
namespace Go.Proofs.YtoojllfijfjmoaaDoor.W
open Go.RowKit Anv Go.Lib
theorem zk_small {k : Nat} {zs : List Int} (h : zs.all (fun z => decide (z.natAbs < 4294967296)) = true) : Zk (k + 1) zs := fun z hz => by
  have h1 : z.natAbs < 4294967296 := of_decide_eq_true (List.all_eq_true.1 h z hz)
  have h2 : zl z ≤ 1 := nl_le_of_lt (by rw [Nat.pow_one]; exact h1)
  omega
theorem two_rows {vs : List LE} {a b : List Int} (h : vs.map lz = [a, b]) : ∃ A n c es B m d fs, vs = [(A, n, c, es), (B, m, d, fs)] ∧ es.map zz = a ∧ fs.map zz = b := by
  match vs, h with
  | [(A, n, c, es), (B, m, d, fs)], h =>
    injection h with h1 h2
    injection h2 with h2 _
    exact ⟨A, n, c, es, B, m, d, fs, rfl, h1, h2⟩
theorem three_rows {A B C : Option Addr} {n m q c d e : Nat} {es fs gs : List NE} {a b g : List Int} (h1 : es.map zz = a) (h2 : fs.map zz = b) (h3 : gs.map zz = g) : ([(A, n, c, es), (B, m, d, fs), (C, q, e, gs)] : List LE).map lz = [a, b, g] := by
  subst h1 h2 h3
  rfl
theorem three_le {A B C : Option Addr} {n m q c d e : Nat} {es fs gs : List NE} (h1 : n ≤ 8192) (h2 : m ≤ 8192) (h3 : q ≤ 8192) : ∀ v ∈ ([(A, n, c, es), (B, m, d, fs), (C, q, e, gs)] : List LE), v.2.1 ≤ 8192 := by
  intro v hv
  rcases List.mem_cons.1 hv with rfl | hv
  · exact h1
  rcases List.mem_cons.1 hv with rfl | hv
  · exact h2
  rcases List.mem_cons.1 hv with rfl | hv
  · exact h3
  cases hv
theorem three_zk {A B C : Option Addr} {n m q c d e : Nat} {es fs gs : List NE} {a b g : List Int} (h1 : es.map zz = a) (h2 : fs.map zz = b) (h3 : gs.map zz = g) (k1 : a.all (fun z => decide (z.natAbs < 4294967296)) = true) (k2 : b.all (fun z => decide (z.natAbs < 4294967296)) = true) (k3 : g.all (fun z => decide (z.natAbs < 4294967296)) = true) : ∀ v ∈ ([(A, n, c, es), (B, m, d, fs), (C, q, e, gs)] : List LE), ∀ x ∈ v.2.2.2, zl (zz x) ≤ 1000 := by
  intro v hv
  rcases List.mem_cons.1 hv with rfl | hv
  · exact (zk_small k1 : Zk 1000 _).es h1
  rcases List.mem_cons.1 hv with rfl | hv
  · exact (zk_small k2 : Zk 1000 _).es h2
  rcases List.mem_cons.1 hv with rfl | hv
  · exact (zk_small k3 : Zk 1000 _).es h3
  cases hv
theorem St.giveL3 {w0 w : World} {own ps : List PF} {k g i j m : Nat} {c : Array Value} {t : TypeId} {a b d : LE} (h : St w0 w own ps) (hk : own[k]? = some (bk g c t)) (hc : c.toList = fl fL [a, b, d]) (hi : ps[i]? = some (FL a)) (hj : ps[j]? = some (FL b)) (hm : ps[m]? = some (FL d)) : St w0 w (own.eraseIdx k) (pfRow fL FL 1 (some ⟨g, 0, none⟩) 3 3 [a, b, d] :: pfRd 1 (some ⟨g, 0, none⟩) 3 3 (fl fL [a, b, d]) :: ps) := by
  refine h.giveBk hk hc fL_len rfl (by decide) (fun e he => ?_) (fun o ho b1 h1 ⟨e, he, hf⟩ => ?_)
  · rcases List.mem_cons.1 he with rfl | he
    · exact h.pat hi
    rcases List.mem_cons.1 he with rfl | he
    · exact h.pat hj
    rcases List.mem_cons.1 he with rfl | he
    · exact h.pat hm
    cases he
  · rcases List.mem_cons.1 he with rfl | he
    · exact h.apart _ (List.mem_of_getElem? hi) o ho b1 h1 hf
    rcases List.mem_cons.1 he with rfl | he
    · exact h.apart _ (List.mem_of_getElem? hj) o ho b1 h1 hf
    rcases List.mem_cons.1 he with rfl | he
    · exact h.apart _ (List.mem_of_getElem? hm) o ho b1 h1 hf
    cases he
set_option maxRecDepth 100000 in
set_option maxHeartbeats 4000000 in
theorem l_works {w0 : World} :
    Calls Tryd.prog 10 #[] w0 fun e w' => e = .returned (.bool true) ∧ Below w0.heap.size w0 w' := by
  refine enter Tryd.func10 rfl Tryd.ntmps10 rfl ?_
  intro a henv hst
  refine wp_seq ?_
  refine region_seq ?_
  refine sv (v := .bool false) henv rfl (rn_assign henv rfl) ?_
  clear henv a; intro a henv
  refine wpList_nil ?_
  refine th_n ?_
  refine wp_seq ?_
  refine region_seq ?_
  refine seq_step rfl (op_buildSlice (z := 1) (pv := #[(0, .int .i64 1), (1, .int .i64 2), (2, .int .i64 3), (3, .int .i64 4), (4, .int .i64 5)]) (c := #[.int .i64 1, .int .i64 2, .int .i64 3, .int .i64 4, .int .i64 5]) henv hst rfl Tryd.underlying22 (ty_int64.size) zero_int64 (by decide) (by decide) rfl (by kernel_rfl) ?_)
  clear henv hst a; intro a w52 g51 henv hst
  replace hst := hst.giveBk (f := fI) (F := FI) (k := 0) (n := 5) (es := [1, 2, 3, 4, 5]) rfl rfl fI_len rfl (by decide) (esT_P (fun _ => rfl) _ _) (fun _ _ _ _ => esT_foot (fun _ => rfl))
  refine seq_step rfl (op_call henv rfl Tryd.call11 rfl (l_list (es0 := [1, 2, 3, 4, 5]) (hst.pat (k := 0) rfl) (by unfold I64; decide) (by omega)) ?_)
  rintro e w58 ⟨_, rfl, ⟨A53, c54, es55, rfl, hr, hl56, hz57⟩, hb⟩
  refine ⟨_, rfl, ?_⟩
  clear henv a; intro a henv
  replace hst := hst.freshRd hb hr hl56 (ap_N hr.2.1 trivial)
  clear hr
  clear hb
  refine seq_step rfl (op_call henv rfl Tryd.call12 rfl (sp_parts (k := 2) (m := 3) (hst.pat (k := 0) rfl) hz57 (by omega) (by omega) (by omega) (by omega) (by omega) (by omega) (by omega)) ?_)
  rintro e w62 ⟨_, rfl, ⟨A59, c60, vs, rfl, hp, hz61⟩, hb⟩
  refine ⟨_, rfl, ?_⟩
  clear henv a; intro a henv
  replace hst := (hst.call hb).argRow hp
  clear hp
  clear hb
  revert a
  refine mA rfl rfl ?_
  refine sA (v := .slice A59 2 c60) rfl (fun _ henv => rn_extract henv rfl rfl) ?_
  refine sA (v := .int .i64 0) rfl (fun _ henv => rn_extract henv rfl rfl) ?_
  refine aA rfl rfl ?_
  refine aA rfl rfl ?_
  intro a henv
  refine wpList_nil ?_
  obtain ⟨Aa, na, ca, esa, Ab, nb, cb, esb, rfl, hza, hzb⟩ := two_rows (hz61.trans (show _ = [[1, 2, 3], [4, 5, 0]] by decide))
  replace hst := hst.elem (k := 0) (i := 0) (e := (Aa, na, ca, esa)) rfl rfl
  replace hst := hst.elem (k := 1) (i := 1) (e := (Ab, nb, cb, esb)) rfl rfl
  replace hst : St w0 _ [] [pfRow fN FN 2 Ab nb cb esb, pfRow fN FN 2 Aa na ca esa, pfRow fL FL 1 A59 2 c60 ([(Aa, na, ca, esa), (Ab, nb, cb, esb)]), pfRow fN FN 2 A53 5 c54 es55, pfRow fI FI 1 (some ⟨g51, 0, none⟩) 5 5 ([1, 2, 3, 4, 5]), pfRd 1 (some ⟨g51, 0, none⟩) 5 5 (fl fI [1, 2, 3, 4, 5])] := hst
  refine th_n ?_
  refine wp_seq ?_
  refine region_seq ?_
  refine seq_step rfl (op_call henv rfl Tryd.call20 rfl (sp_block (n1 := 7) (n2 := 5) (k1 := 3) (k2 := 2) (by omega) (by omega) (by omega) (by omega) (by omega) (by omega)) ?_)
  rintro e w63 ⟨rfl, hb⟩
  refine ⟨_, rfl, ?_⟩
  clear henv a; intro a henv
  replace hst := hst.call hb
  clear hb
  revert a
  refine mA rfl rfl ?_
  refine sA (v := .int .i64 (blkN 7 5 3 2 : Nat)) rfl (fun _ henv => rn_extract henv rfl rfl) ?_
  refine sA (v := .int .i64 0) rfl (fun _ henv => rn_extract henv rfl rfl) ?_
  refine aA rfl rfl ?_
  refine aA rfl rfl ?_
  intro a henv
  refine wpList_nil ?_
  refine th_n ?_
  refine wp_seq ?_
  refine region_seq ?_
  refine seq_step rfl (op_buildSlice (z := 1) (pv := #[(0, .int .i64 1), (1, .int .i64 2), (2, .int .i64 3)]) (c := #[.int .i64 1, .int .i64 2, .int .i64 3]) henv hst rfl Tryd.underlying22 (ty_int64.size) zero_int64 (by decide) (by decide) rfl (by kernel_rfl) ?_)
  clear henv hst a; intro a w65 g64 henv hst
  replace hst := hst.giveBk (f := fI) (F := FI) (k := 0) (n := 3) (es := [1, 2, 3]) rfl rfl fI_len rfl (by decide) (esT_P (fun _ => rfl) _ _) (fun _ _ _ _ => esT_foot (fun _ => rfl))
  refine seq_step rfl (op_call henv rfl Tryd.call11 rfl (l_list (es0 := [1, 2, 3]) (hst.pat (k := 0) rfl) (by unfold I64; decide) (by omega)) ?_)
  rintro e w71 ⟨_, rfl, ⟨A66, c67, es68, rfl, hr, hl69, hz70⟩, hb⟩
  refine ⟨_, rfl, ?_⟩
  clear henv a; intro a henv
  replace hst := hst.freshRd hb hr hl69 (ap_N hr.2.1 trivial)
  clear hr
  clear hb
  refine seq_step rfl (op_buildSlice (z := 1) (pv := #[(0, .int .i64 10), (1, .int .i64 20), (2, .int .i64 30)]) (c := #[.int .i64 10, .int .i64 20, .int .i64 30]) henv hst rfl Tryd.underlying22 (ty_int64.size) zero_int64 (by decide) (by decide) rfl (by kernel_rfl) ?_)
  clear henv hst a; intro a w73 g72 henv hst
  replace hst := hst.giveBk (f := fI) (F := FI) (k := 0) (n := 3) (es := [10, 20, 30]) rfl rfl fI_len rfl (by decide) (esT_P (fun _ => rfl) _ _) (fun _ _ _ _ => esT_foot (fun _ => rfl))
  refine seq_step rfl (op_call henv rfl Tryd.call11 rfl (l_list (es0 := [10, 20, 30]) (hst.pat (k := 0) rfl) (by unfold I64; decide) (by omega)) ?_)
  rintro e w79 ⟨_, rfl, ⟨A74, c75, es76, rfl, hr, hl77, hz78⟩, hb⟩
  refine ⟨_, rfl, ?_⟩
  clear henv a; intro a henv
  replace hst := hst.freshRd hb hr hl77 (ap_N hr.2.1 trivial)
  clear hr
  clear hb
  refine seq_step rfl (op_buildSlice (z := 1) (pv := #[(0, .int .i64 100)]) (c := #[.int .i64 100]) henv hst rfl Tryd.underlying22 (ty_int64.size) zero_int64 (by decide) (by decide) rfl (by kernel_rfl) ?_)
  clear henv hst a; intro a w81 g80 henv hst
  replace hst := hst.giveBk (f := fI) (F := FI) (k := 0) (n := 1) (es := [100]) rfl rfl fI_len rfl (by decide) (esT_P (fun _ => rfl) _ _) (fun _ _ _ _ => esT_foot (fun _ => rfl))
  refine seq_step rfl (op_call henv rfl Tryd.call11 rfl (l_list (es0 := [100]) (hst.pat (k := 0) rfl) (by unfold I64; decide) (by omega)) ?_)
  rintro e w87 ⟨_, rfl, ⟨A82, c83, es84, rfl, hr, hl85, hz86⟩, hb⟩
  refine ⟨_, rfl, ?_⟩
  clear henv a; intro a henv
  replace hst := hst.freshRd hb hr hl85 (ap_N hr.2.1 trivial)
  clear hr
  clear hb
  refine seq_step rfl (op_buildSlice (z := 1) (pv := #[(0, .slice A66 3 c67), (1, .slice A74 3 c75), (2, .slice A82 1 c83)]) (c := #[.slice A66 3 c67, .slice A74 3 c75, .slice A82 1 c83]) henv hst rfl Tryd.underlying26 (ty__integer_Int.size) zero__integer_Int (by decide) (by decide) rfl (by kernel_rfl) ?_)
  clear henv hst a; intro a w89 g88 henv hst
  replace hst := hst.giveL3 (a := (A66, 3, c67, es68)) (b := (A74, 3, c75, es76)) (d := (A82, 1, c83, es84)) (k := 0) (i := 6) (j := 3) (m := 0) rfl rfl rfl rfl rfl
  replace hst : St w0 _ [] [pfRow fL FL 1 (some ⟨g88, 0, none⟩) 3 3 ([(A66, 3, c67, es68), (A74, 3, c75, es76), (A82, 1, c83, es84)]), pfRd 1 (some ⟨g88, 0, none⟩) 3 3 (fl fL [(A66, 3, c67, es68), (A74, 3, c75, es76), (A82, 1, c83, es84)]), pfRow fN FN 2 A82 1 c83 es84, pfRow fI FI 1 (some ⟨g80, 0, none⟩) 1 1 ([100]), pfRd 1 (some ⟨g80, 0, none⟩) 1 1 (fl fI [100]), pfRow fN FN 2 A74 3 c75 es76, pfRow fI FI 1 (some ⟨g72, 0, none⟩) 3 3 ([10, 20, 30]), pfRd 1 (some ⟨g72, 0, none⟩) 3 3 (fl fI [10, 20, 30]), pfRow fN FN 2 A66 3 c67 es68, pfRow fI FI 1 (some ⟨g64, 0, none⟩) 3 3 ([1, 2, 3]), pfRd 1 (some ⟨g64, 0, none⟩) 3 3 (fl fI [1, 2, 3]), pfRow fN FN 2 Ab nb cb esb, pfRow fN FN 2 Aa na ca esa, pfRow fL FL 1 A59 2 c60 ([(Aa, na, ca, esa), (Ab, nb, cb, esb)]), pfRow fN FN 2 A53 5 c54 es55, pfRow fI FI 1 (some ⟨g51, 0, none⟩) 5 5 ([1, 2, 3, 4, 5]), pfRd 1 (some ⟨g51, 0, none⟩) 5 5 (fl fI [1, 2, 3, 4, 5])] := hst
  refine seq_step rfl (op_call henv rfl Tryd.call18 rfl (sp_join_ok (zss := [[1, 2, 3], [10, 20, 30], [100]]) (k := 2) (m := 5) (hst.pat (k := 0) rfl) (three_rows hz70 hz78 hz86) (three_le (by decide) (by decide) (by decide)) (three_zk hz70 hz78 hz86 (by decide) (by decide) (by decide)) (by omega) (by omega) (by omega) (by omega) (by omega) (by decide)) ?_)
  rintro e w94 ⟨_, rfl, ⟨A90, c91, es92, rfl, hp, hz93⟩, hb⟩
  refine ⟨_, rfl, ?_⟩
  clear henv a; intro a henv
  replace hst := (hst.call hb).argRow hp
  clear hp
  clear hb
  revert a
  refine mA rfl rfl ?_
  refine sA (v := .slice A90 5 c91) rfl (fun _ henv => rn_extract henv rfl rfl) ?_
  refine sA (v := .int .i64 0) rfl (fun _ henv => rn_extract henv rfl rfl) ?_
  refine aA rfl rfl ?_
  refine aA rfl rfl ?_
  intro a henv
  refine wpList_nil ?_
  refine th_n ?_
  refine wp_seq ?_
  refine region_any (n := 42) (Sk [] [pfRow fN FN 2 A90 5 c91 es92, pfRow fL FL 1 (some ⟨g88, 0, none⟩) 3 3 ([(A66, 3, c67, es68), (A74, 3, c75, es76), (A82, 1, c83, es84)]), pfRd 1 (some ⟨g88, 0, none⟩) 3 3 (fl fL [(A66, 3, c67, es68), (A74, 3, c75, es76), (A82, 1, c83, es84)]), pfRow fN FN 2 A82 1 c83 es84, pfRow fI FI 1 (some ⟨g80, 0, none⟩) 1 1 ([100]), pfRd 1 (some ⟨g80, 0, none⟩) 1 1 (fl fI [100]), pfRow fN FN 2 A74 3 c75 es76, pfRow fI FI 1 (some ⟨g72, 0, none⟩) 3 3 ([10, 20, 30]), pfRd 1 (some ⟨g72, 0, none⟩) 3 3 (fl fI [10, 20, 30]), pfRow fN FN 2 A66 3 c67 es68, pfRow fI FI 1 (some ⟨g64, 0, none⟩) 3 3 ([1, 2, 3]), pfRd 1 (some ⟨g64, 0, none⟩) 3 3 (fl fI [1, 2, 3]), pfRow fN FN 2 Ab nb cb esb, pfRow fN FN 2 Aa na ca esa, pfRow fL FL 1 A59 2 c60 ([(Aa, na, ca, esa), (Ab, nb, cb, esb)]), pfRow fN FN 2 A53 5 c54 es55, pfRow fI FI 1 (some ⟨g51, 0, none⟩) 5 5 ([1, 2, 3, 4, 5]), pfRd 1 (some ⟨g51, 0, none⟩) 5 5 (fl fI [1, 2, 3, 4, 5])] [] []) mixed rfl henv hst ?_
  clear henv hst; intro w95 henv hst
  refine tM (i := 0) (rg 1 41) rfl (by kernel_rfl) (fun _ _ _ h => h) henv rfl rfl ?_
  clear henv a; intro a henv
  refine tA (i := 1) (rg 2 40) (v := .bool true) rfl (by kernel_rfl) (fun _ _ _ h => h) henv rfl (fun _ => rn_bin henv rfl rfl rfl) ?_
  clear henv a; intro a henv
  refine tM (i := 2) (rg 3 39) rfl (by kernel_rfl) (fun _ _ _ h => h) henv rfl rfl ?_
  clear henv a; intro a henv
  refine tAg (i := 3) (rg 4 38) (v := .int .i64 0) rfl (by kernel_rfl) (fun _ _ _ h => h) henv rfl rfl rfl rfl (fun _ => rn_move henv rfl) ?_
  clear henv a; intro a henv
  refine tAg (i := 4) (rg 5 37) (v := .bool true) rfl (by kernel_rfl) (fun _ _ _ h => h) henv rfl rfl rfl rfl (fun _ => rn_bin henv rfl rfl rfl) ?_
  clear henv a; intro a henv
  refine tA (i := 5) (rg 6 36) (v := .bool true) rfl (by kernel_rfl) (fun _ _ _ h => h) henv rfl (fun _ => rn_pick henv rfl rfl) ?_
  clear henv a; intro a henv
  refine tM (i := 6) (rg 7 35) rfl (by kernel_rfl) (fun _ _ _ h => h) henv rfl rfl ?_
  clear henv a; intro a henv
  refine tAg (i := 7) (rg 8 34) (v := .int .i64 0) rfl (by kernel_rfl) (fun _ _ _ h => h) henv rfl rfl rfl rfl (fun _ => rn_move henv rfl) ?_
  clear henv a; intro a henv
  refine tAg (i := 8) (rg 9 33) (v := .bool true) rfl (by kernel_rfl) (fun _ _ _ h => h) henv rfl rfl rfl rfl (fun _ => rn_bin henv rfl rfl rfl) ?_
  clear henv a; intro a henv
  refine tA (i := 9) (rg 10 32) (v := .bool true) rfl (by kernel_rfl) (fun _ _ _ h => h) henv rfl (fun _ => rn_pick henv rfl rfl) ?_
  clear henv a; intro a henv
  refine tM (i := 10) (rg 11 31) rfl (by kernel_rfl) (fun _ _ _ h => h) henv rfl rfl ?_
  clear henv a; intro a henv
  refine tAg (i := 11) (rg 12 30) (v := .slice A59 2 c60) rfl (by kernel_rfl) (fun _ _ _ h => h) henv rfl rfl rfl rfl (fun _ => rn_move henv rfl) ?_
  clear henv a; intro a henv
  refine tAg (i := 12) (rg 13 29) (v := .int .i64 2) rfl (by kernel_rfl) (fun _ _ _ h => h) henv rfl rfl rfl rfl (fun _ => rn_len henv Tryd.underlying26 rfl) ?_
  clear henv a; intro a henv
  refine tAg (i := 13) (rg 14 28) (v := .bool true) rfl (by kernel_rfl) (fun _ _ _ h => h) henv rfl rfl rfl rfl (fun _ => rn_bin henv rfl rfl rfl) ?_
  clear henv a; intro a henv
  refine tA (i := 14) (rg 15 27) (v := .bool true) rfl (by kernel_rfl) (fun _ _ _ h => h) henv rfl (fun _ => rn_pick henv rfl rfl) ?_
  clear henv a; intro a henv
  refine tM (i := 15) (rg 16 26) rfl (by kernel_rfl) (fun _ _ _ h => h) henv rfl rfl ?_
  clear henv a; intro a henv
  refine tAg (i := 16) [17, 18, 21, 22, 23, 24, 25, 26, 27, 28, 29, 30, 31, 32, 33, 34, 35, 36, 37, 38, 39, 40, 41] (v := .slice A59 2 c60) rfl (by kernel_rfl) (fun _ _ _ h => h) henv rfl rfl rfl rfl (fun _ => rn_move henv rfl) ?_
  clear henv a; intro a henv
  refine sAny_takeg (i := 17) [18, 21, 22, 23, 24, 25, 26, 27, 28, 29, 30, 31, 32, 33, 34, 35, 36, 37, 38, 39, 40, 41] (fun w' => (pfRow fL FL 1 A59 2 c60 ([(Aa, na, ca, esa), (Ab, nb, cb, esb)])).P w') (v := .pointer (some ⟨ab A59, ao A59 + 0 * 1, none⟩)) rfl (by kernel_rfl) (fun _ _ _ h => h) (fun _ _ _ hS => hS.1.pat (k := 14) rfl) henv rfl rfl rfl rfl (hst.pat (k := 14) rfl) (fun w' hg => rn_idxR (i := 0) henv Tryd.underlying26 (ty__integer_Int.size) rfl rfl (by omega) rfl (show (pfRow fL FL 1 A59 2 c60 ([(Aa, na, ca, esa), (Ab, nb, cb, esb)])).P _ from hg).1) ?_
  clear henv a; intro a henv
  refine sAny_takeg (i := 18) [21, 22, 23, 24, 25, 26, 27, 28, 29, 30, 31, 32, 33, 34, 35, 36, 37, 38, 39, 40, 41] (fun w' => (pfRow fL FL 1 A59 2 c60 ([(Aa, na, ca, esa), (Ab, nb, cb, esb)])).P w') (v := .slice Aa na ca) rfl (by kernel_rfl) (fun _ _ _ h => h) (fun _ _ _ hS => hS.1.pat (k := 14) rfl) henv rfl rfl rfl rfl (hst.pat (k := 14) rfl) (fun w' hg => rn_loadE1 (i := 0) (j := 0) (e := (Aa, na, ca, esa)) henv ty__integer_Int rfl rfl fL_len (by decide) (show (pfRow fL FL 1 A59 2 c60 ([(Aa, na, ca, esa), (Ab, nb, cb, esb)])).P _ from hg).1 (by omega) rfl rfl) ?_
  clear henv a; intro a henv
  refine sAny_oneg (i := 19) (by kernel_rfl) rfl rfl henv rfl rfl rfl (op_buildSlice (z := 1) (pv := #[(0, .int .i64 1), (1, .int .i64 2), (2, .int .i64 3)]) (c := #[.int .i64 1, .int .i64 2, .int .i64 3]) henv hst rfl Tryd.underlying22 (ty_int64.size) zero_int64 (by decide) (by decide) rfl (by kernel_rfl) ?_)
  clear henv hst a; intro a w97 g96 henv hst
  refine ⟨.inr ⟨hst.kn.pick [] (rg 0 18), .inr (hst.kn.pick [] [])⟩, ?_⟩
  replace hst := hst.giveBk (f := fI) (F := FI) (k := 0) (n := 3) (es := [1, 2, 3]) rfl rfl fI_len rfl (by decide) (esT_P (fun _ => rfl) _ _) (fun _ _ _ _ => esT_foot (fun _ => rfl))
  refine sAny_oneg (i := 20) (by kernel_rfl) rfl rfl henv rfl rfl rfl (op_call henv rfl Tryd.call15 rfl (l_ref (es0 := [1, 2, 3]) (hst.pat (k := 0) rfl) (by unfold I64; decide) (by omega)) ?_)
  rintro e w103 ⟨_, rfl, ⟨A98, c99, es100, rfl, hr, hl101, hz102⟩, hb⟩
  refine ⟨_, rfl, ?_⟩
  clear henv a; intro a henv
  replace hst := hst.freshRd hb hr hl101 (ap_M hr.2.1 trivial)
  clear hr
  clear hb
  refine ⟨.inr ⟨hst.kn.pick [] (rg 3 18), .inr (hst.kn.pick [] [])⟩, ?_⟩
  refine sAny_oneg (i := 21) (by kernel_rfl) rfl rfl henv rfl rfl rfl (op_call henv rfl Tryd.call16 rfl (l_is (xs := [1, 2, 3]) (ys := [1, 2, 3]) (hst.pat (k := 16) rfl) hza (hst.pat (k := 0) rfl) hz102 (zk_small (by decide)) (zk_small (by decide))) ?_)
  rintro e w104 ⟨rfl, hb⟩
  refine ⟨_, rfl, ?_⟩
  clear henv a; intro a henv
  replace hst := hst.call hb
  clear hb
  refine ⟨.inr ⟨hst.kn.pick [] (rg 3 18), .inr (hst.kn.pick [] [])⟩, ?_⟩
  rw [show (decide (([1, 2, 3] : List Int) = [1, 2, 3])) = true from (decide_eq_true rfl)] at henv
  refine tA (i := 22) (rg 23 19) (v := .bool true) rfl (by kernel_rfl) (fun _ _ _ h => h) henv rfl (fun _ => rn_pick henv rfl rfl) ?_
  clear henv a; intro a henv
  refine tM (i := 23) (rg 24 18) rfl (by kernel_rfl) (fun _ _ _ h => h) henv rfl rfl ?_
  clear henv a; intro a henv
  refine tAg (i := 24) [25, 26, 29, 30, 31, 32, 33, 34, 35, 36, 37, 38, 39, 40, 41] (v := .slice A59 2 c60) rfl (by kernel_rfl) (fun _ _ _ h => h) henv rfl rfl rfl rfl (fun _ => rn_move henv rfl) ?_
  clear henv a; intro a henv
  refine sAny_takeg (i := 25) [26, 29, 30, 31, 32, 33, 34, 35, 36, 37, 38, 39, 40, 41] (fun w' => (pfRow fL FL 1 A59 2 c60 ([(Aa, na, ca, esa), (Ab, nb, cb, esb)])).P w') (v := .pointer (some ⟨ab A59, ao A59 + 1 * 1, none⟩)) rfl (by kernel_rfl) (fun _ _ _ h => h) (fun _ _ _ hS => hS.1.pat (k := 14) rfl) henv rfl rfl rfl rfl (hst.pat (k := 17) rfl) (fun w' hg => rn_idxR (i := 1) henv Tryd.underlying26 (ty__integer_Int.size) rfl rfl (by omega) rfl (show (pfRow fL FL 1 A59 2 c60 ([(Aa, na, ca, esa), (Ab, nb, cb, esb)])).P _ from hg).1) ?_
  clear henv a; intro a henv
  refine sAny_takeg (i := 26) [29, 30, 31, 32, 33, 34, 35, 36, 37, 38, 39, 40, 41] (fun w' => (pfRow fL FL 1 A59 2 c60 ([(Aa, na, ca, esa), (Ab, nb, cb, esb)])).P w') (v := .slice Ab nb cb) rfl (by kernel_rfl) (fun _ _ _ h => h) (fun _ _ _ hS => hS.1.pat (k := 14) rfl) henv rfl rfl rfl rfl (hst.pat (k := 17) rfl) (fun w' hg => rn_loadE1 (i := 1) (j := 0) (e := (Ab, nb, cb, esb)) henv ty__integer_Int rfl rfl fL_len (by decide) (show (pfRow fL FL 1 A59 2 c60 ([(Aa, na, ca, esa), (Ab, nb, cb, esb)])).P _ from hg).1 (by omega) rfl rfl) ?_
  clear henv a; intro a henv
  refine sAny_oneg (i := 27) (by kernel_rfl) rfl rfl henv rfl rfl rfl (op_buildSlice (z := 1) (pv := #[(0, .int .i64 4), (1, .int .i64 5), (2, .int .i64 0)]) (c := #[.int .i64 4, .int .i64 5, .int .i64 0]) henv hst rfl Tryd.underlying22 (ty_int64.size) zero_int64 (by decide) (by decide) rfl (by kernel_rfl) ?_)
  clear henv hst a; intro a w106 g105 henv hst
  refine ⟨.inr ⟨hst.kn.pick [] (rg 3 18), .inr (hst.kn.pick [] [])⟩, ?_⟩
  replace hst := hst.giveBk (f := fI) (F := FI) (k := 0) (n := 3) (es := [4, 5, 0]) rfl rfl fI_len rfl (by decide) (esT_P (fun _ => rfl) _ _) (fun _ _ _ _ => esT_foot (fun _ => rfl))
  refine sAny_oneg (i := 28) (by kernel_rfl) rfl rfl henv rfl rfl rfl (op_call henv rfl Tryd.call15 rfl (l_ref (es0 := [4, 5, 0]) (hst.pat (k := 0) rfl) (by unfold I64; decide) (by omega)) ?_)
  rintro e w112 ⟨_, rfl, ⟨A107, c108, es109, rfl, hr, hl110, hz111⟩, hb⟩
  refine ⟨_, rfl, ?_⟩
  clear henv a; intro a henv
  replace hst := hst.freshRd hb hr hl110 (ap_M hr.2.1 trivial)
  clear hr
  clear hb
  refine ⟨.inr ⟨hst.kn.pick [] (rg 6 18), .inr (hst.kn.pick [] [])⟩, ?_⟩
  refine sAny_oneg (i := 29) (by kernel_rfl) rfl rfl henv rfl rfl rfl (op_call henv rfl Tryd.call16 rfl (l_is (xs := [4, 5, 0]) (ys := [4, 5, 0]) (hst.pat (k := 18) rfl) hzb (hst.pat (k := 0) rfl) hz111 (zk_small (by decide)) (zk_small (by decide))) ?_)
  rintro e w113 ⟨rfl, hb⟩
  refine ⟨_, rfl, ?_⟩
  clear henv a; intro a henv
  replace hst := hst.call hb
  clear hb
  refine ⟨.inr ⟨hst.kn.pick [] (rg 6 18), .inr (hst.kn.pick [] [])⟩, ?_⟩
  rw [show (decide (([4, 5, 0] : List Int) = [4, 5, 0])) = true from (decide_eq_true rfl)] at henv
  refine tA (i := 30) (rg 31 11) (v := .bool true) rfl (by kernel_rfl) (fun _ _ _ h => h) henv rfl (fun _ => rn_pick henv rfl rfl) ?_
  clear henv a; intro a henv
  refine tM (i := 31) (rg 32 10) rfl (by kernel_rfl) (fun _ _ _ h => h) henv rfl rfl ?_
  clear henv a; intro a henv
  refine tAg (i := 32) (rg 33 9) (v := .int .i64 (blkN 7 5 3 2 : Nat)) rfl (by kernel_rfl) (fun _ _ _ h => h) henv rfl rfl rfl rfl (fun _ => rn_move henv rfl) ?_
  clear henv a; intro a henv
  refine tAg (i := 33) (rg 34 8) (v := .bool (((blkN 7 5 3 2 : Nat) : Int) == (3 : Int))) rfl (by kernel_rfl) (fun _ _ _ h => h) henv rfl rfl rfl rfl (fun _ => rn_bin henv rfl rfl rfl) ?_
  clear henv a; intro a henv
  rw [show (((blkN 7 5 3 2 : Nat) : Int) == (3 : Int)) = true from (by decide)] at henv
  refine tA (i := 34) (rg 35 7) (v := .bool true) rfl (by kernel_rfl) (fun _ _ _ h => h) henv rfl (fun _ => rn_pick henv rfl rfl) ?_
  clear henv a; intro a henv
  refine tM (i := 35) (rg 36 6) rfl (by kernel_rfl) (fun _ _ _ h => h) henv rfl rfl ?_
  clear henv a; intro a henv
  refine tAg (i := 36) [39, 40, 41] (v := .slice A90 5 c91) rfl (by kernel_rfl) (fun _ _ _ h => h) henv rfl rfl rfl rfl (fun _ => rn_move henv rfl) ?_
  clear henv a; intro a henv
  refine sAny_oneg (i := 37) (by kernel_rfl) rfl rfl henv rfl rfl rfl (op_buildSlice (z := 1) (pv := #[(0, .int .i64 1), (1, .int .i64 2), (2, .int .i64 13), (3, .int .i64 20), (4, .int .i64 130)]) (c := #[.int .i64 1, .int .i64 2, .int .i64 13, .int .i64 20, .int .i64 130]) henv hst rfl Tryd.underlying22 (ty_int64.size) zero_int64 (by decide) (by decide) rfl (by kernel_rfl) ?_)
  clear henv hst a; intro a w115 g114 henv hst
  refine ⟨.inr ⟨hst.kn.pick [] (rg 6 18), .inr (hst.kn.pick [] [])⟩, ?_⟩
  replace hst := hst.giveBk (f := fI) (F := FI) (k := 0) (n := 5) (es := [1, 2, 13, 20, 130]) rfl rfl fI_len rfl (by decide) (esT_P (fun _ => rfl) _ _) (fun _ _ _ _ => esT_foot (fun _ => rfl))
  refine sAny_oneg (i := 38) (by kernel_rfl) rfl rfl henv rfl rfl rfl (op_call henv rfl Tryd.call15 rfl (l_ref (es0 := [1, 2, 13, 20, 130]) (hst.pat (k := 0) rfl) (by unfold I64; decide) (by omega)) ?_)
  rintro e w121 ⟨_, rfl, ⟨A116, c117, es118, rfl, hr, hl119, hz120⟩, hb⟩
  refine ⟨_, rfl, ?_⟩
  clear henv a; intro a henv
  replace hst := hst.freshRd hb hr hl119 (ap_M hr.2.1 trivial)
  clear hr
  clear hb
  refine ⟨.inr ⟨hst.kn.pick [] (rg 9 18), .inr (hst.kn.pick [] [])⟩, ?_⟩
  refine sAny_oneg (i := 39) (by kernel_rfl) rfl rfl henv rfl rfl rfl (op_call henv rfl Tryd.call16 rfl (l_is (xs := [1, 2, 13, 20, 130]) (ys := [1, 2, 13, 20, 130]) (hst.pat (k := 9) rfl) (hz93.trans (show _ = [1, 2, 13, 20, 130] by decide)) (hst.pat (k := 0) rfl) hz120 (zk_small (by decide)) (zk_small (by decide))) ?_)
  rintro e w122 ⟨rfl, hb⟩
  refine ⟨_, rfl, ?_⟩
  clear henv a; intro a henv
  replace hst := hst.call hb
  clear hb
  refine ⟨.inr ⟨hst.kn.pick [] (rg 9 18), .inr (hst.kn.pick [] [])⟩, ?_⟩
  rw [show (decide (([1, 2, 13, 20, 130] : List Int) = [1, 2, 13, 20, 130])) = true from (decide_eq_true rfl)] at henv
  refine tA (i := 40) [41] (v := .bool true) rfl (by kernel_rfl) (fun _ _ _ h => h) henv rfl (fun _ => rn_pick henv rfl rfl) ?_
  clear henv a; intro a henv
  refine tA (i := 41) [] (v := .bool true) rfl (by kernel_rfl) (fun _ _ _ h => h) henv rfl (fun _ => rn_assign henv rfl) ?_
  clear henv a; intro a henv
  refine sAny_done (by kernel_rfl) ?_ _
  refine th_n ?_
  refine wp_ret ?_
  refine leave henv (res1 Tryd.results10 (RV.tmp henv rfl)) ?_
  exact ⟨rfl, hst.below⟩
end Go.Proofs.YtoojllfijfjmoaaDoor.W

/- poly.Mul; alike. Printed by pv/gen_sp12.py. No condition. -/
namespace Go.Proofs.YtoojllfijfjmoaaDoor.W
open Go.RowKit Anv Go.Lib
theorem sub_dec (x y : Int) : ((x - y).sign == 0) = decide (x = y) := by
  by_cases e : x = y
  · rw [e, Int.sub_self]; simp
  · rw [decide_eq_false e]
    exact beq_eq_false_iff_ne.2 fun h => e (by have := Int.sign_eq_zero_iff_zero.1 h; omega)
def sumF (xs ys : List Int) (i : Nat) : Int := xs.getD i 0 + ys.getD i 0
theorem sumF_step {os : List NE} {xs ys : List Int} {i c : Nat} {A : Option Addr} {z : Int} (ho : os.map zz = (List.range i).map (sumF xs ys)) (h : sumF xs ys i = z) : (os ++ [(A, c, z)]).map zz = (List.range (i + 1)).map (sumF xs ys) := by
  rw [List.map_append, ho, List.range_succ, List.map_append, ← h]
  rfl
def mlN (xs ys : List Int) (N : Nat) : Nat → List Int
  | 0 => List.replicate N 0
  | i + 1 => adN (ys.map (xs.getD i 0 * ·)) i (mlN xs ys N i) ys.length
theorem mlN_len (xs ys : List Int) (N : Nat) : ∀ i, (mlN xs ys N i).length = N
  | 0 => List.length_replicate
  | i + 1 => by rw [mlN, adN_len, mlN_len]
theorem ml_step {ps es : List NE} {ys l : List Int} {p j : Nat} {C E A : Option Addr} {d f c : Nat} {x y z : Int} (ho : ps.map zz = adN (ys.map (x * ·)) p l j) (hz : es.map zz = ys) (he : es[j]? = some (C, d, y)) (hp : ps[p + j]? = some (E, f, z)) : (ps.set (p + j) (A, c, z + x * y)).map zz = adN (ys.map (x * ·)) p l (j + 1) := by
  have e1 : (ys.map (x * ·)).getD j 0 = x * y := by rw [List.getD_eq_getElem?_getD, List.getElem?_map, ← hz, List.getElem?_map, he]; rfl
  have e2 : (adN (ys.map (x * ·)) p l j).getD (p + j) 0 = z := by rw [← ho, List.getD_eq_getElem?_getD, List.getElem?_map, hp]; rfl
  rw [adN, e1, e2, ← ho, List.map_set]
set_option maxRecDepth 100000 in
set_option maxHeartbeats 4000000 in
theorem p_mul {A0 A1 : Option Addr} {n0 n1 c0 c1 : Nat} {es0 es1 : List NE} {xs ys : List Int} {w0 : World} (h0 : (pfRow fN FN 2 A0 n0 c0 es0).P w0) (hz0 : es0.map zz = xs) (h1 : (pfRow fN FN 2 A1 n1 c1 es1).P w0) (hz1 : es1.map zz = ys) (hk0 : Zk 1000 xs) (hk1 : Zk 1000 ys) (h00 : 0 < n0) (h01 : 0 < n1) (hn0 : n0 ≤ 300) (hn1 : n1 ≤ 300) :
    Calls Tryd.prog 28 #[.slice A0 n0 c0, .slice A1 n1 c1] w0 fun e w' => ∃ v, e = .returned (.tuple #[v, .int .i64 (n0 * n1 : Nat)]) ∧ ZRow w0.heap.size w' v (n0 + n1 - 1) (mlN xs ys (n0 + n1 - 1) n0) ∧ Below w0.heap.size w0 w' := by
  refine enter Tryd.func28 rfl Tryd.ntmps28 rfl ?_
  intro a henv hst
  have hlen0 := h0.2.1
  have hlen1 := h1.2.1
  have hbig0 := Nat.le_trans h0.1.cap h0.1.big
  unfold maxLen at hbig0
  replace hst := (hst.argRow h1).argRow h0
  clear h0 h1
  refine wp_seq ?_
  refine region_seq ?_
  revert a
  refine aA rfl rfl ?_
  refine aA rfl rfl ?_
  intro a henv
  refine wpList_nil ?_
  refine th_n ?_
  refine wp_seq ?_
  refine wp_seq ?_
  refine region_seq ?_
  revert a
  refine mA rfl rfl ?_
  refine sA (v := .int .i64 (n0 : Nat)) rfl (fun _ henv => rn_len henv Tryd.underlying24 rfl) ?_
  refine sA (v := .bool (((n0 : Nat) : Int) == (0 : Int))) rfl (fun _ henv => rn_bin henv rfl rfl rfl) ?_
  intro a henv
  rw [show (((n0 : Nat) : Int) == (0 : Int)) = false from (beq_eq_false_iff_ne.2 (by omega))] at henv
  revert a
  refine mA rfl rfl ?_
  refine gA (v := .slice A1 n1 c1) rfl rfl rfl rfl (fun _ henv => rn_move henv rfl) ?_
  refine gA (v := .int .i64 (n1 : Nat)) rfl rfl rfl rfl (fun _ henv => rn_len henv Tryd.underlying24 rfl) ?_
  refine gA (v := .bool (((n1 : Nat) : Int) == (0 : Int))) rfl rfl rfl rfl (fun _ henv => rn_bin henv rfl rfl rfl) ?_
  intro a henv
  rw [show (((n1 : Nat) : Int) == (0 : Int)) = false from (beq_eq_false_iff_ne.2 (by omega))] at henv
  refine sv (v := .bool false) henv rfl (rn_pick henv rfl rfl) ?_
  clear henv a; intro a henv
  refine wpList_nil ?_
  refine th_n ?_
  refine if_f henv rfl (rfl) ?_
  refine wp_skip ?_
  refine th_n ?_
  refine wp_seq ?_
  refine region_seq ?_
  revert a
  refine mA rfl rfl ?_
  refine sA (v := .int .i64 (n0 : Nat)) rfl (fun _ henv => rn_len henv Tryd.underlying24 rfl) ?_
  refine mA rfl rfl ?_
  refine sA (v := .int .i64 (n1 : Nat)) rfl (fun _ henv => rn_len henv Tryd.underlying24 rfl) ?_
  refine sA (v := .int .i64 (n0 + n1 : Nat)) rfl (fun _ henv => rn_add henv rfl rfl (by rw [IntWalk.i64_in _ (by omega)]; omega)) ?_
  refine sA (v := .int .i64 ((n0 + n1) - 1 : Nat)) rfl (fun _ henv => rn_sub henv rfl rfl (by rw [IntWalk.i64_in _ (by omega)]; omega)) ?_
  intro a henv
  refine seq_step rfl (op_makeS (f := fN) (e0 := (none, 0, 0)) (q := notU) (n := (n0 + n1) - 1) henv hst rfl Tryd.underlying24 inf_anvil_integer_Int rfl rfl fN_zero rfl rfl rfl (by omega) (by unfold maxLen; omega) ?_)
  clear henv hst a; intro a w52 g51 henv hst
  replace hst := hst.addNs (es_zeros (n0 + n1 - 1) _) ⟨nou_rowS, trivial⟩
  refine sv (v := .slice (some ⟨g51, 0, none⟩) ((n0 + n1) - 1) ((n0 + n1) - 1)) henv rfl (rn_assign henv rfl) ?_
  clear henv a; intro a henv
  refine wpList_nil ?_
  refine th_n ?_
  refine wp_seq ?_
  refine region_seq ?_
  refine sv (v := .int .i64 0) henv rfl (rn_assign henv rfl) ?_
  clear henv a; intro a henv
  refine wpList_nil ?_
  refine th_n ?_
  refine wp_seq ?_
  refine wp_seq ?_
  refine region_seq ?_
  revert a
  refine mA rfl rfl ?_
  refine sA (v := .int .i64 (n0 : Nat)) rfl (fun _ henv => rn_len henv Tryd.underlying24 rfl) ?_
  refine mA rfl rfl ?_
  intro a henv
  refine wpList_nil ?_
  refine th_n ?_
  refine wp_block ?_
  refine wp_loop_ghost (fun mz a w => ∃ i : Nat, ∃ q : Nat, ∃ os : List NE, n0 - i = mz ∧ Env 62 a [(1, .slice A1 n1 c1), (6, .slice (some ⟨g51, 0, none⟩) ((n0 + n1) - 1) ((n0 + n1) - 1)), (7, .int .i64 (q : Nat)), (27, .slice A0 n0 c0), (28, .int .i64 (n0 : Nat)), (29, .int .i64 (i : Nat))] ∧ St w0 w [rowS notU 39 2 (some ⟨g51, 0, none⟩) ((n0 + n1) - 1) ((n0 + n1) - 1) (fl fN os)] [pfRow fN FN 2 A0 n0 c0 es0, pfRow fN FN 2 A1 n1 c1 es1, pfEs FN os] ∧ i ≤ n0 ∧ q = i * n1 ∧ os.map zz = mlN xs ys ((n0 + n1) - 1) i ∧ Zk (2000 + 300 * i) (os.map zz)) _ ⟨0, 0, (List.replicate ((n0 + n1) - 1) (none, 0, 0)), rfl, henv.sub ⟨rfl, rfl, rfl, rfl, rfl, rfl, trivial⟩, hst.pick [0] [1, 2, 0] (by decide), (Nat.zero_le _), (by omega), (by rw [List.map_replicate]; rfl), (fun z hz => by rw [List.map_replicate] at hz; rw [List.eq_of_mem_replicate hz]; exact Nat.le_trans (by rw [zl_zero]; omega) (Nat.zero_le _))⟩ ?_
  clear henv hst a
  rintro mz a w53 ⟨i, q, os, rfl, henv, hst, hi, hq, ho, hkz⟩
  refine wp_seq ?_
  refine region_seq ?_
  refine sv (v := .bool (decide (((i : Nat) : Int) < ((n0 : Nat) : Int)))) henv rfl (rn_bin henv rfl rfl rfl) ?_
  clear henv a; intro a henv
  refine wpList_nil ?_
  refine th_n ?_
  refine wp_seq ?_
  refine if_split henv rfl (fun hc54 => ?_) (fun hc54 => ?_)
  · have hlt0 : i < n0 := by have := of_decide_eq_true hc54; omega
    obtain ⟨⟨A, c, x⟩, he0⟩ : ∃ e, es0[i]? = some e := ⟨_, List.getElem?_eq_getElem (by omega)⟩
    replace hst := hst.elem (k := 0) rfl he0
    replace hst : St w0 _ [rowS notU 39 2 (some ⟨g51, 0, none⟩) ((n0 + n1) - 1) ((n0 + n1) - 1) (fl fN os)] [pfZ A c x, pfRow fN FN 2 A0 n0 c0 es0, pfRow fN FN 2 A1 n1 c1 es1, pfEs FN os] := hst
    replace hst : St w0 _ [rowS notU 39 2 (some ⟨g51, 0, none⟩) ((n0 + n1) - 1) ((n0 + n1) - 1) (fl fN os)] [pfZ A c x, pfRow fN FN 2 A0 n0 c0 es0, pfRow fN FN 2 A1 n1 c1 es1, pfEs FN os] := hst
    have hx1 : zl x ≤ 1000 := hk0.es hz0 _ (List.mem_of_getElem? he0)
    have hin : i * n1 ≤ 90000 := Nat.mul_le_mul (show i ≤ 300 by omega) hn1
    have hxi : xs.getD i 0 = x := by rw [List.getD_eq_getElem?_getD, ← hz0, List.getElem?_map, he0]; rfl
    have hyl : ys.length = n1 := by rw [← hz1, List.length_map, hlen1]
    refine wp_skip ?_
    refine th_n ?_
    refine wp_seq ?_
    refine wp_block ?_
    refine wp_seq ?_
    refine region_seq ?_
    revert a
    refine mA rfl rfl ?_
    refine sA (v := .pointer (some ⟨ab A0, ao A0 + i * 2, none⟩)) rfl (fun _ henv => rn_idxR (i := i) henv Tryd.underlying24 (ty_anvil_integer_Int.size) rfl rfl (by omega) rfl (show (pfRow fN FN 2 A0 n0 c0 es0).P _ from (hst.pat (k := 1) rfl)).1) ?_
    refine sA (v := .agg #[.bool (neg x), .slice A (zl x) c]) rfl (fun _ henv => rn_loadE (i := i) (e := (A, c, x)) henv ty_anvil_integer_Int rfl rfl fN_len (show (pfRow fN FN 2 A0 n0 c0 es0).P _ from (hst.pat (k := 1) rfl)).1 (by omega) he0 rfl) ?_
    intro a henv
    refine seq_step rfl (op_alloc (c := #[.bool (neg 0), .slice none (zl 0) 0]) henv hst rfl zero_anvil_integer_Int zcells ?_)
    clear henv hst a; intro a w56 g55 henv hst
    refine sv (v := .int .i64 (i : Nat)) henv rfl (rn_assign henv rfl) ?_
    clear henv a; intro a henv
    refine seq_step rfl (op_store (k := 0) (c' := #[.bool (neg x), .slice A (zl x) c]) henv hst (ty_anvil_integer_Int.size) rfl rfl rfl rfl (by simp) rfl rfl ?_)
    clear henv hst a; intro a w57 henv hst
    refine wpList_nil ?_
    refine th_n ?_
    refine wp_seq ?_
    refine region_seq ?_
    revert a
    refine mA rfl rfl ?_
    refine sA (v := .int .i64 (n1 : Nat)) rfl (fun _ henv => rn_len henv Tryd.underlying24 rfl) ?_
    refine mA rfl rfl ?_
    intro a henv
    refine wpList_nil ?_
    refine th_n ?_
    refine wp_block ?_
    refine wp_loop_ghost (fun mz a w => ∃ j : Nat, ∃ p : Nat, ∃ ps : List NE, n1 - j = mz ∧ Env 62 a [(1, .slice A1 n1 c1), (6, .slice (some ⟨g51, 0, none⟩) ((n0 + n1) - 1) ((n0 + n1) - 1)), (7, .int .i64 (p : Nat)), (8, .int .i64 (i : Nat)), (9, .pointer (some ⟨g55, 0, none⟩)), (27, .slice A0 n0 c0), (28, .int .i64 (n0 : Nat)), (29, .int .i64 (i : Nat)), (34, .slice A1 n1 c1), (35, .int .i64 (n1 : Nat)), (36, .int .i64 (j : Nat))] ∧ St w0 w [rowS notU 39 2 (some ⟨g51, 0, none⟩) ((n0 + n1) - 1) ((n0 + n1) - 1) (fl fN ps), bk g55 #[.bool (neg x), .slice A (zl x) c] 39] [pfRow fN FN 2 A0 n0 c0 es0, pfRow fN FN 2 A1 n1 c1 es1, pfZ A c x, pfEs FN ps] ∧ j ≤ n1 ∧ p = q + j ∧ ps.map zz = adN (ys.map (x * ·)) i (mlN xs ys ((n0 + n1) - 1) i) j ∧ Zk (2000 + 300 * i + j) (ps.map zz)) _ ⟨0, q, os, rfl, henv.sub ⟨rfl, rfl, rfl, rfl, rfl, rfl, rfl, rfl, rfl, rfl, rfl, trivial⟩, hst.pick [1, 0] [1, 2, 0, 3] (by decide), (Nat.zero_le _), (by omega), ho, hkz⟩ ?_
    clear henv hst a
    rintro mz a w58 ⟨j, p, ps, rfl, henv, hst, hj, hp, ho2, hkz2⟩
    refine wp_seq ?_
    refine region_seq ?_
    refine sv (v := .bool (decide (((j : Nat) : Int) < ((n1 : Nat) : Int)))) henv rfl (rn_bin henv rfl rfl rfl) ?_
    clear henv a; intro a henv
    refine wpList_nil ?_
    refine th_n ?_
    refine wp_seq ?_
    refine if_split henv rfl (fun hc59 => ?_) (fun hc59 => ?_)
    · have hlt : j < n1 := by have := of_decide_eq_true hc59; omega
      have hpl : ps.length = n0 + n1 - 1 := by rw [← List.length_map (f := zz), ho2, adN_len, mlN_len]
      obtain ⟨⟨C, d, y⟩, he1⟩ : ∃ e, es1[j]? = some e := ⟨_, List.getElem?_eq_getElem (by omega)⟩
      replace hst := hst.elem (k := 1) rfl he1
      replace hst : St w0 _ [rowS notU 39 2 (some ⟨g51, 0, none⟩) ((n0 + n1) - 1) ((n0 + n1) - 1) (fl fN ps), bk g55 #[.bool (neg x), .slice A (zl x) c] 39] [pfZ C d y, pfRow fN FN 2 A0 n0 c0 es0, pfRow fN FN 2 A1 n1 c1 es1, pfZ A c x, pfEs FN ps] := hst
      replace hst : St w0 _ [rowS notU 39 2 (some ⟨g51, 0, none⟩) ((n0 + n1) - 1) ((n0 + n1) - 1) (fl fN ps), bk g55 #[.bool (neg x), .slice A (zl x) c] 39] [pfZ C d y, pfRow fN FN 2 A0 n0 c0 es0, pfRow fN FN 2 A1 n1 c1 es1, pfZ A c x, pfEs FN ps] := hst
      obtain ⟨⟨E, f, z⟩, he2⟩ : ∃ e, ps[i + j]? = some e := ⟨_, List.getElem?_eq_getElem (by omega)⟩
      replace hst := hst.elemE (k := 4) rfl he2
      replace hst : St w0 _ [rowS notU 39 2 (some ⟨g51, 0, none⟩) ((n0 + n1) - 1) ((n0 + n1) - 1) (fl fN ps), bk g55 #[.bool (neg x), .slice A (zl x) c] 39] [pfZ E f z, pfZ C d y, pfRow fN FN 2 A0 n0 c0 es0, pfRow fN FN 2 A1 n1 c1 es1, pfZ A c x, pfEs FN ps] := hst
      have hy1 : zl y ≤ 1000 := hk1.es hz1 _ (List.mem_of_getElem? he1)
      have hzz : zl z ≤ 2000 + 300 * i + j := hkz2.es rfl _ (List.mem_of_getElem? he2)
      have hxy := zl_mul x y
      refine wp_skip ?_
      refine th_n ?_
      refine wp_seq ?_
      refine wp_block ?_
      refine wp_seq ?_
      refine region_seq ?_
      revert a
      refine mA rfl rfl ?_
      refine sA (v := .pointer (some ⟨ab A1, ao A1 + j * 2, none⟩)) rfl (fun _ henv => rn_idxR (i := j) henv Tryd.underlying24 (ty_anvil_integer_Int.size) rfl rfl (by omega) rfl (show (pfRow fN FN 2 A1 n1 c1 es1).P _ from (hst.pat (k := 3) rfl)).1) ?_
      refine sA (v := .agg #[.bool (neg y), .slice C (zl y) d]) rfl (fun _ henv => rn_loadE (i := j) (e := (C, d, y)) henv ty_anvil_integer_Int rfl rfl fN_len (show (pfRow fN FN 2 A1 n1 c1 es1).P _ from (hst.pat (k := 3) rfl)).1 (by omega) he1 rfl) ?_
      intro a henv
      refine seq_step rfl (op_alloc (c := #[.bool (neg 0), .slice none (zl 0) 0]) henv hst rfl zero_anvil_integer_Int zcells ?_)
      clear henv hst a; intro a w61 g60 henv hst
      refine sv (v := .int .i64 (j : Nat)) henv rfl (rn_assign henv rfl) ?_
      clear henv a; intro a henv
      refine seq_step rfl (op_store (k := 0) (c' := #[.bool (neg y), .slice C (zl y) d]) henv hst (ty_anvil_integer_Int.size) rfl rfl rfl rfl (by simp) rfl rfl ?_)
      clear henv hst a; intro a w62 henv hst
      refine wpList_nil ?_
      refine th_n ?_
      refine wp_seq ?_
      refine region_any (n := 16) (Sk [bk g60 #[.bool (neg y), .slice C (zl y) d] 39, bk g55 #[.bool (neg x), .slice A (zl x) c] 39] [pfZ E f z, pfZ C d y, pfRow fN FN 2 A0 n0 c0 es0, pfRow fN FN 2 A1 n1 c1 es1, pfZ A c x, pfEs FN ps] [15] [rowS notU 39 2 (some ⟨g51, 0, none⟩) ((n0 + n1) - 1) ((n0 + n1) - 1) (fl fN ps)]) mixed rfl henv hst ?_
      clear henv hst; intro w63 henv hst
      refine tM (i := 0) [14, 15] rfl (by kernel_rfl) (fun _ _ _ h => h) henv rfl rfl ?_
      clear henv a; intro a henv
      refine tM (i := 1) [3, 14, 15] rfl (by kernel_rfl) (fun _ _ _ h => h) henv rfl rfl ?_
      clear henv a; intro a henv
      refine tM (i := 2) [3, 14, 15] rfl (by kernel_rfl) (fun _ _ _ h => h) henv rfl rfl ?_
      clear henv a; intro a henv
      refine tA (i := 3) [14, 15] (v := .int .i64 (i + j : Nat)) rfl (by kernel_rfl) (fun _ _ _ h => h) henv rfl (fun _ => rn_add henv rfl rfl (by rw [IntWalk.i64_in _ (by omega)]; omega)) ?_
      clear henv a; intro a henv
      refine tM (i := 4) [8, 9, 13, 14, 15] rfl (by kernel_rfl) (fun _ _ _ h => h) henv rfl rfl ?_
      clear henv a; intro a henv
      refine tM (i := 5) [7, 8, 9, 13, 14, 15] rfl (by kernel_rfl) (fun _ _ _ h => h) henv rfl rfl ?_
      clear henv a; intro a henv
      refine tM (i := 6) [7, 8, 9, 13, 14, 15] rfl (by kernel_rfl) (fun _ _ _ h => h) henv rfl rfl ?_
      clear henv a; intro a henv
      refine tA (i := 7) [8, 9, 13, 14, 15] (v := .int .i64 (i + j : Nat)) rfl (by kernel_rfl) (fun _ _ _ h => h) henv rfl (fun _ => rn_add henv rfl rfl (by rw [IntWalk.i64_in _ (by omega)]; omega)) ?_
      clear henv a; intro a henv
      refine sAny_take (i := 8) [9, 13, 14, 15] (fun w' => (rowS notU 39 2 (some ⟨g51, 0, none⟩) ((n0 + n1) - 1) ((n0 + n1) - 1) (fl fN ps)).P w') (v := .pointer (some ⟨ab (some ⟨g51, 0, none⟩), ao (some ⟨g51, 0, none⟩) + (i + j) * 2, none⟩)) rfl (by kernel_rfl) (fun _ _ _ h => h) (fun _ _ hj hS => (hS.two rfl hj).owns (k := 0) rfl) henv rfl (hst.owns (k := 1) rfl) (fun w' hg => rn_idxR (i := i + j) henv Tryd.underlying24 (ty_anvil_integer_Int.size) rfl rfl (by omega) rfl (rowS_rd hg)) ?_
      clear henv a; intro a henv
      refine sAny_take (i := 9) [13, 14, 15] (fun w' => (rowS notU 39 2 (some ⟨g51, 0, none⟩) ((n0 + n1) - 1) ((n0 + n1) - 1) (fl fN ps)).P w') (v := .agg #[.bool (neg z), .slice E (zl z) f]) rfl (by kernel_rfl) (fun _ _ _ h => h) (fun _ _ hj hS => (hS.two rfl hj).owns (k := 0) rfl) henv rfl (hst.owns (k := 1) rfl) (fun w' hg => rn_loadE (i := i + j) (e := (E, f, z)) henv ty_anvil_integer_Int rfl rfl fN_len (rowS_rd hg) (by omega) he2 rfl) ?_
      clear henv a; intro a henv
      refine tL (i := 10) 1 2 (rg 12 4) rfl (by kernel_rfl) (fun _ _ _ h => h) henv rfl ty_anvil_integer_Int rfl hst rfl rfl rfl ?_
      clear henv a; intro a henv
      refine tL (i := 11) 0 0 (rg 12 4) rfl (by kernel_rfl) (fun _ _ _ h => h) henv rfl ty_anvil_integer_Int rfl hst rfl rfl rfl ?_
      clear henv a; intro a henv
      have hs64 := zl_mul x y
      refine sAny_one (i := 12) (by kernel_rfl) rfl rfl (op_call henv rfl Tryd.call46 rfl (mul_z (x := x) (y := y) (show ZIn _ A c x from hst.pat (k := 4) rfl) (show ZIn _ C d y from hst.pat (k := 1) rfl) (by omega) (by omega)) ?_)
      rintro e w68 ⟨_, rfl, ⟨A65, c66, rfl, hz67⟩, hb⟩
      refine ⟨_, rfl, ?_⟩
      clear henv a; intro a henv
      replace hst := (hst.call hb).addZ hz67 ⟨nou_bk rfl, nou_rowS, nou_bk rfl, trivial⟩
      clear hz67
      clear hb
      refine ⟨.inr ⟨hst.kn.pick [0, 2] (rg 1 6), .inr (hst.kn.pick [1] [])⟩, ?_⟩
      have hs69 := zl_add z (x * y)
      refine sAny_one (i := 13) (by kernel_rfl) rfl rfl (op_call henv rfl Tryd.call36 rfl (add_z (x := z) (y := x * y) (show ZIn _ E f z from hst.pat (k := 1) rfl) (show ZIn _ A65 c66 (x * y) from hst.pat (k := 0) rfl) (by omega) (by omega)) ?_)
      rintro e w73 ⟨_, rfl, ⟨A70, c71, rfl, hz72⟩, hb⟩
      refine ⟨_, rfl, ?_⟩
      clear henv a; intro a henv
      replace hst := (hst.call hb).addZ hz72 ⟨nou_bk rfl, nou_rowS, nou_bk rfl, trivial⟩
      clear hz72
      clear hb
      refine ⟨.inr ⟨hst.kn.pick [0, 2] (rg 2 6), .inr (hst.kn.pick [1] [])⟩, ?_⟩
      refine sAny_take (i := 14) [15] (fun w' => (rowS notU 39 2 (some ⟨g51, 0, none⟩) ((n0 + n1) - 1) ((n0 + n1) - 1) (fl fN ps)).P w') (v := .pointer (some ⟨ab (some ⟨g51, 0, none⟩), ao (some ⟨g51, 0, none⟩) + (i + j) * 2, none⟩)) rfl (by kernel_rfl) (fun _ _ _ h => h) (fun _ _ hj hS => (hS.two rfl hj).owns (k := 0) rfl) henv rfl (hst.owns (k := 1) rfl) (fun w' hg => rn_idxR (i := i + j) henv Tryd.underlying24 (ty_anvil_integer_Int.size) rfl rfl (by omega) rfl (rowS_rd hg)) ?_
      clear henv a; intro a henv
      refine sAny_one (i := 15) (by kernel_rfl) rfl rfl (op_storeS (i := i + j) (e := (A70, c71, (z + (x * y)))) (k := 1) henv hst (ty_anvil_integer_Int.size) rfl rfl rfl rfl fN_len (by omega) hpl rfl rfl rfl ?_)
      clear henv hst a; intro a w74 henv hst
      replace hst := hst.setEs (e := (A70, c71, (z + (x * y)))) (i := 7) (j := 0) rfl rfl (i + j)
      refine ⟨.inr ⟨hst.kn.pick [0, 2] (rg 3 6), .inl rfl⟩, ?_⟩
      refine sAny_done (by kernel_rfl) ?_ _
      refine th_n ?_
      refine region_seq ?_
      revert a
      refine mA rfl rfl ?_
      refine sA (v := .int .i64 (p + 1 : Nat)) rfl (fun _ henv => rn_add henv rfl rfl (by rw [IntWalk.i64_in _ (by omega)]; omega)) ?_
      refine aA rfl rfl ?_
      intro a henv
      refine wpList_nil ?_
      refine bl_n (th_n ?_)
      refine region_seq ?_
      revert a
      refine sA (v := .int .i64 (j + 1 : Nat)) rfl (fun _ henv => rn_add henv rfl rfl (by rw [IntWalk.i64_in _ (by omega)]; omega)) ?_
      refine mA rfl rfl ?_
      intro a henv
      refine wpList_nil ?_
      exact th_n ⟨_, (by omega), ⟨j + 1, p + 1, (ps.set (i + j) (A70, c71, (z + (x * y)))), rfl, henv.sub ⟨rfl, rfl, rfl, rfl, rfl, rfl, rfl, rfl, rfl, rfl, rfl, trivial⟩, hst.pick [1, 2] [5, 6, 7, 0] (by decide), (by omega), (by omega), (ml_step ho2 hz1 he1 he2), (zk_set hkz2 (by have := zl_addm z (x * y); have := zl_mul x y; omega) (by omega))⟩⟩
    · obtain rfl : n1 = j := by have := of_decide_eq_false hc59; omega
      refine wp_exit ?_
      refine th_x (th_x (bl_x (bl_n (th_n ?_))))
      refine region_seq ?_
      revert a
      refine sA (v := .int .i64 (i + 1 : Nat)) rfl (fun _ henv => rn_add henv rfl rfl (by rw [IntWalk.i64_in _ (by omega)]; omega)) ?_
      refine mA rfl rfl ?_
      intro a henv
      refine wpList_nil ?_
      exact th_n ⟨_, (by omega), ⟨i + 1, p, ps, rfl, henv.sub ⟨rfl, rfl, rfl, rfl, rfl, rfl, trivial⟩, hst.pick [0] [0, 1, 3] (by decide), (by omega), (by rw [Nat.succ_mul]; omega), (by rw [ho2, mlN, hyl, hxi]), (hkz2.mono (by omega))⟩⟩
  · obtain rfl : n0 = i := by have := of_decide_eq_false hc54; omega
    refine wp_exit ?_
    refine th_x (th_x (bl_x (th_n ?_)))
    refine wp_seq ?_
    refine region_seq ?_
    revert a
    refine mA rfl rfl ?_
    refine mA rfl rfl ?_
    refine aA rfl rfl ?_
    refine aA rfl rfl ?_
    intro a henv
    refine wpList_nil ?_
    refine th_n ?_
    refine wp_ret ?_
    refine leave henv (res2 Tryd.results28 (RV.tmp henv rfl) (RV.tmp henv rfl)) ?_
    subst hq
    exact ⟨_, rfl, ⟨_, _, os, rfl, hst.newRow (k := 0) (j := 2) rfl rfl, (by rw [← List.length_map (f := zz), ho, mlN_len]), ho⟩, hst.below⟩
set_option maxRecDepth 100000 in
set_option maxHeartbeats 2000000 in
theorem al_one {A B : Option Addr} {c d : Nat} {x y : Int} {w0 : World} (hx : ZIn w0 A c x) (hy : ZIn w0 B d y) (_hn : zl x ≤ 100000) (_hm : zl y ≤ 100000) :
    Calls Tryd.prog 44 #[.agg #[.bool (neg x), .slice A (zl x) c], .agg #[.bool (neg y), .slice B (zl y) d]] w0 fun e w' => e = .returned (.bool (decide (x = y))) ∧ Below w0.heap.size w0 w' := by
  refine enter Tryd.func44 rfl Tryd.ntmps44 rfl ?_
  intro a henv hst
  replace hst := (hst.addZ hx trivial).addZ hy trivial
  clear hx hy
  refine wp_seq ?_
  refine region_seq ?_
  refine seq_step rfl (op_box (c := #[.bool (neg x), .slice A (zl x) c]) henv hst rfl rfl rfl ?_)
  clear henv hst a; intro a w52 g51 henv hst
  refine seq_step rfl (op_box (c := #[.bool (neg y), .slice B (zl y) d]) henv hst rfl rfl rfl ?_)
  clear henv hst a; intro a w54 g53 henv hst
  refine sv (v := .bool false) henv rfl (rn_assign henv rfl) ?_
  clear henv a; intro a henv
  refine wpList_nil ?_
  refine th_n ?_
  refine wp_seq ?_
  refine region_seq ?_
  revert a
  refine sA (v := .agg #[.bool (neg x), .slice A (zl x) c]) rfl (fun _ henv => rn_load0 henv ty_anvil_integer_Int rfl (hst.oat (k := 1) rfl) rfl) ?_
  refine sA (v := .agg #[.bool (neg y), .slice B (zl y) d]) rfl (fun _ henv => rn_load0 henv ty_anvil_integer_Int rfl (hst.oat (k := 0) rfl) rfl) ?_
  intro a henv
  refine seq_step rfl (op_call henv rfl Tryd.call45 rfl (cmp_z (x := x) (y := y) (show ZIn _ A c x from hst.pat (k := 1) rfl) (show ZIn _ B d y from hst.pat (k := 0) rfl)) ?_)
  rintro e w55 ⟨rfl, hb⟩
  refine ⟨_, rfl, ?_⟩
  clear henv a; intro a henv
  replace hst := hst.call hb
  clear hb
  revert a
  refine sA (v := .bool ((x - y).sign == (0 : Int))) rfl (fun _ henv => rn_bin henv rfl rfl rfl) ?_
  refine aA rfl rfl ?_
  intro a henv
  refine wpList_nil ?_
  refine th_n ?_
  refine wp_ret ?_
  refine leave henv (res1 Tryd.results44 (RV.tmp henv rfl)) ?_
  exact ⟨congrArg (fun b => Ending.returned (Value.bool b)) (sub_dec x y), hst.below⟩
set_option maxRecDepth 100000 in
set_option maxHeartbeats 2000000 in
theorem al_func {A0 A1 : Option Addr} {n0 n1 c0 c1 : Nat} {es0 es1 : List NE} {xs ys : List Int} {w0 : World} (h0 : (pfRow fN FN 2 A0 n0 c0 es0).P w0) (hz0 : es0.map zz = xs) (h1 : (pfRow fN FN 2 A1 n1 c1 es1).P w0) (hz1 : es1.map zz = ys) (hk0 : Zk 100000 xs) (hk1 : Zk 100000 ys) :
    Calls Tryd.prog 43 #[.slice A0 n0 c0, .slice A1 n1 c1, .func (.func 44) #[] #[]] w0 fun e w' => e = .returned (.bool (decide (xs = ys))) ∧ Below w0.heap.size w0 w' := by
  have hb0 := hk0.es hz0
  have hb1 := hk1.es hz1
  refine enter Tryd.func43 rfl Tryd.ntmps43 rfl ?_
  intro a henv hst
  have hlen0 := h0.2.1
  have hlen1 := h1.2.1
  have hbig0 := Nat.le_trans h0.1.cap h0.1.big
  unfold maxLen at hbig0
  replace hst := (hst.argRow h1).argRow h0
  clear h0 h1
  refine wp_seq ?_
  refine region_seq ?_
  refine sv (v := .bool false) henv rfl (rn_assign henv rfl) ?_
  clear henv a; intro a henv
  refine wpList_nil ?_
  refine th_n ?_
  refine wp_seq ?_
  refine wp_seq ?_
  refine region_seq ?_
  revert a
  refine mA rfl rfl ?_
  refine sA (v := .int .i64 (n0 : Nat)) rfl (fun _ henv => rn_len henv Tryd.underlying24 rfl) ?_
  refine mA rfl rfl ?_
  refine sA (v := .int .i64 (n1 : Nat)) rfl (fun _ henv => rn_len henv Tryd.underlying24 rfl) ?_
  refine sA (v := .bool (((n0 : Nat) : Int) != ((n1 : Nat) : Int))) rfl (fun _ henv => rn_bin henv rfl rfl rfl) ?_
  intro a henv
  refine wpList_nil ?_
  refine th_n ?_
  refine if_split henv rfl (fun hc51 => ?_) (fun hc51 => ?_)
  · have hne : n0 ≠ n1 := by have := hc51; simp at this; omega
    refine wp_seq ?_
    refine region_seq ?_
    refine sv (v := .bool false) henv rfl (rn_assign henv rfl) ?_
    clear henv a; intro a henv
    refine wpList_nil ?_
    refine th_n ?_
    refine wp_ret ?_
    refine th_r ?_
    refine leave henv (res1 Tryd.results43 (RV.tmp henv rfl)) ?_
    first | exact ⟨by rw [decide_eq_false (eq_ne hz0 hlen0 hz1 hlen1 hne)], hst.below⟩ | exact ⟨by rw [decide_eq_false (eq_at hz0 hz1 he0 he1 hxy)], hst.below⟩
  · have hnn : n0 = n1 := by have := hc51; simp at this; omega
    refine wp_skip ?_
    refine th_n ?_
    refine wp_seq ?_
    refine wp_seq ?_
    refine region_seq ?_
    revert a
    refine mA rfl rfl ?_
    refine sA (v := .int .i64 (n0 : Nat)) rfl (fun _ henv => rn_len henv Tryd.underlying24 rfl) ?_
    refine mA rfl rfl ?_
    intro a henv
    refine wpList_nil ?_
    refine th_n ?_
    refine wp_block ?_
    refine wp_loop_ghost (fun mz a w => ∃ j : Nat, n0 - j = mz ∧ Env 32 a [(1, .slice A1 n1 c1), (2, .func (.func 44) #[] #[]), (15, .slice A0 n0 c0), (16, .int .i64 (n0 : Nat)), (17, .int .i64 (j : Nat))] ∧ St w0 w [] [pfRow fN FN 2 A0 n0 c0 es0, pfRow fN FN 2 A1 n1 c1 es1] ∧ j ≤ n0 ∧ xs.take j = ys.take j) _ ⟨0, rfl, henv.sub ⟨rfl, rfl, rfl, rfl, rfl, trivial⟩, hst.pick [] [0, 1] (by decide), (Nat.zero_le _), rfl⟩ ?_
    clear henv hst a
    rintro mz a w52 ⟨j, rfl, henv, hst, hj, he⟩
    refine wp_seq ?_
    refine region_seq ?_
    refine sv (v := .bool (decide (((j : Nat) : Int) < ((n0 : Nat) : Int)))) henv rfl (rn_bin henv rfl rfl rfl) ?_
    clear henv a; intro a henv
    refine wpList_nil ?_
    refine th_n ?_
    refine wp_seq ?_
    refine if_split henv rfl (fun hc53 => ?_) (fun hc53 => ?_)
    · have hlt : j < n0 := by have := of_decide_eq_true hc53; omega
      obtain ⟨⟨A, c, x⟩, he0⟩ : ∃ e, es0[j]? = some e := ⟨_, List.getElem?_eq_getElem (by omega)⟩
      replace hst := hst.elem (k := 0) rfl he0
      replace hst : St w0 _ [] [pfZ A c x, pfRow fN FN 2 A0 n0 c0 es0, pfRow fN FN 2 A1 n1 c1 es1] := hst
      obtain ⟨⟨C, d, y⟩, he1⟩ : ∃ e, es1[j]? = some e := ⟨_, List.getElem?_eq_getElem (by omega)⟩
      replace hst := hst.elem (k := 2) rfl he1
      replace hst : St w0 _ [] [pfZ C d y, pfZ A c x, pfRow fN FN 2 A0 n0 c0 es0, pfRow fN FN 2 A1 n1 c1 es1] := hst
      have hx1 := hb0.at he0
      have hy1 := hb1.at he1
      refine wp_skip ?_
      refine th_n ?_
      refine wp_seq ?_
      refine wp_block ?_
      refine wp_seq ?_
      refine region_seq ?_
      revert a
      refine mA rfl rfl ?_
      refine sA (v := .pointer (some ⟨ab A0, ao A0 + j * 2, none⟩)) rfl (fun _ henv => rn_idxR (i := j) henv Tryd.underlying24 (ty_anvil_integer_Int.size) rfl rfl (by omega) rfl (show (pfRow fN FN 2 A0 n0 c0 es0).P _ from (hst.pat (k := 2) rfl)).1) ?_
      refine sA (v := .agg #[.bool (neg x), .slice A (zl x) c]) rfl (fun _ henv => rn_loadE (i := j) (e := (A, c, x)) henv ty_anvil_integer_Int rfl rfl fN_len (show (pfRow fN FN 2 A0 n0 c0 es0).P _ from (hst.pat (k := 2) rfl)).1 (by omega) he0 rfl) ?_
      intro a henv
      refine seq_step rfl (op_alloc (c := #[.bool (neg 0), .slice none (zl 0) 0]) henv hst rfl zero_anvil_integer_Int zcells ?_)
      clear henv hst a; intro a w55 g54 henv hst
      refine sv (v := .int .i64 (j : Nat)) henv rfl (rn_assign henv rfl) ?_
      clear henv a; intro a henv
      refine seq_step rfl (op_store (k := 0) (c' := #[.bool (neg x), .slice A (zl x) c]) henv hst (ty_anvil_integer_Int.size) rfl rfl rfl rfl (by simp) rfl rfl ?_)
      clear henv hst a; intro a w56 henv hst
      refine wpList_nil ?_
      refine th_n ?_
      refine wp_seq ?_
      refine region_seq ?_
      revert a
      refine mA rfl rfl ?_
      refine mA rfl rfl ?_
      refine sA (v := .pointer (some ⟨ab A1, ao A1 + j * 2, none⟩)) rfl (fun _ henv => rn_idxR (i := j) henv Tryd.underlying24 (ty_anvil_integer_Int.size) rfl rfl (by omega) rfl (show (pfRow fN FN 2 A1 n1 c1 es1).P _ from (hst.pat (k := 3) rfl)).1) ?_
      refine sA (v := .agg #[.bool (neg y), .slice C (zl y) d]) rfl (fun _ henv => rn_loadE (i := j) (e := (C, d, y)) henv ty_anvil_integer_Int rfl rfl fN_len (show (pfRow fN FN 2 A1 n1 c1 es1).P _ from (hst.pat (k := 3) rfl)).1 (by omega) he1 rfl) ?_
      intro a henv
      refine seq_step rfl (op_alloc (c := #[.bool (neg 0), .slice none (zl 0) 0]) henv hst rfl zero_anvil_integer_Int zcells ?_)
      clear henv hst a; intro a w58 g57 henv hst
      refine seq_step rfl (op_store (k := 0) (c' := #[.bool (neg y), .slice C (zl y) d]) henv hst (ty_anvil_integer_Int.size) rfl rfl rfl rfl (by simp) rfl rfl ?_)
      clear henv hst a; intro a w59 henv hst
      refine wpList_nil ?_
      refine th_n ?_
      refine wp_seq ?_
      refine region_seq ?_
      revert a
      refine mA rfl rfl ?_
      refine sA (v := .agg #[.bool (neg x), .slice A (zl x) c]) rfl (fun _ henv => rn_load0 henv ty_anvil_integer_Int rfl (hst.oat (k := 1) rfl) rfl) ?_
      refine sA (v := .agg #[.bool (neg y), .slice C (zl y) d]) rfl (fun _ henv => rn_load0 henv ty_anvil_integer_Int rfl (hst.oat (k := 0) rfl) rfl) ?_
      intro a henv
      refine seq_step rfl (op_callc (vs := #[.agg #[.bool (neg x), .slice A (zl x) c], .agg #[.bool (neg y), .slice C (zl y) d]]) henv rfl Tryd.call44 rfl rfl (calls_app (by simp) (al_one (x := x) (y := y) (show ZIn _ A c x from hst.pat (k := 1) rfl) (show ZIn _ C d y from hst.pat (k := 0) rfl) (by omega) (by omega))) ?_)
      rintro e w60 ⟨rfl, hb⟩
      refine ⟨_, rfl, ?_⟩
      clear henv a; intro a henv
      replace hst := hst.call hb
      clear hb
      refine sv (v := .bool (!(decide (x = y)))) henv rfl (rn_un henv rfl rfl) ?_
      clear henv a; intro a henv
      refine wpList_nil ?_
      refine th_n ?_
      refine if_split henv rfl (fun hc61 => ?_) (fun hc61 => ?_)
      · have hxy : ¬ x = y := by have := hc61; simpa using this
        refine wp_seq ?_
        refine region_seq ?_
        refine sv (v := .bool false) henv rfl (rn_assign henv rfl) ?_
        clear henv a; intro a henv
        refine wpList_nil ?_
        refine th_n ?_
        refine wp_ret ?_
        refine bl_r (th_r (th_r (bl_r (th_r ?_))))
        refine leave henv (res1 Tryd.results43 (RV.tmp henv rfl)) ?_
        first | exact ⟨by rw [decide_eq_false (eq_ne hz0 hlen0 hz1 hlen1 hne)], hst.below⟩ | exact ⟨by rw [decide_eq_false (eq_at hz0 hz1 he0 he1 hxy)], hst.below⟩
      · have hxy : x = y := by have := hc61; simpa using this
        refine wp_skip ?_
        refine bl_n (th_n ?_)
        refine region_seq ?_
        revert a
        refine sA (v := .int .i64 (j + 1 : Nat)) rfl (fun _ henv => rn_add henv rfl rfl (by rw [IntWalk.i64_in _ (by omega)]; omega)) ?_
        refine mA rfl rfl ?_
        intro a henv
        refine wpList_nil ?_
        exact th_n ⟨_, (by omega), ⟨j + 1, rfl, henv.sub ⟨rfl, rfl, rfl, rfl, rfl, trivial⟩, hst.pick [] [2, 3] (by decide), (by omega), (by rw [zts hz0 he0, zts hz1 he1, he, hxy])⟩⟩
    · have hjn : j = n0 := by have := of_decide_eq_false hc53; omega
      refine wp_exit ?_
      refine th_x (th_x (bl_x (th_n ?_)))
      refine wp_seq ?_
      refine region_seq ?_
      refine sv (v := .bool true) henv rfl (rn_assign henv rfl) ?_
      clear henv a; intro a henv
      refine wpList_nil ?_
      refine th_n ?_
      refine wp_ret ?_
      refine leave henv (res1 Tryd.results43 (RV.tmp henv rfl)) ?_
      have hall : xs = ys := eq_full hz0 hlen0 hz1 hlen1 (hnn ▸ rfl) (hjn ▸ he)
      exact ⟨by rw [decide_eq_true hall], hst.below⟩
set_option maxRecDepth 100000 in
set_option maxHeartbeats 2000000 in
theorem l_alike {A0 A1 : Option Addr} {n0 n1 c0 c1 : Nat} {es0 es1 : List NE} {xs ys : List Int} {w0 : World} (h0 : (pfRow fN FN 2 A0 n0 c0 es0).P w0) (hz0 : es0.map zz = xs) (h1 : (pfRow fN FN 2 A1 n1 c1 es1).P w0) (hz1 : es1.map zz = ys) (hk0 : Zk 100000 xs) (hk1 : Zk 100000 ys) :
    Calls Tryd.prog 27 #[.slice A0 n0 c0, .slice A1 n1 c1] w0 fun e w' => e = .returned (.bool (decide (xs = ys))) ∧ Below w0.heap.size w0 w' := by
  refine enter Tryd.func27 rfl Tryd.ntmps27 rfl ?_
  intro a henv hst
  have hlen0 := h0.2.1
  have hlen1 := h1.2.1
  have hbig0 := Nat.le_trans h0.1.cap h0.1.big
  unfold maxLen at hbig0
  replace hst := (hst.argRow h1).argRow h0
  clear h0 h1
  refine wp_seq ?_
  refine region_seq ?_
  refine sv (v := .bool false) henv rfl (rn_assign henv rfl) ?_
  clear henv a; intro a henv
  refine wpList_nil ?_
  refine th_n ?_
  refine wp_seq ?_
  refine region_seq ?_
  revert a
  refine mA rfl rfl ?_
  refine mA rfl rfl ?_
  intro a henv
  refine seq_step rfl (op_call henv rfl Tryd.call43 rfl (al_func (hst.pat (k := 0) rfl) hz0 (hst.pat (k := 1) rfl) hz1 hk0 hk1) ?_)
  rintro e w51 ⟨rfl, hb⟩
  refine ⟨_, rfl, ?_⟩
  clear henv a; intro a henv
  replace hst := hst.call hb
  clear hb
  refine sv (v := .bool (decide (xs = ys))) henv rfl (rn_assign henv rfl) ?_
  clear henv a; intro a henv
  refine wpList_nil ?_
  refine th_n ?_
  refine wp_ret ?_
  refine leave henv (res1 Tryd.results27 (RV.tmp henv rfl)) ?_
  exact ⟨rfl, hst.below⟩
set_option maxRecDepth 100000 in
set_option maxHeartbeats 4000000 in
theorem p_placed {A0 A1 : Option Addr} {n0 n1 c0 c1 : Nat} {es0 es1 : List NE} {xs ys : List Int} {w0 : World} (h0 : (pfRow fN FN 2 A0 n0 c0 es0).P w0) (hz0 : es0.map zz = xs) (h1 : (pfRow fN FN 2 A1 n1 c1 es1).P w0) (hz1 : es1.map zz = ys) (hk0 : Zk 1000 xs) (hk1 : Zk 1000 ys) (hn0 : n0 ≤ 100000) (hn1 : n1 ≤ 100000) :
    Calls Tryd.prog 47 #[.slice A0 n0 c0, .slice A1 n1 c1, .func (.func 36) #[] #[]] w0 fun e w' => ∃ v, e = .returned v ∧ ZRow w0.heap.size w' v (max n0 n1) ((List.range (max n0 n1)).map (sumF xs ys)) ∧ Below w0.heap.size w0 w' := by
  refine enter Tryd.func47 rfl Tryd.ntmps47 rfl ?_
  intro a henv hst
  have hlen0 := h0.2.1
  have hlen1 := h1.2.1
  have hbig0 := Nat.le_trans h0.1.cap h0.1.big
  unfold maxLen at hbig0
  replace hst := (hst.argRow h1).argRow h0
  clear h0 h1
  refine wp_seq ?_
  refine region_seq ?_
  refine sv (v := .slice none 0 0) henv rfl (rn_assign henv rfl) ?_
  clear henv a; intro a henv
  refine wpList_nil ?_
  refine th_n ?_
  refine wp_seq ?_
  refine region_seq ?_
  refine sv (v := .slice none 0 0) henv rfl (rn_assign henv rfl) ?_
  clear henv a; intro a henv
  refine wpList_nil ?_
  refine th_n ?_
  refine wp_seq ?_
  refine wp_seq ?_
  refine region_seq ?_
  revert a
  refine mA rfl rfl ?_
  refine sA (v := .int .i64 (n0 : Nat)) rfl (fun _ henv => rn_len henv Tryd.underlying24 rfl) ?_
  refine mA rfl rfl ?_
  refine sA (v := .int .i64 (n1 : Nat)) rfl (fun _ henv => rn_len henv Tryd.underlying24 rfl) ?_
  refine sA (v := .int .i64 (max n0 n1 : Nat)) rfl (fun _ henv => rn_maxN (m := n0) (n := n1) henv rfl rfl) ?_
  refine mA rfl rfl ?_
  intro a henv
  refine wpList_nil ?_
  refine th_n ?_
  refine wp_block ?_
  replace hst := (hst.addRowS notU 39 2).nilEs FN
  replace hst : St w0 _ [rowS notU 39 2 none 0 0 (fl fN ([]))] [pfEs FN ([]), pfRow fN FN 2 A0 n0 c0 es0, pfRow fN FN 2 A1 n1 c1 es1] := hst
  refine wp_loop_ghost (fun mz a w => ∃ i : Nat, ∃ B : Option Addr, ∃ d : Nat, ∃ os : List NE, max n0 n1 - i = mz ∧ Env 44 a [(0, .slice A0 n0 c0), (1, .slice A1 n1 c1), (2, .func (.func 36) #[] #[]), (7, .slice B i d), (15, .int .i64 (max n0 n1 : Nat)), (16, .int .i64 (i : Nat))] ∧ St w0 w [rowS notU 39 2 B i d (fl fN os)] [pfRow fN FN 2 A0 n0 c0 es0, pfRow fN FN 2 A1 n1 c1 es1, pfEs FN os] ∧ i ≤ max n0 n1 ∧ os.map zz = (List.range i).map (sumF xs ys)) _ ⟨0, none, 0, [], rfl, henv.sub ⟨rfl, rfl, rfl, rfl, rfl, rfl, trivial⟩, hst.pick [0] [1, 2, 0] (by decide), (Nat.zero_le _), rfl⟩ ?_
  clear henv hst a
  rintro mz a w51 ⟨i, B, d, os, rfl, henv, hst, hi, ho⟩
  refine wp_seq ?_
  refine region_seq ?_
  refine sv (v := .bool (decide (((i : Nat) : Int) < ((max n0 n1 : Nat) : Int)))) henv rfl (rn_bin henv rfl rfl rfl) ?_
  clear henv a; intro a henv
  refine wpList_nil ?_
  refine th_n ?_
  refine wp_seq ?_
  refine if_split henv rfl (fun hc52 => ?_) (fun hc52 => ?_)
  · have hlt : i < max n0 n1 := by have := of_decide_eq_true hc52; omega
    refine wp_skip ?_
    refine th_n ?_
    refine wp_seq ?_
    refine wp_block ?_
    refine wp_seq ?_
    refine region_seq ?_
    revert a
    refine mA rfl rfl ?_
    refine aA rfl rfl ?_
    intro a henv
    refine wpList_nil ?_
    refine th_n ?_
    refine wp_seq ?_
    refine region_seq ?_
    refine seq_step rfl (op_alloc (c := #[.bool (neg 0), .slice none (zl 0) 0]) henv hst rfl zero_anvil_integer_Int zcells ?_)
    clear henv hst a; intro a w55 g54 henv hst
    refine seq_step rfl (op_alloc (c := #[.bool (neg 0), .slice none (zl 0) 0]) henv hst rfl zero_anvil_integer_Int zcells ?_)
    clear henv hst a; intro a w57 g56 henv hst
    refine wpList_nil ?_
    refine th_n ?_
    refine wp_seq ?_
    refine wp_seq ?_
    refine region_seq ?_
    revert a
    refine mA rfl rfl ?_
    refine mA rfl rfl ?_
    refine sA (v := .int .i64 (n0 : Nat)) rfl (fun _ henv => rn_len henv Tryd.underlying24 rfl) ?_
    refine sA (v := .bool (decide (((i : Nat) : Int) < ((n0 : Nat) : Int)))) rfl (fun _ henv => rn_bin henv rfl rfl rfl) ?_
    intro a henv
    refine wpList_nil ?_
    refine th_n ?_
    refine if_split henv rfl (fun hc58 => ?_) (fun hc58 => ?_)
    · have hl0 : i < n0 := by have := of_decide_eq_true hc58; omega
      obtain ⟨⟨A, c, x⟩, he0⟩ : ∃ e, es0[i]? = some e := ⟨_, List.getElem?_eq_getElem (by omega)⟩
      replace hst := hst.elem (k := 0) rfl he0
      replace hst : St w0 _ [bk g56 #[.bool (neg 0), .slice none (zl 0) 0] 39, bk g54 #[.bool (neg 0), .slice none (zl 0) 0] 39, rowS notU 39 2 B i d (fl fN os)] [pfZ A c x, pfRow fN FN 2 A0 n0 c0 es0, pfRow fN FN 2 A1 n1 c1 es1, pfEs FN os] := hst
      replace hst : St w0 _ [bk g56 #[.bool (neg 0), .slice none (zl 0) 0] 39, bk g54 #[.bool (neg 0), .slice none (zl 0) 0] 39, rowS notU 39 2 B i d (fl fN os)] [pfZ A c x, pfRow fN FN 2 A0 n0 c0 es0, pfRow fN FN 2 A1 n1 c1 es1, pfEs FN os] := hst
      have hg0 : xs.getD i 0 = x := by rw [List.getD_eq_getElem?_getD, ← hz0, List.getElem?_map, he0]; rfl
      have hs0 : zl x ≤ 1000 := hk0.es hz0 _ (List.mem_of_getElem? he0)
      refine region_seq ?_
      revert a
      refine mA rfl rfl ?_
      refine mA rfl rfl ?_
      refine sA (v := .pointer (some ⟨ab A0, ao A0 + i * 2, none⟩)) rfl (fun _ henv => rn_idxR (i := i) henv Tryd.underlying24 (ty_anvil_integer_Int.size) rfl rfl (by omega) rfl (show (pfRow fN FN 2 A0 n0 c0 es0).P _ from (hst.pat (k := 1) rfl)).1) ?_
      refine sA (v := .agg #[.bool (neg x), .slice A (zl x) c]) rfl (fun _ henv => rn_loadE (i := i) (e := (A, c, x)) henv ty_anvil_integer_Int rfl rfl fN_len (show (pfRow fN FN 2 A0 n0 c0 es0).P _ from (hst.pat (k := 1) rfl)).1 (by omega) he0 rfl) ?_
      intro a henv
      refine seq_step rfl (op_store (k := 1) (c' := #[.bool (neg x), .slice A (zl x) c]) henv hst (ty_anvil_integer_Int.size) rfl rfl rfl rfl (by simp) rfl rfl ?_)
      clear henv hst a; intro a w60 henv hst
      refine wpList_nil ?_
      refine th_n ?_
      refine wp_seq ?_
      refine wp_seq ?_
      refine region_seq ?_
      revert a
      refine mA rfl rfl ?_
      refine mA rfl rfl ?_
      refine sA (v := .int .i64 (n1 : Nat)) rfl (fun _ henv => rn_len henv Tryd.underlying24 rfl) ?_
      refine sA (v := .bool (decide (((i : Nat) : Int) < ((n1 : Nat) : Int)))) rfl (fun _ henv => rn_bin henv rfl rfl rfl) ?_
      intro a henv
      refine wpList_nil ?_
      refine th_n ?_
      refine if_split henv rfl (fun hc61 => ?_) (fun hc61 => ?_)
      · have hl1 : i < n1 := by have := of_decide_eq_true hc61; omega
        obtain ⟨⟨C, f, y⟩, he1⟩ : ∃ e, es1[i]? = some e := ⟨_, List.getElem?_eq_getElem (by omega)⟩
        replace hst := hst.elem (k := 2) rfl he1
        replace hst : St w0 _ [bk g56 #[.bool (neg 0), .slice none (zl 0) 0] 39, bk g54 #[.bool (neg x), .slice A (zl x) c] 39, rowS notU 39 2 B i d (fl fN os)] [pfZ C f y, pfZ A c x, pfRow fN FN 2 A0 n0 c0 es0, pfRow fN FN 2 A1 n1 c1 es1, pfEs FN os] := hst
        replace hst : St w0 _ [bk g56 #[.bool (neg 0), .slice none (zl 0) 0] 39, bk g54 #[.bool (neg x), .slice A (zl x) c] 39, rowS notU 39 2 B i d (fl fN os)] [pfZ C f y, pfZ A c x, pfRow fN FN 2 A0 n0 c0 es0, pfRow fN FN 2 A1 n1 c1 es1, pfEs FN os] := hst
        have hg1 : ys.getD i 0 = y := by rw [List.getD_eq_getElem?_getD, ← hz1, List.getElem?_map, he1]; rfl
        have hs1 : zl y ≤ 1000 := hk1.es hz1 _ (List.mem_of_getElem? he1)
        refine region_seq ?_
        revert a
        refine mA rfl rfl ?_
        refine mA rfl rfl ?_
        refine sA (v := .pointer (some ⟨ab A1, ao A1 + i * 2, none⟩)) rfl (fun _ henv => rn_idxR (i := i) henv Tryd.underlying24 (ty_anvil_integer_Int.size) rfl rfl (by omega) rfl (show (pfRow fN FN 2 A1 n1 c1 es1).P _ from (hst.pat (k := 3) rfl)).1) ?_
        refine sA (v := .agg #[.bool (neg y), .slice C (zl y) f]) rfl (fun _ henv => rn_loadE (i := i) (e := (C, f, y)) henv ty_anvil_integer_Int rfl rfl fN_len (show (pfRow fN FN 2 A1 n1 c1 es1).P _ from (hst.pat (k := 3) rfl)).1 (by omega) he1 rfl) ?_
        intro a henv
        refine seq_step rfl (op_store (k := 0) (c' := #[.bool (neg y), .slice C (zl y) f]) henv hst (ty_anvil_integer_Int.size) rfl rfl rfl rfl (by simp) rfl rfl ?_)
        clear henv hst a; intro a w63 henv hst
        refine wpList_nil ?_
        refine th_n ?_
        refine region_seq ?_
        revert a
        refine mA rfl rfl ?_
        refine mA rfl rfl ?_
        refine sA (v := .agg #[.bool (neg x), .slice A (zl x) c]) rfl (fun _ henv => rn_load0 henv ty_anvil_integer_Int rfl (hst.oat (k := 1) rfl) rfl) ?_
        refine sA (v := .agg #[.bool (neg y), .slice C (zl y) f]) rfl (fun _ henv => rn_load0 henv ty_anvil_integer_Int rfl (hst.oat (k := 0) rfl) rfl) ?_
        intro a henv
        refine seq_step rfl (op_callc (vs := #[.agg #[.bool (neg x), .slice A (zl x) c], .agg #[.bool (neg y), .slice C (zl y) f]]) henv rfl Tryd.call36 rfl rfl (calls_app (by simp) (add_z (x := x) (y := y) (show ZIn _ A c x from hst.pat (k := 1) rfl) (show ZIn _ C f y from hst.pat (k := 0) rfl) (by first | omega | (rw [zl_zero]; omega)) (by first | omega | (rw [zl_zero]; omega)))) ?_)
        rintro e w67 ⟨_, rfl, ⟨A64, c65, rfl, hz66⟩, hb⟩
        refine ⟨_, rfl, ?_⟩
        clear henv a; intro a henv
        replace hst := (hst.call hb).addZ hz66 ⟨nou_bk rfl, nou_bk rfl, nou_rowS, trivial⟩
        clear hz66
        clear hb
        refine seq_step rfl (op_buildSlice (z := 2) (pv := #[(0, .agg #[.bool (neg (x + y)), .slice A64 (zl (x + y)) c65])]) (c := #[.bool (neg (x + y)), .slice A64 (zl (x + y)) c65]) henv hst rfl Tryd.underlying24 (ty_anvil_integer_Int.size) zero_anvil_integer_Int (by decide) (by decide) rfl (by kernel_rfl) ?_)
        clear henv hst a; intro a w69 g68 henv hst
        refine seq_step rfl (op_appendS (k := 3) (j := 0) henv hst rfl Tryd.underlying24 inf_anvil_integer_Int rfl rfl rfl rfl rfl rfl rfl rfl rfl rfl rfl (by unfold maxLen; omega) (by omega) ?_)
        clear henv hst a; intro a w72 g70 c71 henv hst
        rw [show fl fN os ++ (#[.bool (neg (x + y)), .slice A64 (zl (x + y)) c65] : Array Value).toList = fl fN (os ++ [(A64, c65, (x + y))]) from fl_snoc (f := fN) os (A64, c65, (x + y))] at hst
        replace hst := hst.snocEs (e := (A64, c65, (x + y))) (i := 5) (j := 0) rfl rfl
        refine sv (v := .slice (some ⟨g70, 0, none⟩) (i + 1) c71) henv rfl (rn_assign henv rfl) ?_
        clear henv a; intro a henv
        refine wpList_nil ?_
        refine bl_n (th_n ?_)
        refine region_seq ?_
        revert a
        refine sA (v := .int .i64 (i + 1 : Nat)) rfl (fun _ henv => rn_add henv rfl rfl (by rw [IntWalk.i64_in _ (by omega)]; omega)) ?_
        refine mA rfl rfl ?_
        intro a henv
        refine wpList_nil ?_
        exact th_n ⟨_, (by omega), ⟨i + 1, (some ⟨g70, 0, none⟩), c71, (os ++ [(A64, c65, (x + y))]), rfl, henv.sub ⟨rfl, rfl, rfl, rfl, rfl, rfl, trivial⟩, hst.pick [3] [4, 5, 0] (by decide), (by omega), (sumF_step ho (by unfold sumF; rw [hg0, hg1]))⟩⟩
      · have hl1 : n1 ≤ i := by have := of_decide_eq_false hc61; omega
        have hg1 : ys.getD i 0 = 0 := by rw [List.getD_eq_getElem?_getD, List.getElem?_eq_none (by rw [← hz1, List.length_map]; omega)]; rfl
        refine wp_skip ?_
        refine th_n ?_
        refine region_seq ?_
        revert a
        refine mA rfl rfl ?_
        refine mA rfl rfl ?_
        refine sA (v := .agg #[.bool (neg x), .slice A (zl x) c]) rfl (fun _ henv => rn_load0 henv ty_anvil_integer_Int rfl (hst.oat (k := 1) rfl) rfl) ?_
        refine sA (v := .agg #[.bool (neg 0), .slice none (zl 0) 0]) rfl (fun _ henv => rn_load0 henv ty_anvil_integer_Int rfl (hst.oat (k := 0) rfl) rfl) ?_
        intro a henv
        replace hst := hst.addZ (show ZIn _ none 0 0 from zin_none _) ⟨nou_bk rfl, nou_bk rfl, nou_rowS, trivial⟩
        refine seq_step rfl (op_callc (vs := #[.agg #[.bool (neg x), .slice A (zl x) c], .agg #[.bool (neg 0), .slice none (zl 0) 0]]) henv rfl Tryd.call36 rfl rfl (calls_app (by simp) (add_z (x := x) (y := (0 : Int)) (show ZIn _ A c x from hst.pat (k := 1) rfl) (show ZIn _ none 0 (0 : Int) from hst.pat (k := 0) rfl) (by first | omega | (rw [zl_zero]; omega)) (by first | omega | (rw [zl_zero]; omega)))) ?_)
        rintro e w77 ⟨_, rfl, ⟨A74, c75, rfl, hz76⟩, hb⟩
        refine ⟨_, rfl, ?_⟩
        clear henv a; intro a henv
        replace hst := (hst.call hb).addZ hz76 ⟨nou_bk rfl, nou_bk rfl, nou_rowS, trivial⟩
        clear hz76
        clear hb
        refine seq_step rfl (op_buildSlice (z := 2) (pv := #[(0, .agg #[.bool (neg (x + (0 : Int))), .slice A74 (zl (x + (0 : Int))) c75])]) (c := #[.bool (neg (x + (0 : Int))), .slice A74 (zl (x + (0 : Int))) c75]) henv hst rfl Tryd.underlying24 (ty_anvil_integer_Int.size) zero_anvil_integer_Int (by decide) (by decide) rfl (by kernel_rfl) ?_)
        clear henv hst a; intro a w79 g78 henv hst
        refine seq_step rfl (op_appendS (k := 3) (j := 0) henv hst rfl Tryd.underlying24 inf_anvil_integer_Int rfl rfl rfl rfl rfl rfl rfl rfl rfl rfl rfl (by unfold maxLen; omega) (by omega) ?_)
        clear henv hst a; intro a w82 g80 c81 henv hst
        rw [show fl fN os ++ (#[.bool (neg (x + (0 : Int))), .slice A74 (zl (x + (0 : Int))) c75] : Array Value).toList = fl fN (os ++ [(A74, c75, (x + (0 : Int)))]) from fl_snoc (f := fN) os (A74, c75, (x + (0 : Int)))] at hst
        replace hst := hst.snocEs (e := (A74, c75, (x + (0 : Int)))) (i := 5) (j := 0) rfl rfl
        refine sv (v := .slice (some ⟨g80, 0, none⟩) (i + 1) c81) henv rfl (rn_assign henv rfl) ?_
        clear henv a; intro a henv
        refine wpList_nil ?_
        refine bl_n (th_n ?_)
        refine region_seq ?_
        revert a
        refine sA (v := .int .i64 (i + 1 : Nat)) rfl (fun _ henv => rn_add henv rfl rfl (by rw [IntWalk.i64_in _ (by omega)]; omega)) ?_
        refine mA rfl rfl ?_
        intro a henv
        refine wpList_nil ?_
        exact th_n ⟨_, (by omega), ⟨i + 1, (some ⟨g80, 0, none⟩), c81, (os ++ [(A74, c75, (x + (0 : Int)))]), rfl, henv.sub ⟨rfl, rfl, rfl, rfl, rfl, rfl, trivial⟩, hst.pick [3] [4, 5, 0] (by decide), (by omega), (sumF_step ho (by unfold sumF; rw [hg0, hg1]))⟩⟩
    · have hl0 : n0 ≤ i := by have := of_decide_eq_false hc58; omega
      have hg0 : xs.getD i 0 = 0 := by rw [List.getD_eq_getElem?_getD, List.getElem?_eq_none (by rw [← hz0, List.length_map]; omega)]; rfl
      refine wp_skip ?_
      refine th_n ?_
      refine wp_seq ?_
      refine wp_seq ?_
      refine region_seq ?_
      revert a
      refine mA rfl rfl ?_
      refine mA rfl rfl ?_
      refine sA (v := .int .i64 (n1 : Nat)) rfl (fun _ henv => rn_len henv Tryd.underlying24 rfl) ?_
      refine sA (v := .bool (decide (((i : Nat) : Int) < ((n1 : Nat) : Int)))) rfl (fun _ henv => rn_bin henv rfl rfl rfl) ?_
      intro a henv
      refine wpList_nil ?_
      refine th_n ?_
      refine if_split henv rfl (fun hc84 => ?_) (fun hc84 => ?_)
      · have hl1 : i < n1 := by have := of_decide_eq_true hc84; omega
        obtain ⟨⟨C, f, y⟩, he1⟩ : ∃ e, es1[i]? = some e := ⟨_, List.getElem?_eq_getElem (by omega)⟩
        replace hst := hst.elem (k := 1) rfl he1
        replace hst : St w0 _ [bk g56 #[.bool (neg 0), .slice none (zl 0) 0] 39, bk g54 #[.bool (neg 0), .slice none (zl 0) 0] 39, rowS notU 39 2 B i d (fl fN os)] [pfZ C f y, pfRow fN FN 2 A0 n0 c0 es0, pfRow fN FN 2 A1 n1 c1 es1, pfEs FN os] := hst
        replace hst : St w0 _ [bk g56 #[.bool (neg 0), .slice none (zl 0) 0] 39, bk g54 #[.bool (neg 0), .slice none (zl 0) 0] 39, rowS notU 39 2 B i d (fl fN os)] [pfZ C f y, pfRow fN FN 2 A0 n0 c0 es0, pfRow fN FN 2 A1 n1 c1 es1, pfEs FN os] := hst
        have hg1 : ys.getD i 0 = y := by rw [List.getD_eq_getElem?_getD, ← hz1, List.getElem?_map, he1]; rfl
        have hs1 : zl y ≤ 1000 := hk1.es hz1 _ (List.mem_of_getElem? he1)
        refine region_seq ?_
        revert a
        refine mA rfl rfl ?_
        refine mA rfl rfl ?_
        refine sA (v := .pointer (some ⟨ab A1, ao A1 + i * 2, none⟩)) rfl (fun _ henv => rn_idxR (i := i) henv Tryd.underlying24 (ty_anvil_integer_Int.size) rfl rfl (by omega) rfl (show (pfRow fN FN 2 A1 n1 c1 es1).P _ from (hst.pat (k := 2) rfl)).1) ?_
        refine sA (v := .agg #[.bool (neg y), .slice C (zl y) f]) rfl (fun _ henv => rn_loadE (i := i) (e := (C, f, y)) henv ty_anvil_integer_Int rfl rfl fN_len (show (pfRow fN FN 2 A1 n1 c1 es1).P _ from (hst.pat (k := 2) rfl)).1 (by omega) he1 rfl) ?_
        intro a henv
        refine seq_step rfl (op_store (k := 0) (c' := #[.bool (neg y), .slice C (zl y) f]) henv hst (ty_anvil_integer_Int.size) rfl rfl rfl rfl (by simp) rfl rfl ?_)
        clear henv hst a; intro a w86 henv hst
        refine wpList_nil ?_
        refine th_n ?_
        refine region_seq ?_
        revert a
        refine mA rfl rfl ?_
        refine mA rfl rfl ?_
        refine sA (v := .agg #[.bool (neg 0), .slice none (zl 0) 0]) rfl (fun _ henv => rn_load0 henv ty_anvil_integer_Int rfl (hst.oat (k := 1) rfl) rfl) ?_
        refine sA (v := .agg #[.bool (neg y), .slice C (zl y) f]) rfl (fun _ henv => rn_load0 henv ty_anvil_integer_Int rfl (hst.oat (k := 0) rfl) rfl) ?_
        intro a henv
        replace hst := hst.addZ (show ZIn _ none 0 0 from zin_none _) ⟨nou_bk rfl, nou_bk rfl, nou_rowS, trivial⟩
        refine seq_step rfl (op_callc (vs := #[.agg #[.bool (neg 0), .slice none (zl 0) 0], .agg #[.bool (neg y), .slice C (zl y) f]]) henv rfl Tryd.call36 rfl rfl (calls_app (by simp) (add_z (x := (0 : Int)) (y := y) (show ZIn _ none 0 (0 : Int) from hst.pat (k := 0) rfl) (show ZIn _ C f y from hst.pat (k := 1) rfl) (by first | omega | (rw [zl_zero]; omega)) (by first | omega | (rw [zl_zero]; omega)))) ?_)
        rintro e w90 ⟨_, rfl, ⟨A87, c88, rfl, hz89⟩, hb⟩
        refine ⟨_, rfl, ?_⟩
        clear henv a; intro a henv
        replace hst := (hst.call hb).addZ hz89 ⟨nou_bk rfl, nou_bk rfl, nou_rowS, trivial⟩
        clear hz89
        clear hb
        refine seq_step rfl (op_buildSlice (z := 2) (pv := #[(0, .agg #[.bool (neg ((0 : Int) + y)), .slice A87 (zl ((0 : Int) + y)) c88])]) (c := #[.bool (neg ((0 : Int) + y)), .slice A87 (zl ((0 : Int) + y)) c88]) henv hst rfl Tryd.underlying24 (ty_anvil_integer_Int.size) zero_anvil_integer_Int (by decide) (by decide) rfl (by kernel_rfl) ?_)
        clear henv hst a; intro a w92 g91 henv hst
        refine seq_step rfl (op_appendS (k := 3) (j := 0) henv hst rfl Tryd.underlying24 inf_anvil_integer_Int rfl rfl rfl rfl rfl rfl rfl rfl rfl rfl rfl (by unfold maxLen; omega) (by omega) ?_)
        clear henv hst a; intro a w95 g93 c94 henv hst
        rw [show fl fN os ++ (#[.bool (neg ((0 : Int) + y)), .slice A87 (zl ((0 : Int) + y)) c88] : Array Value).toList = fl fN (os ++ [(A87, c88, ((0 : Int) + y))]) from fl_snoc (f := fN) os (A87, c88, ((0 : Int) + y))] at hst
        replace hst := hst.snocEs (e := (A87, c88, ((0 : Int) + y))) (i := 5) (j := 0) rfl rfl
        refine sv (v := .slice (some ⟨g93, 0, none⟩) (i + 1) c94) henv rfl (rn_assign henv rfl) ?_
        clear henv a; intro a henv
        refine wpList_nil ?_
        refine bl_n (th_n ?_)
        refine region_seq ?_
        revert a
        refine sA (v := .int .i64 (i + 1 : Nat)) rfl (fun _ henv => rn_add henv rfl rfl (by rw [IntWalk.i64_in _ (by omega)]; omega)) ?_
        refine mA rfl rfl ?_
        intro a henv
        refine wpList_nil ?_
        exact th_n ⟨_, (by omega), ⟨i + 1, (some ⟨g93, 0, none⟩), c94, (os ++ [(A87, c88, ((0 : Int) + y))]), rfl, henv.sub ⟨rfl, rfl, rfl, rfl, rfl, rfl, trivial⟩, hst.pick [3] [4, 5, 0] (by decide), (by omega), (sumF_step ho (by unfold sumF; rw [hg0, hg1]))⟩⟩
      · have hl1 : n1 ≤ i := by have := of_decide_eq_false hc84; omega
        have hg1 : ys.getD i 0 = 0 := by rw [List.getD_eq_getElem?_getD, List.getElem?_eq_none (by rw [← hz1, List.length_map]; omega)]; rfl
        refine wp_skip ?_
        refine th_n ?_
        refine region_seq ?_
        revert a
        refine mA rfl rfl ?_
        refine mA rfl rfl ?_
        refine sA (v := .agg #[.bool (neg 0), .slice none (zl 0) 0]) rfl (fun _ henv => rn_load0 henv ty_anvil_integer_Int rfl (hst.oat (k := 1) rfl) rfl) ?_
        refine sA (v := .agg #[.bool (neg 0), .slice none (zl 0) 0]) rfl (fun _ henv => rn_load0 henv ty_anvil_integer_Int rfl (hst.oat (k := 0) rfl) rfl) ?_
        intro a henv
        replace hst := hst.addZ (show ZIn _ none 0 0 from zin_none _) ⟨nou_bk rfl, nou_bk rfl, nou_rowS, trivial⟩
        replace hst := hst.addZ (show ZIn _ none 0 0 from zin_none _) ⟨nou_bk rfl, nou_bk rfl, nou_rowS, trivial⟩
        refine seq_step rfl (op_callc (vs := #[.agg #[.bool (neg 0), .slice none (zl 0) 0], .agg #[.bool (neg 0), .slice none (zl 0) 0]]) henv rfl Tryd.call36 rfl rfl (calls_app (by simp) (add_z (x := (0 : Int)) (y := (0 : Int)) (show ZIn _ none 0 (0 : Int) from hst.pat (k := 0) rfl) (show ZIn _ none 0 (0 : Int) from hst.pat (k := 0) rfl) (by first | omega | (rw [zl_zero]; omega)) (by first | omega | (rw [zl_zero]; omega)))) ?_)
        rintro e w100 ⟨_, rfl, ⟨A97, c98, rfl, hz99⟩, hb⟩
        refine ⟨_, rfl, ?_⟩
        clear henv a; intro a henv
        replace hst := (hst.call hb).addZ hz99 ⟨nou_bk rfl, nou_bk rfl, nou_rowS, trivial⟩
        clear hz99
        clear hb
        refine seq_step rfl (op_buildSlice (z := 2) (pv := #[(0, .agg #[.bool (neg ((0 : Int) + (0 : Int))), .slice A97 (zl ((0 : Int) + (0 : Int))) c98])]) (c := #[.bool (neg ((0 : Int) + (0 : Int))), .slice A97 (zl ((0 : Int) + (0 : Int))) c98]) henv hst rfl Tryd.underlying24 (ty_anvil_integer_Int.size) zero_anvil_integer_Int (by decide) (by decide) rfl (by kernel_rfl) ?_)
        clear henv hst a; intro a w102 g101 henv hst
        refine seq_step rfl (op_appendS (k := 3) (j := 0) henv hst rfl Tryd.underlying24 inf_anvil_integer_Int rfl rfl rfl rfl rfl rfl rfl rfl rfl rfl rfl (by unfold maxLen; omega) (by omega) ?_)
        clear henv hst a; intro a w105 g103 c104 henv hst
        rw [show fl fN os ++ (#[.bool (neg ((0 : Int) + (0 : Int))), .slice A97 (zl ((0 : Int) + (0 : Int))) c98] : Array Value).toList = fl fN (os ++ [(A97, c98, ((0 : Int) + (0 : Int)))]) from fl_snoc (f := fN) os (A97, c98, ((0 : Int) + (0 : Int)))] at hst
        replace hst := hst.snocEs (e := (A97, c98, ((0 : Int) + (0 : Int)))) (i := 5) (j := 0) rfl rfl
        refine sv (v := .slice (some ⟨g103, 0, none⟩) (i + 1) c104) henv rfl (rn_assign henv rfl) ?_
        clear henv a; intro a henv
        refine wpList_nil ?_
        refine bl_n (th_n ?_)
        refine region_seq ?_
        revert a
        refine sA (v := .int .i64 (i + 1 : Nat)) rfl (fun _ henv => rn_add henv rfl rfl (by rw [IntWalk.i64_in _ (by omega)]; omega)) ?_
        refine mA rfl rfl ?_
        intro a henv
        refine wpList_nil ?_
        exact th_n ⟨_, (by omega), ⟨i + 1, (some ⟨g103, 0, none⟩), c104, (os ++ [(A97, c98, ((0 : Int) + (0 : Int)))]), rfl, henv.sub ⟨rfl, rfl, rfl, rfl, rfl, rfl, trivial⟩, hst.pick [3] [4, 5, 0] (by decide), (by omega), (sumF_step ho (by unfold sumF; rw [hg0, hg1]))⟩⟩
  · have hin : i = max n0 n1 := by have := of_decide_eq_false hc52; omega
    refine wp_exit ?_
    refine th_x (th_x (bl_x (th_n ?_)))
    refine wp_seq ?_
    refine region_seq ?_
    revert a
    refine mA rfl rfl ?_
    refine aA rfl rfl ?_
    intro a henv
    refine wpList_nil ?_
    refine th_n ?_
    refine wp_ret ?_
    refine leave henv (res1 Tryd.results47 (RV.tmp henv rfl)) ?_
    exact ⟨_, rfl, ⟨_, _, os, congrArg (fun k => Value.slice _ k _) hin, (hin ▸ hst.newRow (k := 0) (j := 2) rfl rfl), (by have := congrArg List.length ho; simp at this; omega), (by rw [ho, hin])⟩, hst.below⟩
set_option maxRecDepth 100000 in
set_option maxHeartbeats 2000000 in
theorem p_add {A0 A1 : Option Addr} {n0 n1 c0 c1 : Nat} {es0 es1 : List NE} {xs ys : List Int} {w0 : World} (h0 : (pfRow fN FN 2 A0 n0 c0 es0).P w0) (hz0 : es0.map zz = xs) (h1 : (pfRow fN FN 2 A1 n1 c1 es1).P w0) (hz1 : es1.map zz = ys) (hk0 : Zk 1000 xs) (hk1 : Zk 1000 ys) (hn0 : n0 ≤ 100000) (hn1 : n1 ≤ 100000) :
    Calls Tryd.prog 29 #[.slice A0 n0 c0, .slice A1 n1 c1] w0 fun e w' => ∃ v, e = .returned v ∧ ZRow w0.heap.size w' v (max n0 n1) ((List.range (max n0 n1)).map (sumF xs ys)) ∧ Below w0.heap.size w0 w' := by
  refine enter Tryd.func29 rfl Tryd.ntmps29 rfl ?_
  intro a henv hst
  have hlen0 := h0.2.1
  have hlen1 := h1.2.1
  have hbig0 := Nat.le_trans h0.1.cap h0.1.big
  unfold maxLen at hbig0
  replace hst := (hst.argRow h1).argRow h0
  clear h0 h1
  refine wp_seq ?_
  refine region_seq ?_
  refine sv (v := .slice none 0 0) henv rfl (rn_assign henv rfl) ?_
  clear henv a; intro a henv
  refine wpList_nil ?_
  refine th_n ?_
  refine wp_seq ?_
  refine region_seq ?_
  revert a
  refine mA rfl rfl ?_
  refine mA rfl rfl ?_
  intro a henv
  refine seq_step rfl (op_call henv rfl Tryd.call47 rfl (p_placed (hst.pat (k := 0) rfl) hz0 (hst.pat (k := 1) rfl) hz1 hk0 hk1 hn0 hn1) ?_)
  rintro e w57 ⟨_, rfl, ⟨A51, c52, es53, rfl, hr, hl54, hz55⟩, hb⟩
  refine ⟨_, rfl, ?_⟩
  clear henv a; intro a henv
  replace hst := hst.freshRow hb hr (ap_N hr.2.1 ⟨nou_rowS, trivial⟩)
  clear hr
  clear hb
  refine sv (v := .slice A51 (max n0 n1) c52) henv rfl (rn_assign henv rfl) ?_
  clear henv a; intro a henv
  refine wpList_nil ?_
  refine th_n ?_
  refine wp_ret ?_
  refine leave henv (res1 Tryd.results29 (RV.tmp henv rfl)) ?_
  exact ⟨_, rfl, ⟨_, _, _, rfl, hst.newRow (k := 0) (j := 0) rfl rfl, hl54, hz55⟩, hst.below⟩
end Go.Proofs.YtoojllfijfjmoaaDoor.W

/- Plain laws of polynomials: coefficients, products, degrees, values. No program. No condition. -/
namespace Go.Proofs.YtoojllfijfjmoaaDoor.W
open Go.RowKit Anv Go.Lib
def sg (f : Nat → Int) : Nat → Int
  | 0 => 0
  | n + 1 => sg f n + f n
theorem sg_ext {f g : Nat → Int} : ∀ {n : Nat}, (∀ i, i < n → f i = g i) → sg f n = sg g n
  | 0, _ => rfl
  | n + 1, h => by rw [sg, sg, sg_ext fun i hi => h i (Nat.lt_succ_of_lt hi), h n (Nat.lt_succ_self n)]
theorem sg_add (f g : Nat → Int) : ∀ n, sg (fun i => f i + g i) n = sg f n + sg g n
  | 0 => rfl
  | n + 1 => by rw [sg, sg, sg, sg_add f g n]; omega
theorem sg_mul (c : Int) (f : Nat → Int) : ∀ n, sg (fun i => c * f i) n = c * sg f n
  | 0 => (Int.mul_zero c).symm
  | n + 1 => by rw [sg, sg, sg_mul c f n, Int.mul_add]
theorem sg_mulr (c : Int) (f : Nat → Int) (n : Nat) : sg (fun i => f i * c) n = sg f n * c := by
  rw [Int.mul_comm, ← sg_mul]
  exact sg_ext fun i _ => Int.mul_comm _ _
theorem sg_none {f : Nat → Int} : ∀ {n : Nat}, (∀ i, i < n → f i = 0) → sg f n = 0
  | 0, _ => rfl
  | n + 1, h => by rw [sg, sg_none fun i hi => h i (Nat.lt_succ_of_lt hi), h n (Nat.lt_succ_self n)]; rfl
theorem sg_one {f : Nat → Int} {j : Nat} : ∀ {n : Nat}, j < n → (∀ i, i < n → i ≠ j → f i = 0) → sg f n = f j
  | 0, h, _ => absurd h (Nat.not_lt_zero _)
  | n + 1, hj, h => by
    rcases Nat.lt_or_ge j n with h1 | h1
    · rw [sg, sg_one h1 fun i hi => h i (Nat.lt_succ_of_lt hi), h n (Nat.lt_succ_self n) (by omega), Int.add_zero]
    · obtain rfl : j = n := by omega
      rw [sg, sg_none fun i hi => h i (Nat.lt_succ_of_lt hi) (by omega), Int.zero_add]
theorem sg_more {f : Nat → Int} {n : Nat} : ∀ {m : Nat}, n ≤ m → (∀ i, n ≤ i → i < m → f i = 0) → sg f m = sg f n
  | 0, h, _ => by rw [Nat.le_zero.1 h]
  | m + 1, h, h0 => by
    rcases Nat.lt_or_ge n (m + 1) with h1 | h1
    · rw [sg, sg_more (by omega) fun i a b => h0 i a (Nat.lt_succ_of_lt b), h0 m (by omega) (Nat.lt_succ_self m), Int.add_zero]
    · obtain rfl : n = m + 1 := by omega
      rfl
theorem sg_first (f : Nat → Int) : ∀ n, sg f (n + 1) = f 0 + sg (fun i => f (i + 1)) n
  | 0 => by simp [sg]
  | n + 1 => by rw [sg, sg_first f n, sg]; omega
theorem sg_rev : ∀ (n : Nat) (f : Nat → Int), sg f (n + 1) = sg (fun i => f (n - i)) (n + 1)
  | 0, _ => rfl
  | n + 1, f => by
    rw [sg, sg_rev n f, sg_first (fun i => f (n + 1 - i)), Int.add_comm]
    congr 1
    exact sg_ext fun i _ => by rw [show n + 1 - (i + 1) = n - i by omega]
abbrev co (xs : List Int) (k : Nat) : Int := xs.getD k 0
theorem co_off {xs : List Int} {k : Nat} (h : xs.length ≤ k) : co xs k = 0 := by
  rw [co, List.getD_eq_getElem?_getD, List.getElem?_eq_none h]; rfl
theorem co_ext {xs ys : List Int} (hl : xs.length = ys.length) (h : ∀ k, co xs k = co ys k) : xs = ys := by
  apply List.ext_getElem?
  intro k
  rcases Nat.lt_or_ge k xs.length with h1 | h1
  · have := h k
    rw [co, co, List.getD_eq_getElem?_getD, List.getD_eq_getElem?_getD, List.getElem?_eq_getElem h1, List.getElem?_eq_getElem (by omega)] at this
    rw [List.getElem?_eq_getElem h1, List.getElem?_eq_getElem (by omega)]
    exact congrArg some this
  · rw [List.getElem?_eq_none h1, List.getElem?_eq_none (by omega)]
theorem co_map {f : Nat → Int} {n k : Nat} (h : k < n) : co ((List.range n).map f) k = f k := by
  rw [co, List.getD_eq_getElem?_getD, List.getElem?_map, List.getElem?_range h]; rfl
theorem co_mapm (xs : List Int) (c : Int) (k : Nat) : co (xs.map (c * ·)) k = c * co xs k := by
  rw [co, co, List.getD_eq_getElem?_getD, List.getD_eq_getElem?_getD, List.getElem?_map]
  cases xs[k]? with
  | none => exact (Int.mul_zero c).symm
  | some x => rfl
theorem co_set (l : List Int) (p k : Nat) (v : Int) : co (l.set p v) k = if p = k ∧ k < l.length then v else co l k := by
  rw [co, co, List.getD_eq_getElem?_getD, List.getD_eq_getElem?_getD, List.getElem?_set]
  by_cases h : p = k
  · subst h
    by_cases h1 : p < l.length
    · simp [h1]
    · simp [h1]
  · simp [h]
theorem co_ad (zs : List Int) (p : Nat) (l : List Int) (k : Nat) : ∀ j, co (adN zs p l j) k = co l k + if p ≤ k ∧ k < p + j ∧ k < l.length then co zs (k - p) else 0
  | 0 => by rw [adN, if_neg (by omega), Int.add_zero]
  | j + 1 => by
    rw [adN, co_set, adN_len]
    by_cases h : p + j = k ∧ k < l.length
    · obtain ⟨rfl, h2⟩ := h
      rw [if_pos ⟨rfl, h2⟩, if_pos ⟨by omega, by omega, h2⟩]
      have := co_ad zs p l (p + j) j
      rw [if_neg (by omega), Int.add_zero] at this
      rw [show p + j - p = j by omega, ← this]
    · rw [if_neg h, co_ad zs p l k j]
      congr 1
      by_cases h1 : p ≤ k ∧ k < p + j ∧ k < l.length
      · rw [if_pos h1, if_pos ⟨h1.1, by omega, h1.2.2⟩]
      · rw [if_neg h1, if_neg (by omega)]
def cv (f g : Nat → Int) (k : Nat) : Int := sg (fun i => f i * g (k - i)) (k + 1)
theorem co_ml (xs ys : List Int) (N k : Nat) (hk : k < N) : ∀ i, co (mlN xs ys N i) k = sg (fun t => if t ≤ k then co xs t * co ys (k - t) else 0) i
  | 0 => by
    rw [mlN, sg, co, List.getD_eq_getElem?_getD, List.getElem?_replicate, if_pos hk]
    rfl
  | i + 1 => by
    rw [mlN, co_ad, co_ml xs ys N k hk i, sg, mlN_len]
    congr 1
    by_cases h : i ≤ k
    · rw [if_pos h]
      by_cases h2 : k < i + ys.length
      · rw [if_pos ⟨h, h2, hk⟩, co_mapm]
      · rw [if_neg (by omega), co_off (xs := ys) (by omega), Int.mul_zero]
    · rw [if_neg h, if_neg (by omega)]
def mulF (xs ys : List Int) : List Int := if xs.length = 0 ∨ ys.length = 0 then [] else mlN xs ys (xs.length + ys.length - 1) xs.length
theorem mulF_len {xs ys : List Int} (h : 0 < xs.length) (h' : 0 < ys.length) : (mulF xs ys).length = xs.length + ys.length - 1 := by
  rw [mulF, if_neg (by omega), mlN_len]
theorem cv_off {xs ys : List Int} {k : Nat} (h : xs.length + ys.length ≤ k + 1) : cv (co xs) (co ys) k = 0 := sg_none fun i hi => by
  rcases Nat.lt_or_ge i xs.length with h1 | h1
  · show co xs i * co ys (k - i) = 0
    rw [co_off (xs := ys) (by omega), Int.mul_zero]
  · show co xs i * co ys (k - i) = 0
    rw [co_off h1, Int.zero_mul]
theorem cv_zero {xs ys : List Int} (h : xs.length = 0 ∨ ys.length = 0) (k : Nat) : cv (co xs) (co ys) k = 0 := sg_none fun i hi => by
  show co xs i * co ys (k - i) = 0
  rcases h with h | h
  · rw [co_off (xs := xs) (by omega), Int.zero_mul]
  · rw [co_off (xs := ys) (by omega), Int.mul_zero]
theorem co_mul (xs ys : List Int) (k : Nat) : co (mulF xs ys) k = cv (co xs) (co ys) k := by
  unfold mulF
  by_cases h : xs.length = 0 ∨ ys.length = 0
  · rw [if_pos h, cv_zero h]; rfl
  · rw [if_neg h]
    rcases Nat.lt_or_ge k (xs.length + ys.length - 1) with hk | hk
    · rw [co_ml xs ys _ k hk]
      unfold cv
      rcases Nat.le_total xs.length (k + 1) with h1 | h1
      · rw [sg_more (f := fun i => co xs i * co ys (k - i)) h1 fun i a _ => by show co xs i * _ = 0; rw [co_off a, Int.zero_mul]]
        exact sg_ext fun i hi => if_pos (by omega)
      · rw [sg_more (f := fun t => if t ≤ k then co xs t * co ys (k - t) else 0) h1 fun i a _ => if_neg (by omega)]
        exact sg_ext fun i hi => if_pos (by omega)
    · rw [cv_off (by omega), co_off (by rw [mlN_len]; omega)]
theorem cv_comm (f g : Nat → Int) (k : Nat) : cv f g k = cv g f k := by
  unfold cv
  rw [sg_rev]
  exact sg_ext fun i hi => by
    show f (k - i) * g (k - (k - i)) = g i * f (k - i)
    rw [show k - (k - i) = i by omega, Int.mul_comm]
theorem cv_ext {f f' g g' : Nat → Int} (h : ∀ i, f i = f' i) (h' : ∀ i, g i = g' i) (k : Nat) : cv f g k = cv f' g' k := by
  rw [funext h, funext h']
def addF (xs ys : List Int) : List Int := (List.range (max xs.length ys.length)).map (sumF xs ys)
def difF (xs ys : List Int) (i : Nat) : Int := xs.getD i 0 - ys.getD i 0
def subF (xs ys : List Int) : List Int := (List.range (max xs.length ys.length)).map (difF xs ys)
theorem co_add (xs ys : List Int) (k : Nat) : co (addF xs ys) k = co xs k + co ys k := by
  rcases Nat.lt_or_ge k (max xs.length ys.length) with h | h
  · exact co_map h
  · rw [co_off (by rw [addF, List.length_map, List.length_range]; exact h), co_off (xs := xs) (by omega), co_off (xs := ys) (by omega)]; rfl
theorem deg_len (xs : List Int) : degN xs ≤ xs.length := by
  unfold degN
  refine Nat.le_trans (List.dropWhile_sublist _).length_le ?_
  rw [List.length_reverse]
  exact Nat.le_refl _
theorem co_app {xs : List Int} {x : Int} {k : Nat} (h : k < xs.length) : co (xs ++ [x]) k = co xs k := by
  rw [co, co, List.getD_eq_getElem?_getD, List.getD_eq_getElem?_getD, List.getElem?_append_left h]
theorem co_last (xs : List Int) (x : Int) : co (xs ++ [x]) xs.length = x := by
  rw [co, List.getD_eq_getElem?_getD, List.getElem?_append_right (Nat.le_refl _), Nat.sub_self]; rfl
theorem co_snoc0 (xs : List Int) (k : Nat) : co (xs ++ [0]) k = co xs k := by
  rcases Nat.lt_or_ge k xs.length with h | h
  · exact co_app h
  · rcases Nat.lt_or_ge xs.length k with h1 | h1
    · rw [co_off (by rw [List.length_append]; simp; omega), co_off h]
    · obtain rfl : k = xs.length := by omega
      rw [co_last, co_off (Nat.le_refl _)]
theorem deg_lem : ∀ (m : Nat) (xs : List Int), xs.length = m → ∀ n, degN xs ≤ n ↔ ∀ k, n ≤ k → co xs k = 0 := by
  intro m
  induction m with
  | zero =>
    intro xs hl n
    obtain rfl := List.eq_nil_of_length_eq_zero hl
    exact ⟨fun _ k _ => rfl, fun _ => Nat.zero_le _⟩
  | succ m ih =>
    intro xs hl n
    rcases List.eq_nil_or_concat xs with rfl | ⟨l, x, rfl⟩
    · cases hl
    · rw [List.concat_eq_append] at hl ⊢
      rw [List.length_append] at hl
      have hl2 : l.length = m := by simpa using hl
      clear hl
      by_cases hx : x = 0
      · subst hx
        rw [deg_snoc0, ih l hl2]
        exact ⟨fun h k hk => (co_snoc0 l k).trans (h k hk), fun h k hk => (co_snoc0 l k).symm.trans (h k hk)⟩
      · rw [deg_snoc hx]
        refine ⟨fun h k hk => co_off (by rw [List.length_append]; simp; omega), fun h => ?_⟩
        refine Nat.lt_of_not_le fun h1 => hx ?_
        rw [← co_last l x]
        exact h _ h1
theorem deg_iff (xs : List Int) (n : Nat) : degN xs ≤ n ↔ ∀ k, n ≤ k → co xs k = 0 := deg_lem _ xs rfl n
def trimN (xs : List Int) : List Int := xs.take (degN xs)
theorem trim_len (xs : List Int) : (trimN xs).length = degN xs := by
  rw [trimN, List.length_take]
  exact Nat.min_eq_left (deg_len xs)
theorem co_trim (xs : List Int) (k : Nat) : co (trimN xs) k = co xs k := by
  rcases Nat.lt_or_ge k (degN xs) with h | h
  · rw [co, co, List.getD_eq_getElem?_getD, List.getD_eq_getElem?_getD, trimN, List.getElem?_take_of_lt h]
  · rw [co_off (by rw [trim_len]; exact h), (deg_iff xs (degN xs)).1 (Nat.le_refl _) k h]
theorem trim_eq {xs ys : List Int} : trimN xs = trimN ys ↔ ∀ k, co xs k = co ys k := by
  constructor
  · intro h k
    rw [← co_trim xs, ← co_trim ys, h]
  · intro h
    have e : degN xs = degN ys := Nat.le_antisymm ((deg_iff _ _).2 fun k hk => (h k).trans ((deg_iff _ _).1 (Nat.le_refl _) k hk)) ((deg_iff _ _).2 fun k hk => (h k).symm.trans ((deg_iff _ _).1 (Nat.le_refl _) k hk))
    exact co_ext (by rw [trim_len, trim_len, e]) fun k => by rw [co_trim, co_trim, h]
def hval (a b : Int) : List Int → Int
  | [] => 0
  | x :: xs => hval a b xs * a + x * b ^ xs.length
def I16 (n : Int) : Prop := -16 ≤ n ∧ n ≤ 16
instance (n : Int) : Decidable (I16 n) := by unfold I16; infer_instance
end Go.Proofs.YtoojllfijfjmoaaDoor.W

/- Plain: a product in parts; the parts' products laid over one another are the product. No program. No condition. -/
namespace Go.Proofs.YtoojllfijfjmoaaDoor.W
open Go.RowKit Anv Go.Lib
theorem sg_split (f : Nat → Int) (a : Nat) : ∀ b, sg f (a + b) = sg f a + sg (fun u => f (a + u)) b
  | 0 => (Int.add_zero _).symm
  | b + 1 => by rw [← Nat.add_assoc, sg, sg_split f a b, sg, Int.add_assoc]
theorem sg_swap (F : Nat → Nat → Int) (n : Nat) : ∀ m, sg (fun s => sg (fun i => F s i) n) m = sg (fun i => sg (fun s => F s i) m) n
  | 0 => (sg_none fun _ _ => rfl).symm
  | m + 1 => by rw [sg, sg_swap F n m, ← sg_add]; rfl
theorem sg_window {G : Nat → Int} {i K T : Nat} (h : i + K ≤ T) : sg (fun s => if i ≤ s ∧ s < i + K then G s else 0) T = sg (fun j => G (i + j)) K := by
  obtain ⟨r, rfl⟩ : ∃ r, T = i + (K + r) := ⟨T - i - K, by omega⟩
  rw [sg_split, sg_none fun s hs => if_neg (by omega), Int.zero_add, sg_split, sg_none (n := r) fun u _ => if_neg (by omega), Int.add_zero]
  exact sg_ext fun j hj => if_pos (by omega)
def sh (a : Nat) (f : Nat → Int) (t : Nat) : Int := if a ≤ t then f (t - a) else 0
theorem sh_sh (a b : Nat) (f : Nat → Int) (t : Nat) : sh a (sh b f) t = sh (a + b) f t := by
  unfold sh
  by_cases h : a ≤ t
  · rw [if_pos h]
    by_cases h2 : b ≤ t - a
    · rw [if_pos h2, if_pos (by omega), Nat.sub_sub]
    · rw [if_neg h2, if_neg (by omega)]
  · rw [if_neg h, if_neg (by omega)]
theorem sh_ext {a : Nat} {f g : Nat → Int} (h : ∀ t, f t = g t) (t : Nat) : sh a f t = sh a g t := by unfold sh; rw [h]
theorem sh_sg (a : Nat) (F : Nat → Nat → Int) (n t : Nat) : sh a (fun c => sg (fun i => F i c) n) t = sg (fun i => sh a (F i) t) n := by
  unfold sh
  by_cases h : a ≤ t
  · rw [if_pos h]; exact sg_ext fun i _ => (if_pos h).symm
  · rw [if_neg h]; exact (sg_none fun i _ => if_neg h).symm
theorem cv_sh (a : Nat) (f g : Nat → Int) (t : Nat) : cv (sh a f) g t = sh a (cv f g) t := by
  unfold cv
  by_cases h : a ≤ t
  · rw [show t + 1 = a + (t - a + 1) by omega, sg_split, sg_none fun i hi => by unfold sh; rw [if_neg (by omega), Int.zero_mul], Int.zero_add, sh, if_pos h]
    exact sg_ext fun u hu => by rw [sh, if_pos (by omega), show a + u - a = u by omega, show t - (a + u) = t - a - u by omega]
  · rw [sh, if_neg h]
    exact sg_none fun i hi => by rw [sh, if_neg (by omega), Int.zero_mul]
theorem cv_shr (a : Nat) (f g : Nat → Int) (t : Nat) : cv f (sh a g) t = sh a (cv f g) t := by
  rw [cv_comm, cv_sh]
  exact sh_ext (fun t => cv_comm g f t) t
theorem cv_sg (F : Nat → Nat → Int) (g : Nat → Int) (n t : Nat) : cv (fun c => sg (fun i => F i c) n) g t = sg (fun i => cv (F i) g t) n := by
  unfold cv
  rw [← sg_swap]
  exact sg_ext fun i _ => (sg_mulr _ _ _).symm
theorem cv_sgr (F : Nat → Nat → Int) (f : Nat → Int) (n t : Nat) : cv f (fun c => sg (fun i => F i c) n) t = sg (fun i => cv f (F i) t) n := by
  rw [cv_comm, cv_sg]
  exact sg_ext fun i _ => cv_comm _ _ _
def pts (xs : List Int) (m k : Nat) : List (List Int) := (List.range k).map (partL xs m)
theorem pts_at {xs : List Int} {m k i : Nat} (h : i < k) : (pts xs m k).getD i [] = partL xs m i := by
  rw [pts, List.getD_eq_getElem?_getD, List.getElem?_map, List.getElem?_range h]; rfl
theorem pts_len (xs : List Int) (m k : Nat) : (pts xs m k).length = k := by rw [pts, List.length_map, List.length_range]
theorem partL_len (xs : List Int) (m j : Nat) : (partL xs m j).length = m := by
  rw [partL, List.length_append, List.length_take, List.length_replicate]
  omega
theorem co_part (xs : List Int) (m j u : Nat) : co (partL xs m j) u = if u < m then co xs (j * m + u) else 0 := by
  by_cases h : u < m
  · rw [if_pos h, partL]
    unfold co
    rw [List.getD_eq_getElem?_getD, List.getD_eq_getElem?_getD, List.getElem?_append]
    by_cases h2 : u < ((xs.drop (j * m)).take m).length
    · rw [if_pos h2, List.getElem?_take, if_pos h, List.getElem?_drop]
    · rw [if_neg h2, List.getElem?_replicate]
      rw [List.length_take, List.length_drop] at h2
      rw [List.getElem?_eq_none (show xs.length ≤ j * m + u by omega)]
      split <;> rfl
  · rw [if_neg h]
    exact co_off (by rw [partL_len]; omega)
theorem co_parts {xs : List Int} {m k : Nat} (hm : 1 ≤ m) (hx : xs.length ≤ k * m) (t : Nat) : sg (fun i => sh (i * m) (co (partL xs m i)) t) k = co xs t := by
  have hd := Nat.div_add_mod t m
  have hr : t % m < m := Nat.mod_lt _ (by omega)
  rw [Nat.mul_comm] at hd
  have hoff : ∀ i, i ≠ t / m → sh (i * m) (co (partL xs m i)) t = 0 := fun i hi => by
    unfold sh
    by_cases h : i * m ≤ t
    · rw [if_pos h, co_part, if_neg]
      intro h2
      rcases Nat.lt_or_gt_of_ne hi with q | q
      · have := Nat.mul_le_mul_right m (show i + 1 ≤ t / m from q)
        rw [Nat.succ_mul] at this
        omega
      · have := Nat.mul_le_mul_right m (show t / m + 1 ≤ i from q)
        rw [Nat.succ_mul] at this
        omega
    · rw [if_neg h]
  by_cases hk : t / m < k
  · rw [sg_one hk fun i _ hi => hoff i hi]
    unfold sh
    rw [if_pos (by omega), co_part, if_pos (by omega), show t / m * m + (t - t / m * m) = t by omega]
  · rw [sg_none fun i hi => hoff i (by omega), co_off]
    have := Nat.mul_le_mul_right m (show k ≤ t / m by omega)
    omega
theorem co_jn {zss : List (List Int)} {k T t : Nat} : ∀ {n : Nat}, (∀ i, i < n → i * k + (zss.getD i []).length ≤ T) → co (jnN zss k T n) t = sg (fun i => sh (i * k) (co (zss.getD i [])) t) n
  | 0, _ => by
    show co (List.replicate T 0) t = 0
    unfold co
    rw [List.getD_eq_getElem?_getD, List.getElem?_replicate]
    split <;> rfl
  | n + 1, h => by
    rw [jnN, co_ad, co_jn fun i hi => h i (by omega), sg, jnN_len]
    congr 1
    have := h n (by omega)
    unfold sh
    by_cases h1 : n * k ≤ t
    · rw [if_pos h1]
      by_cases h2 : t < n * k + (zss.getD n []).length
      · rw [if_pos ⟨h1, h2, by omega⟩]
      · rw [if_neg (fun q => h2 q.2.1), co_off (by omega)]
    · rw [if_neg h1, if_neg (fun q => h1 q.1)]
theorem join_is {zss : List (List Int)} {k N n : Nat} {zs : List Int} (h : ∀ t, sg (fun i => sh (i * k) (co (zss.getD i [])) t) n = co zs t) (hl : zs.length = N) : degN (jnN zss k (szN zss k N n) n) ≤ N ∧ (jnN zss k (szN zss k N n) n).take N = zs := by
  have hc : ∀ t, co (jnN zss k (szN zss k N n) n) t = co zs t := fun t => (co_jn fun i hi => sz_at zss k N hi).trans (h t)
  refine ⟨(deg_iff _ _).2 fun t ht => by rw [hc, co_off (by omega)], co_ext ?_ fun t => ?_⟩
  · have := sz_ge0 zss k N n
    rw [List.length_take, jnN_len, hl]
    omega
  · by_cases ht : t < N
    · rw [← hc]
      unfold co
      rw [List.getD_eq_getElem?_getD, List.getElem?_take, if_pos ht, ← List.getD_eq_getElem?_getD]
    · rw [co_off (by rw [List.length_take]; omega), co_off (by omega)]
theorem join_parts {xs : List Int} {m k n : Nat} (hm : 1 ≤ m) (hl : xs.length = n) (hx : n ≤ k * m) : degN (jnN (pts xs m k) m (szN (pts xs m k) m n k) k) ≤ n ∧ (jnN (pts xs m k) m (szN (pts xs m k) m n k) k).take n = xs :=
  join_is (fun t => (sg_ext fun i hi => by rw [pts_at hi]).trans (co_parts hm (by omega) t)) hl
def acJ (X : List Int) (yss : List (List Int)) (p : Nat) (l : List (List Int)) : Nat → List (List Int)
  | 0 => l
  | j + 1 => (acJ X yss p l j).set (p + j) (addF ((acJ X yss p l j).getD (p + j) []) (mulF X (yss.getD j [])))
def acI (xss yss : List (List Int)) (K T : Nat) : Nat → List (List Int)
  | 0 => List.replicate T []
  | i + 1 => acJ (xss.getD i []) yss i (acI xss yss K T i) K
theorem acJ_len (X : List Int) (yss : List (List Int)) (p : Nat) (l : List (List Int)) : ∀ j, (acJ X yss p l j).length = l.length
  | 0 => rfl
  | j + 1 => by rw [acJ, List.length_set, acJ_len]
theorem acI_len (xss yss : List (List Int)) (K T : Nat) : ∀ i, (acI xss yss K T i).length = T
  | 0 => List.length_replicate
  | i + 1 => by rw [acI, acJ_len, acI_len]
theorem getD_setL (l : List (List Int)) (p k : Nat) (v : List Int) : (l.set p v).getD k [] = if p = k ∧ k < l.length then v else l.getD k [] := by
  rw [List.getD_eq_getElem?_getD, List.getD_eq_getElem?_getD, List.getElem?_set]
  by_cases h : p = k
  · subst h
    by_cases h1 : p < l.length
    · simp [h1]
    · simp [h1]
  · simp [h]
theorem co_acJ {X : List Int} {yss : List (List Int)} {p : Nat} {l : List (List Int)} (s c : Nat) : ∀ j, p + j ≤ l.length → co ((acJ X yss p l j).getD s []) c = co (l.getD s []) c + if p ≤ s ∧ s < p + j then cv (co X) (co (yss.getD (s - p) [])) c else 0
  | 0, _ => by rw [acJ, if_neg (by omega), Int.add_zero]
  | j + 1, h => by
    rw [acJ, getD_setL, acJ_len]
    by_cases q : p + j = s
    · subst q
      rw [if_pos ⟨rfl, by omega⟩, co_add, co_mul, co_acJ _ c j (by omega), if_neg (by omega), if_pos (by omega), Int.add_zero, show p + j - p = j by omega]
    · rw [if_neg fun z => q z.1, co_acJ s c j (by omega)]
      by_cases q2 : p ≤ s ∧ s < p + j
      · rw [if_pos q2, if_pos (by omega)]
      · rw [if_neg q2, if_neg (by omega)]
theorem co_acI {xss yss : List (List Int)} {K T : Nat} (s c : Nat) : ∀ i, i + K ≤ T + 1 → co ((acI xss yss K T i).getD s []) c = sg (fun t => if t ≤ s ∧ s < t + K then cv (co (xss.getD t [])) (co (yss.getD (s - t) [])) c else 0) i
  | 0, _ => by
    rw [acI, show (List.replicate T ([] : List Int)).getD s [] = [] by rw [List.getD_eq_getElem?_getD, List.getElem?_replicate]; split <;> rfl]
    rfl
  | i + 1, h => by rw [acI, co_acJ s c K (by rw [acI_len]; omega), co_acI s c i (by omega), sg]
theorem laid_join {xs ys : List Int} {m k1 k2 : Nat} (hm : 1 ≤ m) (hk1 : 1 ≤ k1) (hk2 : 1 ≤ k2) (hx : xs.length ≤ k1 * m) (hy : ys.length ≤ k2 * m) : degN (jnN (acI (pts xs m k1) (pts ys m k2) k2 (k1 + k2 - 1) k1) m (szN (acI (pts xs m k1) (pts ys m k2) k2 (k1 + k2 - 1) k1) m (mulF xs ys).length (k1 + k2 - 1)) (k1 + k2 - 1)) ≤ (mulF xs ys).length ∧
    (jnN (acI (pts xs m k1) (pts ys m k2) k2 (k1 + k2 - 1) k1) m (szN (acI (pts xs m k1) (pts ys m k2) k2 (k1 + k2 - 1) k1) m (mulF xs ys).length (k1 + k2 - 1)) (k1 + k2 - 1)).take (mulF xs ys).length = mulF xs ys := by
  refine join_is (fun t => ?_) rfl
  have e1 : ∀ s, sh (s * m) (co ((acI (pts xs m k1) (pts ys m k2) k2 (k1 + k2 - 1) k1).getD s [])) t = sg (fun i => if i ≤ s ∧ s < i + k2 then sh (s * m) (cv (co (partL xs m i)) (co (partL ys m (s - i)))) t else 0) k1 := fun s => by
    rw [sh_ext (fun c => co_acI s c k1 (by omega)) t, sh_sg]
    refine sg_ext fun i hi => ?_
    by_cases q : i ≤ s ∧ s < i + k2
    · rw [if_pos q, pts_at hi, pts_at (show s - i < k2 by omega)]
      exact sh_ext (fun c => if_pos q) t
    · rw [if_neg q]
      unfold sh
      split
      · simp only
      · rfl
  rw [sg_ext fun s _ => e1 s, sg_swap, co_mul]
  rw [cv_ext (fun c => (co_parts hm hx c).symm) (fun c => (co_parts hm hy c).symm), cv_sg]
  refine sg_ext fun i hi => ?_
  rw [sg_window (by omega), cv_sgr]
  refine sg_ext fun j hj => ?_
  rw [cv_sh, sh_ext (fun c => cv_shr (j * m) _ _ c) t, sh_sh, show i + j - i = j by omega, Nat.add_mul]
def Zc (k : Nat) (xs : List Int) : Prop := ∀ i, zl (co xs i) ≤ k
theorem Zc.zk {k : Nat} {xs : List Int} (h : Zc k xs) : Zk k xs := fun z hz => by
  obtain ⟨i, hi, e⟩ := List.mem_iff_getElem.1 hz
  have := h i
  unfold co at this
  rwa [List.getD_eq_getElem?_getD, List.getElem?_eq_getElem hi, e] at this
theorem Zk.zc {k : Nat} {xs : List Int} (h : Zk k xs) : Zc k xs := fun i => by
  unfold co
  rw [List.getD_eq_getElem?_getD]
  cases e : xs[i]? with
  | none => show zl 0 ≤ k; rw [zl_zero]; omega
  | some x => exact h x (List.mem_of_getElem? e)
theorem part_zc {k : Nat} {xs : List Int} (h : Zk k xs) (m j : Nat) : Zc k (partL xs m j) := fun u => by
  rw [co_part]
  split
  · exact h.zc _
  · rw [zl_zero]; omega
theorem ml_zc {a b : Nat} {xs ys : List Int} (hx : Zc a xs) (hy : Zc b ys) (N : Nat) : ∀ i, Zc (a + b + 1 + i) (mlN xs ys N i)
  | 0 => fun k => by
    rw [show co (mlN xs ys N 0) k = 0 by unfold co; rw [mlN, List.getD_eq_getElem?_getD, List.getElem?_replicate]; split <;> rfl, zl_zero]
    omega
  | i + 1 => fun k => by
    rw [mlN, co_ad]
    have h0 := ml_zc hx hy N i k
    split
    · have h1 := zl_addm (co (mlN xs ys N i) k) (co (ys.map (xs.getD i 0 * ·)) (k - i))
      rw [co_mapm] at h1 ⊢
      have h2 := zl_mul (xs.getD i 0) (co ys (k - i))
      have h3 := hx i
      have h4 := hy (k - i)
      unfold co at h3 h4
      unfold co at h1 h2 h0 ⊢
      omega
    · rw [Int.add_zero]; omega
theorem mul_zc {a b m : Nat} {xs ys : List Int} (hx : Zc a xs) (hy : Zc b ys) (hl : xs.length ≤ m) : Zc (a + b + 1 + m) (mulF xs ys) := fun k => by
  unfold mulF
  split
  · show zl 0 ≤ _
    rw [zl_zero]; omega
  · exact Nat.le_trans (ml_zc hx hy _ xs.length k) (by omega)
theorem add_zc {a b : Nat} {xs ys : List Int} (hx : Zc a xs) (hy : Zc b ys) (hb : b ≤ a) : Zc (a + 1) (addF xs ys) := fun k => by
  rw [co_add]
  have := zl_addm (co xs k) (co ys k)
  have := hx k
  have := hy k
  omega
theorem acJ_zc {X : List Int} {yss : List (List Int)} {p a b : Nat} {l : List (List Int)} (hl : ∀ s, Zc b (l.getD s [])) (hp : ∀ j, Zc a (mulF X (yss.getD j []))) (hab : a ≤ b) : ∀ j s, Zc (b + j) ((acJ X yss p l j).getD s [])
  | 0, s => hl s
  | j + 1, s => by
    rw [acJ, getD_setL]
    split
    · exact add_zc (acJ_zc hl hp hab j _) (hp j) (Nat.le_trans hab (Nat.le_add_right b j))
    · exact fun k => Nat.le_trans (acJ_zc hl hp hab j s k) (by omega)
theorem acI_zc {xss yss : List (List Int)} {K T a b : Nat} (hp : ∀ i j, Zc a (mulF (xss.getD i []) (yss.getD j []))) (hab : a ≤ b) : ∀ i s, Zc (b + K * i) ((acI xss yss K T i).getD s [])
  | 0, s => fun k => by
    rw [acI, show (List.replicate T ([] : List Int)).getD s [] = [] by rw [List.getD_eq_getElem?_getD, List.getElem?_replicate]; split <;> rfl]
    show zl 0 ≤ _
    rw [zl_zero]; omega
  | i + 1, s => by
    have := acJ_zc (p := i) (l := acI xss yss K T i) (acI_zc hp hab i) (hp i) (Nat.le_trans hab (Nat.le_add_right b (K * i))) K s
    rw [acI, Nat.mul_succ, ← Nat.add_assoc]
    exact this
theorem pts_zc {k m n : Nat} {xs : List Int} (h : Zk k xs) (i : Nat) : Zc k ((pts xs m n).getD i []) := by
  by_cases hi : i < n
  · rw [pts_at hi]; exact part_zc h m i
  · rw [List.getD_eq_getElem?_getD, List.getElem?_eq_none (by rw [pts_len]; omega)]
    intro k
    show zl 0 ≤ _
    rw [zl_zero]; omega
theorem pts_lens {m n : Nat} {xs : List Int} (i : Nat) : ((pts xs m n).getD i []).length ≤ m := by
  by_cases hi : i < n
  · rw [pts_at hi, partL_len]; exact Nat.le_refl _
  · rw [List.getD_eq_getElem?_getD, List.getElem?_eq_none (by rw [pts_len]; omega)]
    exact Nat.zero_le _
theorem laid_zc {xs ys : List Int} {m k1 k2 T i j s : Nat} (hx : Zk 2 xs) (hy : Zk 2 ys) (hm : m ≤ 60) (hk : k2 ≤ 8) (hi : i ≤ 8) (hj : j ≤ 8) : Zc 200 ((acJ ((pts xs m k1).getD i []) (pts ys m k2) i (acI (pts xs m k1) (pts ys m k2) k2 T i) j).getD s []) := fun k => by
  have hp : ∀ i j, Zc 65 (mulF ((pts xs m k1).getD i []) ((pts ys m k2).getD j [])) := fun i j k => Nat.le_trans (mul_zc (m := 60) (pts_zc hx i) (pts_zc hy j) (Nat.le_trans (pts_lens i) hm) k) (by omega)
  have h := acJ_zc (p := i) (l := acI (pts xs m k1) (pts ys m k2) k2 T i) (acI_zc hp (Nat.le_refl 65) i) (hp i) (Nat.le_add_right 65 (k2 * i)) j s k
  have := Nat.mul_le_mul hk hi
  omega
theorem mulF_at {xs ys : List Int} {n k : Nat} (hx : xs.length = n) (hy : ys.length = k) (h0 : 0 < n) (h1 : 0 < k) : mlN xs ys (n + k - 1) n = mulF xs ys := by
  unfold mulF
  rw [if_neg (by omega), hx, hy]
theorem ac_step {ps : List LE} {X M : List Int} {yss l : List (List Int)} {p j h n f c' n' : Nat} {E A' : Option Addr} {gs es' : List NE} (ho : ps.map lz = acJ X yss p l j) (he : ps[p + j]? = some (E, h, f, gs)) (hh : gs.length = h) (hM : M = mulF X (yss.getD j [])) (hn : M.length = n) (hz : es'.map zz = (List.range (max h n)).map (sumF (gs.map zz) M)) : (ps.set (p + j) (A', n', c', es')).map lz = acJ X yss p l (j + 1) := by
  have e : (acJ X yss p l j).getD (p + j) [] = gs.map zz := by rw [← ho, List.getD_eq_getElem?_getD, List.getElem?_map, he]; rfl
  rw [acJ, e, ← hM, List.map_set, ho]
  congr 1
  show es'.map zz = _
  rw [hz, addF, List.length_map, hh, hn]
end Go.Proofs.YtoojllfijfjmoaaDoor.W

/- Rows of rows compared; the reference's Join; split.Join's errors. Printed by pv/gen_sp8.py. No condition. -/
namespace Go.Proofs.YtoojllfijfjmoaaDoor.W
open Go.RowKit Anv Go.Lib
def fQ (v : LE) : List Value := [.slice v.1 v.2.1 v.2.2.1]
def FQ (v : LE) : PF := pfRow fM FM 2 v.1 v.2.1 v.2.2.1 v.2.2.2
end Go.Proofs.YtoojllfijfjmoaaDoor.W

/- The reference's Join. Printed by pv/gen_sp9.py. No condition. -/
namespace Go.Proofs.YtoojllfijfjmoaaDoor.W
open Go.RowKit Anv Go.Lib
def NMRow (w : World) (v : Value) (n : Nat) (zs : List Int) : Prop := ∃ A c es, v = .slice A n c ∧ (pfRow fM FM 2 A n c es).P w ∧ es.map zz = zs
set_option maxRecDepth 100000 in
set_option maxHeartbeats 4000000 in
theorem sp_join_zero {A0 : Option Addr} {n0 c0 : Nat} {es0 : List LE} {zss : List (List Int)} {k : Nat} {w0 : World} (h0 : (pfRow fL FL 1 A0 n0 c0 es0).P w0) (hz0 : es0.map lz = zss) (hlen : ∀ v ∈ es0, v.2.1 ≤ 8192) (hxk : ∀ v ∈ es0, ∀ x ∈ v.2.2.2, zl (zz x) ≤ 1000) (hn0 : n0 ≤ 15) (hk1 : 1 ≤ k) (hk4 : k ≤ 4096) (hdg : ¬ (((degN (jnN zss k (szN zss k 0 n0) n0) : Nat) : Int) - 1 ≥ (0 : Nat))) :
    Calls Tryd.prog 18 #[.slice A0 n0 c0, .int .i64 (k : Nat), .int .i64 (0 : Nat)] w0 fun e w' => e = .returned (.tuple #[.slice none 0 0, .int .i64 0]) ∧ Below w0.heap.size w0 w' := by
  refine enter Tryd.func18 rfl Tryd.ntmps18 rfl ?_
  intro a henv hst
  have hlen0 := h0.2.1
  have hbig0 := Nat.le_trans h0.1.cap h0.1.big
  unfold maxLen at hbig0
  replace hst := hst.argRow h0
  clear h0
  refine wp_seq ?_
  refine region_seq ?_
  revert a
  refine aA rfl rfl ?_
  refine aA rfl rfl ?_
  intro a henv
  refine wpList_nil ?_
  refine th_n ?_
  refine wp_seq ?_
  refine wp_seq ?_
  refine region_seq ?_
  revert a
  refine mA rfl rfl ?_
  refine sA (v := .bool (decide (((k : Nat) : Int) < (1 : Int)))) rfl (fun _ henv => rn_bin henv rfl rfl rfl) ?_
  intro a henv
  rw [show (decide (((k : Nat) : Int) < (1 : Int))) = false from (decide_eq_false (by omega))] at henv
  revert a
  refine mA rfl rfl ?_
  refine gA (v := .int .i64 (k : Nat)) rfl rfl rfl rfl (fun _ henv => rn_move henv rfl) ?_
  refine gA (v := .bool (decide (((k : Nat) : Int) > (4096 : Int)))) rfl rfl rfl rfl (fun _ henv => rn_bin henv rfl rfl rfl) ?_
  intro a henv
  rw [show (decide (((k : Nat) : Int) > (4096 : Int))) = false from (decide_eq_false (by omega))] at henv
  revert a
  refine sA (v := .bool false) rfl (fun _ henv => rn_pick henv rfl rfl) ?_
  refine mA rfl rfl ?_
  refine gA (v := .int .i64 (0 : Nat)) rfl rfl rfl rfl (fun _ henv => rn_move henv rfl) ?_
  refine gA (v := .bool (decide (((0 : Nat) : Int) < (0 : Int)))) rfl rfl rfl rfl (fun _ henv => rn_bin henv rfl rfl rfl) ?_
  intro a henv
  rw [show (decide (((0 : Nat) : Int) < (0 : Int))) = false from (decide_eq_false (by omega))] at henv
  revert a
  refine sA (v := .bool false) rfl (fun _ henv => rn_pick henv rfl rfl) ?_
  refine mA rfl rfl ?_
  refine gA (v := .int .i64 (0 : Nat)) rfl rfl rfl rfl (fun _ henv => rn_move henv rfl) ?_
  refine gA (v := .bool (decide (((0 : Nat) : Int) > (8192 : Int)))) rfl rfl rfl rfl (fun _ henv => rn_bin henv rfl rfl rfl) ?_
  intro a henv
  rw [show (decide (((0 : Nat) : Int) > (8192 : Int))) = false from (decide_eq_false (by omega))] at henv
  refine sv (v := .bool false) henv rfl (rn_pick henv rfl rfl) ?_
  clear henv a; intro a henv
  refine wpList_nil ?_
  refine th_n ?_
  refine if_f henv rfl (rfl) ?_
  refine wp_skip ?_
  refine th_n ?_
  refine wp_seq ?_
  refine wp_seq ?_
  refine region_seq ?_
  revert a
  refine mA rfl rfl ?_
  refine sA (v := .int .i64 (n0 : Nat)) rfl (fun _ henv => rn_len henv Tryd.underlying26 rfl) ?_
  refine sA (v := .bool (decide (((n0 : Nat) : Int) > (15 : Int)))) rfl (fun _ henv => rn_bin henv rfl rfl rfl) ?_
  intro a henv
  rw [show (decide (((n0 : Nat) : Int) > (15 : Int))) = false from (decide_eq_false (by omega))] at henv
  refine wpList_nil ?_
  refine th_n ?_
  refine if_f henv rfl (rfl) ?_
  refine wp_skip ?_
  refine th_n ?_
  refine wp_seq ?_
  refine region_seq ?_
  revert a
  refine mA rfl rfl ?_
  refine aA rfl rfl ?_
  intro a henv
  refine wpList_nil ?_
  refine th_n ?_
  refine wp_seq ?_
  refine wp_seq ?_
  refine region_seq ?_
  revert a
  refine mA rfl rfl ?_
  refine sA (v := .int .i64 (n0 : Nat)) rfl (fun _ henv => rn_len henv Tryd.underlying26 rfl) ?_
  refine mA rfl rfl ?_
  intro a henv
  refine wpList_nil ?_
  refine th_n ?_
  refine wp_block ?_
  refine wp_loop_ghost (fun mz a w => ∃ i : Nat, ∃ T : Nat, n0 - i = mz ∧ Env 98 a [(0, .slice A0 n0 c0), (1, .int .i64 (k : Nat)), (2, .int .i64 (0 : Nat)), (8, .int .i64 (T : Nat)), (34, .slice A0 n0 c0), (35, .int .i64 (n0 : Nat)), (36, .int .i64 (i : Nat))] ∧ St w0 w [] [pfRow fL FL 1 A0 n0 c0 es0] ∧ i ≤ n0 ∧ T = szN zss k 0 i ∧ T ≤ 65536) _ ⟨0, 0, rfl, henv.sub ⟨rfl, rfl, rfl, rfl, rfl, rfl, rfl, trivial⟩, hst.pick [] [0] (by decide), (Nat.zero_le _), rfl, (by omega)⟩ ?_
  clear henv hst a
  rintro mz a w51 ⟨i, T, rfl, henv, hst, hi, hT, hTb⟩
  refine wp_seq ?_
  refine region_seq ?_
  refine sv (v := .bool (decide (((i : Nat) : Int) < ((n0 : Nat) : Int)))) henv rfl (rn_bin henv rfl rfl rfl) ?_
  clear henv a; intro a henv
  refine wpList_nil ?_
  refine th_n ?_
  refine wp_seq ?_
  refine if_split henv rfl (fun hc52 => ?_) (fun hc52 => ?_)
  · have hlt0 : i < n0 := by have := of_decide_eq_true hc52; omega
    obtain ⟨⟨A, n, c, es⟩, he0⟩ : ∃ e, es0[i]? = some e := ⟨_, List.getElem?_eq_getElem (by omega)⟩
    replace hst := hst.elem (k := 0) rfl he0
    replace hst : St w0 _ [] [pfRow fN FN 2 A n c es, pfRow fL FL 1 A0 n0 c0 es0] := hst
    have hel := (hst.pat (k := 0) rfl).2.1
    have hn8 : n ≤ 8192 := hlen _ (List.mem_of_getElem? he0)
    obtain ⟨hxi, hxl⟩ := part_at hz0 he0 hel
    have hik : i * k ≤ 57344 := Nat.mul_le_mul (show i ≤ 14 by omega) hk4
    refine wp_skip ?_
    refine th_n ?_
    refine wp_seq ?_
    refine wp_block ?_
    refine wp_seq ?_
    refine region_seq ?_
    revert a
    refine mA rfl rfl ?_
    refine sA (v := .pointer (some ⟨ab A0, ao A0 + i * 1, none⟩)) rfl (fun _ henv => rn_idxR (i := i) henv Tryd.underlying26 (ty__integer_Int.size) rfl rfl (by omega) rfl (show (pfRow fL FL 1 A0 n0 c0 es0).P _ from (hst.pat (k := 1) rfl)).1) ?_
    refine sA (v := .slice A n c) rfl (fun _ henv => rn_loadE1 (i := i) (j := 0) (e := (A, n, c, es)) henv ty__integer_Int rfl rfl fL_len (by decide) (show (pfRow fL FL 1 A0 n0 c0 es0).P _ from (hst.pat (k := 1) rfl)).1 (by omega) he0 rfl) ?_
    refine aA rfl rfl ?_
    refine aA rfl rfl ?_
    intro a henv
    refine wpList_nil ?_
    refine th_n ?_
    refine wp_seq ?_
    refine wp_seq ?_
    refine region_seq ?_
    revert a
    refine mA rfl rfl ?_
    refine sA (v := .int .i64 (n : Nat)) rfl (fun _ henv => rn_len henv Tryd.underlying24 rfl) ?_
    refine sA (v := .bool (decide (((n : Nat) : Int) > (8192 : Int)))) rfl (fun _ henv => rn_bin henv rfl rfl rfl) ?_
    intro a henv
    rw [show (decide (((n : Nat) : Int) > (8192 : Int))) = false from (decide_eq_false (by omega))] at henv
    refine wpList_nil ?_
    refine th_n ?_
    refine if_f henv rfl (rfl) ?_
    refine wp_skip ?_
    refine th_n ?_
    refine region_seq ?_
    revert a
    refine mA rfl rfl ?_
    refine mA rfl rfl ?_
    refine mA rfl rfl ?_
    refine sA (v := .int .i64 (i * k : Nat)) rfl (fun _ henv => rn_mul henv rfl rfl (by rw [IntWalk.i64_in _ (by omega)]; omega)) ?_
    refine mA rfl rfl ?_
    refine sA (v := .int .i64 (n : Nat)) rfl (fun _ henv => rn_len henv Tryd.underlying24 rfl) ?_
    refine sA (v := .int .i64 ((i * k) + n : Nat)) rfl (fun _ henv => rn_add henv rfl rfl (by rw [IntWalk.i64_in _ (by omega)]; omega)) ?_
    refine sA (v := .int .i64 (max T ((i * k) + n) : Nat)) rfl (fun _ henv => rn_maxN (m := T) (n := (i * k) + n) henv rfl rfl) ?_
    refine aA rfl rfl ?_
    intro a henv
    refine wpList_nil ?_
    refine bl_n (th_n ?_)
    refine region_seq ?_
    revert a
    refine sA (v := .int .i64 (i + 1 : Nat)) rfl (fun _ henv => rn_add henv rfl rfl (by rw [IntWalk.i64_in _ (by omega)]; omega)) ?_
    refine mA rfl rfl ?_
    intro a henv
    refine wpList_nil ?_
    exact th_n ⟨_, (by omega), ⟨i + 1, max T ((i * k) + n), rfl, henv.sub ⟨rfl, rfl, rfl, rfl, rfl, rfl, rfl, trivial⟩, hst.pick [] [1] (by decide), (by omega), (by rw [hT, szN, hxl]), (by omega)⟩⟩
  · obtain rfl : n0 = i := by have := of_decide_eq_false hc52; omega
    refine wp_exit ?_
    refine th_x (th_x (bl_x (th_n ?_)))
    refine wp_seq ?_
    refine region_seq ?_
    refine sv (v := .int .i64 (T : Nat)) henv rfl (rn_move henv rfl) ?_
    clear henv a; intro a henv
    refine seq_step rfl (op_makeS (f := fN) (e0 := (none, 0, 0)) (q := notU) (n := T) henv hst rfl Tryd.underlying24 inf_anvil_integer_Int rfl rfl fN_zero rfl rfl rfl (by omega) (by unfold maxLen; omega) ?_)
    clear henv hst a; intro a w54 g53 henv hst
    replace hst := hst.addNs (es_zeros T _) ⟨nou_rowS, trivial⟩
    refine sv (v := .slice (some ⟨g53, 0, none⟩) T T) henv rfl (rn_assign henv rfl) ?_
    clear henv a; intro a henv
    refine wpList_nil ?_
    refine th_n ?_
    refine wp_seq ?_
    refine wp_seq ?_
    refine region_seq ?_
    revert a
    refine mA rfl rfl ?_
    refine sA (v := .int .i64 (n0 : Nat)) rfl (fun _ henv => rn_len henv Tryd.underlying26 rfl) ?_
    refine mA rfl rfl ?_
    intro a henv
    refine wpList_nil ?_
    refine th_n ?_
    refine wp_block ?_
    refine wp_loop_ghost (fun mz a w => ∃ i : Nat, ∃ os : List NE, n0 - i = mz ∧ Env 98 a [(1, .int .i64 (k : Nat)), (2, .int .i64 (0 : Nat)), (11, .slice (some ⟨g53, 0, none⟩) T T), (55, .slice A0 n0 c0), (56, .int .i64 (n0 : Nat)), (57, .int .i64 (i : Nat))] ∧ St w0 w [rowS notU 39 2 (some ⟨g53, 0, none⟩) T T (fl fN os)] [pfRow fL FL 1 A0 n0 c0 es0, pfEs FN os] ∧ i ≤ n0 ∧ os.map zz = jnN zss k T i ∧ Zk (1000 + 8192 * i) (os.map zz)) _ ⟨0, (List.replicate T (none, 0, 0)), rfl, henv.sub ⟨rfl, rfl, rfl, rfl, rfl, rfl, trivial⟩, hst.pick [0] [1, 0] (by decide), (Nat.zero_le _), (by rw [List.map_replicate]; rfl), (fun z hz => by rw [List.map_replicate] at hz; rw [List.eq_of_mem_replicate hz]; exact Nat.le_trans (by rw [zl_zero]; omega) (Nat.zero_le _))⟩ ?_
    clear henv hst a
    rintro mz a w55 ⟨i, os, rfl, henv, hst, hi, ho, hkz⟩
    refine wp_seq ?_
    refine region_seq ?_
    refine sv (v := .bool (decide (((i : Nat) : Int) < ((n0 : Nat) : Int)))) henv rfl (rn_bin henv rfl rfl rfl) ?_
    clear henv a; intro a henv
    refine wpList_nil ?_
    refine th_n ?_
    refine wp_seq ?_
    refine if_split henv rfl (fun hc56 => ?_) (fun hc56 => ?_)
    · have hlt0 : i < n0 := by have := of_decide_eq_true hc56; omega
      obtain ⟨⟨A, n, c, es⟩, he0⟩ : ∃ e, es0[i]? = some e := ⟨_, List.getElem?_eq_getElem (by omega)⟩
      replace hst := hst.elem (k := 0) rfl he0
      replace hst : St w0 _ [rowS notU 39 2 (some ⟨g53, 0, none⟩) T T (fl fN os)] [pfRow fN FN 2 A n c es, pfRow fL FL 1 A0 n0 c0 es0, pfEs FN os] := hst
      have hel := (hst.pat (k := 0) rfl).2.1
      have hn8 : n ≤ 8192 := hlen _ (List.mem_of_getElem? he0)
      obtain ⟨hxi, hxl⟩ := part_at hz0 he0 hel
      have hik : i * k ≤ 57344 := Nat.mul_le_mul (show i ≤ 14 by omega) hk4
      have hsz : i * k + n ≤ T := by have := sz_at zss k 0 (i := i) hlt0; rw [hxl, ← hT] at this; exact this
      refine wp_skip ?_
      refine th_n ?_
      refine wp_seq ?_
      refine wp_block ?_
      refine wp_seq ?_
      refine region_seq ?_
      revert a
      refine mA rfl rfl ?_
      refine sA (v := .pointer (some ⟨ab A0, ao A0 + i * 1, none⟩)) rfl (fun _ henv => rn_idxR (i := i) henv Tryd.underlying26 (ty__integer_Int.size) rfl rfl (by omega) rfl (show (pfRow fL FL 1 A0 n0 c0 es0).P _ from (hst.pat (k := 1) rfl)).1) ?_
      refine sA (v := .slice A n c) rfl (fun _ henv => rn_loadE1 (i := i) (j := 0) (e := (A, n, c, es)) henv ty__integer_Int rfl rfl fL_len (by decide) (show (pfRow fL FL 1 A0 n0 c0 es0).P _ from (hst.pat (k := 1) rfl)).1 (by omega) he0 rfl) ?_
      refine aA rfl rfl ?_
      refine aA rfl rfl ?_
      intro a henv
      refine wpList_nil ?_
      refine th_n ?_
      refine wp_seq ?_
      refine region_seq ?_
      revert a
      refine mA rfl rfl ?_
      refine sA (v := .int .i64 (n : Nat)) rfl (fun _ henv => rn_len henv Tryd.underlying24 rfl) ?_
      refine mA rfl rfl ?_
      intro a henv
      refine wpList_nil ?_
      refine th_n ?_
      refine wp_block ?_
      refine wp_loop_ghost (fun mz a w => ∃ j : Nat, ∃ ps : List NE, n - j = mz ∧ Env 98 a [(1, .int .i64 (k : Nat)), (2, .int .i64 (0 : Nat)), (11, .slice (some ⟨g53, 0, none⟩) T T), (12, .int .i64 (i : Nat)), (55, .slice A0 n0 c0), (56, .int .i64 (n0 : Nat)), (57, .int .i64 (i : Nat)), (62, .slice A n c), (63, .int .i64 (n : Nat)), (64, .int .i64 (j : Nat))] ∧ St w0 w [rowS notU 39 2 (some ⟨g53, 0, none⟩) T T (fl fN ps)] [pfRow fL FL 1 A0 n0 c0 es0, pfRow fN FN 2 A n c es, pfEs FN ps] ∧ j ≤ n ∧ ps.map zz = adN (zss.getD i []) (i * k) (jnN zss k T i) j ∧ Zk (1000 + 8192 * i + j) (ps.map zz)) _ ⟨0, os, rfl, henv.sub ⟨rfl, rfl, rfl, rfl, rfl, rfl, rfl, rfl, rfl, rfl, trivial⟩, hst.pick [0] [1, 0, 2] (by decide), (Nat.zero_le _), ho, hkz⟩ ?_
      clear henv hst a
      rintro mz a w57 ⟨j, ps, rfl, henv, hst, hj, ho2, hkz2⟩
      refine wp_seq ?_
      refine region_seq ?_
      refine sv (v := .bool (decide (((j : Nat) : Int) < ((n : Nat) : Int)))) henv rfl (rn_bin henv rfl rfl rfl) ?_
      clear henv a; intro a henv
      refine wpList_nil ?_
      refine th_n ?_
      refine wp_seq ?_
      refine if_split henv rfl (fun hc58 => ?_) (fun hc58 => ?_)
      · have hlt : j < n := by have := of_decide_eq_true hc58; omega
        obtain ⟨⟨C, d, x⟩, he1⟩ : ∃ e, es[j]? = some e := ⟨_, List.getElem?_eq_getElem (by omega)⟩
        have hpl : ps.length = T := by rw [← List.length_map (f := zz), ho2, adN_len, jnN_len]
        obtain ⟨⟨E, f, y⟩, he2⟩ : ∃ e, ps[i * k + j]? = some e := ⟨_, List.getElem?_eq_getElem (by omega)⟩
        replace hst := hst.elem (k := 1) rfl he1
        replace hst := hst.elemE (k := 3) rfl he2
        replace hst : St w0 _ [rowS notU 39 2 (some ⟨g53, 0, none⟩) T T (fl fN ps)] [pfZ E f y, pfZ C d x, pfRow fL FL 1 A0 n0 c0 es0, pfRow fN FN 2 A n c es, pfEs FN ps] := hst
        have hx1 : zl x ≤ 1000 := hxk _ (List.mem_of_getElem? he0) _ (List.mem_of_getElem? he1)
        have hy1 : zl y ≤ 1000 + 8192 * i + j := hkz2.es rfl _ (List.mem_of_getElem? he2)
        refine wp_skip ?_
        refine th_n ?_
        refine wp_seq ?_
        refine wp_block ?_
        refine wp_seq ?_
        refine region_seq ?_
        revert a
        refine mA rfl rfl ?_
        refine sA (v := .pointer (some ⟨ab A, ao A + j * 2, none⟩)) rfl (fun _ henv => rn_idxR (i := j) henv Tryd.underlying24 (ty_anvil_integer_Int.size) rfl rfl (by omega) rfl (show (pfRow fN FN 2 A n c es).P _ from (hst.pat (k := 3) rfl)).1) ?_
        refine sA (v := .agg #[.bool (neg x), .slice C (zl x) d]) rfl (fun _ henv => rn_loadE (i := j) (e := (C, d, x)) henv ty_anvil_integer_Int rfl rfl fN_len (show (pfRow fN FN 2 A n c es).P _ from (hst.pat (k := 3) rfl)).1 (by omega) he1 rfl) ?_
        intro a henv
        refine seq_step rfl (op_alloc (c := #[.bool (neg 0), .slice none (zl 0) 0]) henv hst rfl zero_anvil_integer_Int zcells ?_)
        clear henv hst a; intro a w60 g59 henv hst
        refine sv (v := .int .i64 (j : Nat)) henv rfl (rn_assign henv rfl) ?_
        clear henv a; intro a henv
        refine seq_step rfl (op_store (k := 0) (c' := #[.bool (neg x), .slice C (zl x) d]) henv hst (ty_anvil_integer_Int.size) rfl rfl rfl rfl (by simp) rfl rfl ?_)
        clear henv hst a; intro a w61 henv hst
        refine wpList_nil ?_
        refine th_n ?_
        refine region_any (n := 18) (Sk [bk g59 #[.bool (neg x), .slice C (zl x) d] 39] [pfZ E f y, pfZ C d x, pfRow fL FL 1 A0 n0 c0 es0, pfRow fN FN 2 A n c es, pfEs FN ps] [17] [rowS notU 39 2 (some ⟨g53, 0, none⟩) T T (fl fN ps)]) mixed rfl henv hst ?_
        clear henv hst; intro w62 henv hst
        refine tM (i := 0) [16, 17] rfl (by kernel_rfl) (fun _ _ _ h => h) henv rfl rfl ?_
        clear henv a; intro a henv
        refine tM (i := 1) [3, 5, 16, 17] rfl (by kernel_rfl) (fun _ _ _ h => h) henv rfl rfl ?_
        clear henv a; intro a henv
        refine tM (i := 2) [3, 5, 16, 17] rfl (by kernel_rfl) (fun _ _ _ h => h) henv rfl rfl ?_
        clear henv a; intro a henv
        refine tA (i := 3) [5, 16, 17] (v := .int .i64 (i * k : Nat)) rfl (by kernel_rfl) (fun _ _ _ h => h) henv rfl (fun _ => rn_mul henv rfl rfl (by rw [IntWalk.i64_in _ (by omega)]; omega)) ?_
        clear henv a; intro a henv
        refine tM (i := 4) [5, 16, 17] rfl (by kernel_rfl) (fun _ _ _ h => h) henv rfl rfl ?_
        clear henv a; intro a henv
        refine tA (i := 5) [16, 17] (v := .int .i64 ((i * k) + j : Nat)) rfl (by kernel_rfl) (fun _ _ _ h => h) henv rfl (fun _ => rn_add henv rfl rfl (by rw [IntWalk.i64_in _ (by omega)]; omega)) ?_
        clear henv a; intro a henv
        refine tM (i := 6) [12, 13, 15, 16, 17] rfl (by kernel_rfl) (fun _ _ _ h => h) henv rfl rfl ?_
        clear henv a; intro a henv
        refine tM (i := 7) [9, 11, 12, 13, 15, 16, 17] rfl (by kernel_rfl) (fun _ _ _ h => h) henv rfl rfl ?_
        clear henv a; intro a henv
        refine tM (i := 8) [9, 11, 12, 13, 15, 16, 17] rfl (by kernel_rfl) (fun _ _ _ h => h) henv rfl rfl ?_
        clear henv a; intro a henv
        refine tA (i := 9) [11, 12, 13, 15, 16, 17] (v := .int .i64 (i * k : Nat)) rfl (by kernel_rfl) (fun _ _ _ h => h) henv rfl (fun _ => rn_mul henv rfl rfl (by rw [IntWalk.i64_in _ (by omega)]; omega)) ?_
        clear henv a; intro a henv
        refine tM (i := 10) [11, 12, 13, 15, 16, 17] rfl (by kernel_rfl) (fun _ _ _ h => h) henv rfl rfl ?_
        clear henv a; intro a henv
        refine tA (i := 11) [12, 13, 15, 16, 17] (v := .int .i64 ((i * k) + j : Nat)) rfl (by kernel_rfl) (fun _ _ _ h => h) henv rfl (fun _ => rn_add henv rfl rfl (by rw [IntWalk.i64_in _ (by omega)]; omega)) ?_
        clear henv a; intro a henv
        refine sAny_take (i := 12) [13, 15, 16, 17] (fun w' => (rowS notU 39 2 (some ⟨g53, 0, none⟩) T T (fl fN ps)).P w') (v := .pointer (some ⟨ab (some ⟨g53, 0, none⟩), ao (some ⟨g53, 0, none⟩) + ((i * k) + j) * 2, none⟩)) rfl (by kernel_rfl) (fun _ _ _ h => h) (fun _ _ hj hS => (hS.two rfl hj).owns (k := 0) rfl) henv rfl (hst.owns (k := 1) rfl) (fun w' hg => rn_idxR (i := (i * k) + j) henv Tryd.underlying24 (ty_anvil_integer_Int.size) rfl rfl (by omega) rfl (rowS_rd hg)) ?_
        clear henv a; intro a henv
        refine sAny_take (i := 13) [15, 16, 17] (fun w' => (rowS notU 39 2 (some ⟨g53, 0, none⟩) T T (fl fN ps)).P w') (v := .agg #[.bool (neg y), .slice E (zl y) f]) rfl (by kernel_rfl) (fun _ _ _ h => h) (fun _ _ hj hS => (hS.two rfl hj).owns (k := 0) rfl) henv rfl (hst.owns (k := 1) rfl) (fun w' hg => rn_loadE (i := (i * k) + j) (e := (E, f, y)) henv ty_anvil_integer_Int rfl rfl fN_len (rowS_rd hg) (by omega) he2 rfl) ?_
        clear henv a; intro a henv
        refine tL (i := 14) 0 0 [15, 16, 17] rfl (by kernel_rfl) (fun _ _ _ h => h) henv rfl ty_anvil_integer_Int rfl hst rfl rfl rfl ?_
        clear henv a; intro a henv
        have hs63 := zl_add y x
        refine sAny_one (i := 15) (by kernel_rfl) rfl rfl (op_call henv rfl Tryd.call36 rfl (add_z (x := y) (y := x) (show ZIn _ E f y from hst.pat (k := 0) rfl) (show ZIn _ C d x from hst.pat (k := 1) rfl) (by omega) (by omega)) ?_)
        rintro e w67 ⟨_, rfl, ⟨A64, c65, rfl, hz66⟩, hb⟩
        refine ⟨_, rfl, ?_⟩
        clear henv a; intro a henv
        replace hst := (hst.call hb).addZ hz66 ⟨nou_bk rfl, nou_rowS, trivial⟩
        clear hz66
        clear hb
        refine ⟨.inr ⟨hst.kn.pick [0] (rg 1 5), .inr (hst.kn.pick [1] [])⟩, ?_⟩
        refine sAny_take (i := 16) [17] (fun w' => (rowS notU 39 2 (some ⟨g53, 0, none⟩) T T (fl fN ps)).P w') (v := .pointer (some ⟨ab (some ⟨g53, 0, none⟩), ao (some ⟨g53, 0, none⟩) + ((i * k) + j) * 2, none⟩)) rfl (by kernel_rfl) (fun _ _ _ h => h) (fun _ _ hj hS => (hS.two rfl hj).owns (k := 0) rfl) henv rfl (hst.owns (k := 1) rfl) (fun w' hg => rn_idxR (i := (i * k) + j) henv Tryd.underlying24 (ty_anvil_integer_Int.size) rfl rfl (by omega) rfl (rowS_rd hg)) ?_
        clear henv a; intro a henv
        refine sAny_one (i := 17) (by kernel_rfl) rfl rfl (op_storeS (i := (i * k) + j) (e := (A64, c65, (y + x))) (k := 1) henv hst (ty_anvil_integer_Int.size) rfl rfl rfl rfl fN_len (by omega) hpl rfl rfl rfl ?_)
        clear henv hst a; intro a w68 henv hst
        replace hst := hst.setEs (e := (A64, c65, (y + x))) (i := 5) (j := 0) rfl rfl ((i * k) + j)
        refine ⟨.inr ⟨hst.kn.pick [0] (rg 2 5), .inl rfl⟩, ?_⟩
        refine sAny_done (by kernel_rfl) ?_ _
        refine bl_n (th_n ?_)
        refine region_seq ?_
        revert a
        refine sA (v := .int .i64 (j + 1 : Nat)) rfl (fun _ henv => rn_add henv rfl rfl (by rw [IntWalk.i64_in _ (by omega)]; omega)) ?_
        refine mA rfl rfl ?_
        intro a henv
        refine wpList_nil ?_
        exact th_n ⟨_, (by omega), ⟨j + 1, (ps.set ((i * k) + j) (A64, c65, (y + x))), rfl, henv.sub ⟨rfl, rfl, rfl, rfl, rfl, rfl, rfl, rfl, rfl, rfl, trivial⟩, hst.pick [1] [4, 5, 0] (by decide), (by omega), (ad_step ho2 hxi he1 he2), (zk_set hkz2 (by have := zl_addm y x; omega) (by omega))⟩⟩
      · obtain rfl : j = n := by have := of_decide_eq_false hc58; omega
        refine wp_exit ?_
        refine th_x (th_x (bl_x (bl_n (th_n ?_))))
        refine region_seq ?_
        revert a
        refine sA (v := .int .i64 (i + 1 : Nat)) rfl (fun _ henv => rn_add henv rfl rfl (by rw [IntWalk.i64_in _ (by omega)]; omega)) ?_
        refine mA rfl rfl ?_
        intro a henv
        refine wpList_nil ?_
        exact th_n ⟨_, (by omega), ⟨i + 1, ps, rfl, henv.sub ⟨rfl, rfl, rfl, rfl, rfl, rfl, trivial⟩, hst.pick [0] [0, 2] (by decide), (by omega), (by rw [ho2, jnN, hxl]), (hkz2.mono (by omega))⟩⟩
    · obtain rfl : n0 = i := by have := of_decide_eq_false hc56; omega
      refine wp_exit ?_
      refine th_x (th_x (bl_x (th_n ?_)))
      refine wp_seq ?_
      refine wp_seq ?_
      rw [← hT] at hdg
      refine region_seq ?_
      refine sv (v := .slice (some ⟨g53, 0, none⟩) T T) henv rfl (rn_move henv rfl) ?_
      clear henv a; intro a henv
      have hol : os.length = T := by rw [← List.length_map (f := zz), ho, jnN_len]
      refine seq_step rfl (op_call henv rfl Tryd.call37 rfl (p_deg (es0 := os) ⟨rowS_rd (hst.owns (k := 0) rfl), hol, hst.pat (k := 1) rfl⟩ ho (by omega)) ?_)
      rintro e w69 ⟨rfl, hb⟩
      refine ⟨_, rfl, ?_⟩
      clear henv a; intro a henv
      replace hst := hst.call hb
      clear hb
      revert a
      refine mA rfl rfl ?_
      refine sA (v := .bool (decide (((degN (jnN zss k T n0) : Nat) : Int) - 1 ≥ ((0 : Nat) : Int)))) rfl (fun _ henv => rn_bin henv rfl rfl rfl) ?_
      intro a henv
      rw [show (decide (((degN (jnN zss k T n0) : Nat) : Int) - 1 ≥ ((0 : Nat) : Int))) = false from (decide_eq_false hdg)] at henv
      refine wpList_nil ?_
      refine th_n ?_
      refine if_f henv rfl (rfl) ?_
      refine wp_skip ?_
      refine th_n ?_
      refine wp_seq ?_
      refine wp_seq ?_
      refine region_seq ?_
      revert a
      refine mA rfl rfl ?_
      refine sA (v := .bool (((0 : Nat) : Int) == (0 : Int))) rfl (fun _ henv => rn_bin henv rfl rfl rfl) ?_
      intro a henv
      rw [show (((0 : Nat) : Int) == (0 : Int)) = true from (by rfl)] at henv
      refine wpList_nil ?_
      refine th_n ?_
      refine if_t henv rfl (rfl) ?_
      refine wp_seq ?_
      refine region_seq ?_
      revert a
      refine aA rfl rfl ?_
      refine aA rfl rfl ?_
      intro a henv
      refine wpList_nil ?_
      refine th_n ?_
      refine wp_ret ?_
      refine th_r ?_
      refine leave henv (res2 Tryd.results18 (RV.tmp henv rfl) (RV.tmp henv rfl)) ?_
      exact ⟨rfl, hst.below⟩
end Go.Proofs.YtoojllfijfjmoaaDoor.W

/- SplitJoins: the law's walk. Printed by pv/gen_sp10.py. No condition. -/
namespace Go.Proofs.YtoojllfijfjmoaaDoor.W
open Go.RowKit Anv Go.Lib
abbrev TE := Option Addr × Nat × Nat × List Int
def fT (v : TE) : List Value := [.slice v.1 v.2.1 v.2.2.1]
def FT (v : TE) : PF := pfRow fI FI 1 v.1 v.2.1 v.2.2.1 v.2.2.2
def lt (v : TE) : List Int := v.2.2.2
def totN (es : List TE) : Nat → Nat
  | 0 => 0
  | j + 1 => totN es j + (es.getD j (none, 0, 0, [])).2.1
theorem i64_zl {z : Int} (h : -9223372036854775808 ≤ z ∧ z ≤ 9223372036854775807) : zl z ≤ 2 := nl_le_of_lt (by show z.natAbs < _; omega)
end Go.Proofs.YtoojllfijfjmoaaDoor.W

/- SplitShort, SplitLevels, SplitEnds: the laws' walks. Printed by pv/gen_sp6.py. No condition. -/
namespace Go.Proofs.YtoojllfijfjmoaaDoor.W
open Go.RowKit Anv Go.Lib
theorem blk_zero {n1 n2 k1 k2 : Nat} (g1 : 1 ≤ k1) (g2 : 1 ≤ k2) (e1 : n1 = 0) (e2 : n2 = 0) : blkN n1 n2 k1 k2 = 0 := by
  subst e1 e2
  unfold blkN
  rw [upN_zero g1, upN_zero g2]
  rfl
end Go.Proofs.YtoojllfijfjmoaaDoor.W
