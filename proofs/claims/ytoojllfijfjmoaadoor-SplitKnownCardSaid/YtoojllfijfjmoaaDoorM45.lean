/- strings.Join at a blank; row.Text. Printed by pv/gen_rtx2.py. No condition. -/
import Derived.Test.YtoojllfijfjmoaaDoorM43
import Derived.Test.YtoojllfijfjmoaaDoorM11
import Derived.Test.YtoojllfijfjmoaaDoorM44
import Derived.Test.YtoojllfijfjmoaaDoorM29
import Derived.Test.YtoojllfijfjmoaaDoorM34
import Derived.Test.YtoojllfijfjmoaaDoorM39
import Derived.Test.YtoojllfijfjmoaaDoorM16

namespace Go.Proofs.YtoojllfijfjmoaaDoor.W
open Go.RowKit Anv Go.Lib
def jt (s : List UInt8) (r : List (List UInt8)) (k : Nat) : List UInt8 := s ++ (r.take k).flatMap fun t => 32 :: t
def textRow (zs : List Int) : List UInt8 := 91 :: (jn (zs.map textZ) ++ [93])
end Go.Proofs.YtoojllfijfjmoaaDoor.W

/- Plain laws of the texts of rows: what a text is read as, or where it goes wrong. No program. No condition. -/
namespace Go.Proofs.YtoojllfijfjmoaaDoor.W
open Anv
def stp (c : UInt8) : Prop := c.toNat = 32 ∨ c.toNat = 93
def ndg (c : UInt8) : Prop := c.toNat = 45 ∨ (48 ≤ c.toNat ∧ c.toNat ≤ 57)
def Rz (t : List UInt8) (z : Int) : Prop := (∃ d, t = 45 :: d ∧ Ok 1 d ∧ z = sg true (numOf d)) ∨ ((t.getD 0 0).toNat ≠ 45 ∧ Ok 0 t ∧ z = sg false (numOf t))
def Rb (t : List UInt8) (b : Nat) : Prop := (∃ d b', t = 45 :: d ∧ Fb 1 d b' ∧ b = b' + 1) ∨ ((t.getD 0 0).toNat ≠ 45 ∧ Fb 0 t b)
theorem head45 {t d : List UInt8} (h : t = 45 :: d) (k : (t.getD 0 0).toNat ≠ 45) : False := k (by rw [h]; rfl)
theorem rz_eq {t : List UInt8} {z y : Int} (h : Rz t z) (k : Rz t y) : z = y := by
  rcases h with ⟨d, h1, _, h3⟩ | ⟨h1, _, h3⟩ <;> rcases k with ⟨e, k1, _, k3⟩ | ⟨k1, _, k3⟩
  · rw [h1] at k1; cases k1; rw [h3, k3]
  · exact (head45 h1 k1).elim
  · exact (head45 k1 h1).elim
  · rw [h3, k3]
def cutw (s : List UInt8) (p q : Nat) : List UInt8 := (s.drop p).take (q - p)
def Seg (s : List UInt8) (p q : Nat) : Prop := p ≤ q ∧ q ≤ s.length ∧ (∀ i, p ≤ i → i < q → ¬ stp (s.getD i 0)) ∧ (q < s.length → stp (s.getD q 0))
def Sen (s : List UInt8) (p q : Nat) : Prop := p ≤ q ∧ q ≤ s.length ∧ (∀ i, p ≤ i → i < q → ndg (s.getD i 0)) ∧ (q < s.length → ¬ ndg (s.getD q 0))
inductive Go (s : List UInt8) : Nat → List Int → List Int ⊕ Nat → Prop
  | bad {p q b : Nat} {zs : List Int} (h : Seg s p q) (hb : Rb (cutw s p q) b) : Go s p zs (.inr (p + b))
  | fin {p : Nat} {zs : List Int} {z : Int} (h : Seg s p s.length) (hz : Rz (cutw s p s.length) z) : Go s p zs (.inr s.length)
  | more {p q : Nat} {zs : List Int} {z : Int} (h : Seg s p q) (hz : Rz (cutw s p q) z) (hc : (s.getD q 0).toNat = 93) (hq : q + 1 < s.length) : Go s p zs (.inr (q + 1))
  | done {p q : Nat} {zs : List Int} {z : Int} (h : Seg s p q) (hz : Rz (cutw s p q) z) (hc : (s.getD q 0).toNat = 93) (hq : q + 1 = s.length) : Go s p zs (.inl (zs ++ [z]))
  | next {p q : Nat} {zs : List Int} {z : Int} {r : List Int ⊕ Nat} (h : Seg s p q) (hz : Rz (cutw s p q) z) (hq : q < s.length) (hc : (s.getD q 0).toNat = 32) (hr : Go s (q + 1) (zs ++ [z]) r) : Go s p zs r
inductive Rd0 (s : List UInt8) : List Int ⊕ Nat → Prop
  | no (h : s = [] ∨ (s.getD 0 0).toNat ≠ 91) : Rd0 s (.inr 0)
  | void (h : (s.getD 0 0).toNat = 91) (h1 : (s.getD 1 0).toNat = 93) (h2 : s.length = 2) : Rd0 s (.inl [])
  | tail (h : (s.getD 0 0).toNat = 91) (h1 : (s.getD 1 0).toNat = 93) (h2 : 2 < s.length) : Rd0 s (.inr 2)
  | go (h : (s.getD 0 0).toNat = 91) (h0 : s ≠ []) (h1 : ¬ (1 < s.length ∧ (s.getD 1 0).toNat = 93)) {r : List Int ⊕ Nat} (hr : Go s 1 [] r) : Rd0 s r
end Go.Proofs.YtoojllfijfjmoaaDoor.W

/- Texts of rows: told and read back; the readers of words, by what the plain laws say of a word. No condition. -/
namespace Go.Proofs.YtoojllfijfjmoaaDoor.W
open Go.RowKit Anv Go.Lib
theorem rz_text (z : Int) : Rz (textZ z) z := by
  rcases textZ_cases z with ⟨_, h0, ht, hs⟩ | ⟨_, ht, hs⟩
  · exact .inl ⟨_, ht, ok_textN _ 1 fun _ => h0, by rw [numOf_textN, hs]⟩
  · have h2 := ok_textN z.natAbs 0 (fun e => by cases e)
    have h3 := ok_first h2
    refine .inr ⟨by rw [ht]; omega, by rw [ht]; exact h2, by rw [ht, numOf_textN, hs]⟩
end Go.Proofs.YtoojllfijfjmoaaDoor.W

/- Pairs of ints, the greater and the less of two; block lengths, levels: plain. No condition. -/
namespace Go.Proofs.YtoojllfijfjmoaaDoor.W
open Go.RowKit Anv Go.Lib
theorem bool_em (b : Bool) : b = true ∨ b = false := by cases b <;> simp
def ar2 (a b : Int) (j : Nat) : Int := if j = 0 then a else b
section
variable {N : Nat} {dq : List Deferred} {a : Act} {l : List (Nat × Value)} {w : World} {d : Nat} {ty : TypeId} {pos : String} {af : Array Edge} {gd : Option (Nat × Bool)}
theorem rn_arr2 {P : Program} {T E : TypeId} {x y : Operand} {m n : Int} (h : EnvD dq N a l) (hT : P.underlying T = some (.array 2 E)) (hE : ∃ i, P.info? E = some i ∧ i.size = 1) (hz : ∃ i, P.info? T = some i ∧ i.zero = some (.agg #[.int .i64 0, .int .i64 0])) (hx : evl l x = some (.int .i64 m)) (hy : evl l y = some (.int .i64 n)) :
    (execOp a.eval ⟨some d, .build T #[(0, x), (1, y)], ty, pos, af, gd⟩).run P w = .ok (.value (.agg #[.int .i64 m, .int .i64 n])) w := by
  have hzv : (zeroValue T).run P w = .ok (.agg #[.int .i64 0, .int .i64 0]) w := by obtain ⟨i, hi, hv⟩ := hz; simp [zeroValue, typeInfo, hi, hv]
  simp [execOp, h.ev hx, h.ev hy, Instr.build, hzv, run_underlying hT, Sem.run_bind, run_sizeOf hE, Instr.fill, Value.cells]
theorem rn_idxAr2 {P : Program} {T E : TypeId} {x y : Operand} {m n : Int} {j : Nat} (h : EnvD dq N a l) (hT : P.underlying T = some (.array 2 E)) (hE : TOne P E) (hx : evl l x = some (.agg #[.int .i64 m, .int .i64 n])) (hy : evl l y = some (.int .i64 (j : Nat))) (hj : j < 2) :
    (execOp a.eval ⟨some d, .index T x y, ty, pos, af, gd⟩).run P w = .ok (.value (.int .i64 (ar2 m n j))) w := by
  have hs := run_sizeOf (P := P) (w := w) hE.size
  rcases (show j = 0 ∨ j = 1 by omega) with rfl | rfl
  · simp [execOp, h.ev hx, h.ev hy, Instr.index, asIntOf, run_underlying hT, Sem.run_bind, part, hE.agg, hs, ar2]
  · simp [execOp, h.ev hx, h.ev hy, Instr.index, asIntOf, run_underlying hT, Sem.run_bind, part, hE.agg, hs, ar2]
theorem rn_maxI {P : Program} {x y : Operand} {T T' : Nat} {m n : Int} (h : EnvD dq N a l) (hx : evl l x = some (.int .i64 m)) (hy : evl l y = some (.int .i64 n)) :
    (execOp a.eval ⟨some d, .call ⟨.builtin .max, #[x, y], #[T, T']⟩, ty, pos, af, gd⟩).run P w = .ok (.value (.int .i64 (max m n))) w := by
  have hv := h.ev hx
  have hv' := h.ev hy
  have e : (max m n : Int) = if m < n then n else m := by split <;> omega
  rw [e]
  generalize a.eval = ρ at hv hv' ⊢
  simp [hv, hv', go_sem]
  split <;> omega
theorem rn_maxN {P : Program} {x y : Operand} {T T' : Nat} {m n : Nat} (h : EnvD dq N a l) (hx : evl l x = some (.int .i64 (m : Nat))) (hy : evl l y = some (.int .i64 (n : Nat))) :
    (execOp a.eval ⟨some d, .call ⟨.builtin .max, #[x, y], #[T, T']⟩, ty, pos, af, gd⟩).run P w = .ok (.value (.int .i64 (max m n : Nat))) w := by
  have h1 := rn_maxI (P := P) (d := d) (ty := ty) (pos := pos) (af := af) (gd := gd) (w := w) (T := T) (T' := T') h hx hy
  rwa [show (max (m : Int) (n : Int)) = ((max m n : Nat) : Int) by omega] at h1
end
def RP (n1 n2 k1 k2 : Int) : Prop := 0 ≤ n1 ∧ n1 ≤ 4096 ∧ 0 ≤ n2 ∧ n2 ≤ 4096 ∧ 1 ≤ k1 ∧ k1 ≤ 8 ∧ 1 ≤ k2 ∧ k2 ≤ 8
instance (n1 n2 k1 k2 : Int) : Decidable (RP n1 n2 k1 k2) := by unfold RP; infer_instance
def upN (n k : Nat) : Nat := (n + k - 1) / k
def blkN (n1 n2 k1 k2 : Nat) : Nat := max (upN n1 k1) (upN n2 k2)
theorem upN_le {n k : Nat} (hk : 1 ≤ k) : upN n k ≤ n := by
  unfold upN
  rcases Nat.eq_zero_or_pos n with rfl | hn
  · rw [Nat.div_eq_of_lt (by omega)]; omega
  · refine Nat.div_le_of_le_mul ?_
    have h1 : n + k ≤ k * n + 1 := by
      obtain ⟨m, rfl⟩ : ∃ m, k = m + 1 := ⟨k - 1, by omega⟩
      have : m ≤ m * n := Nat.le_mul_of_pos_right m hn
      rw [Nat.succ_mul]; omega
    omega
def EP (n1 n2 k1 k2 : Nat) (t : Int) : Prop := max t 1 < (min n1 n2 : Nat) ∧ blkN n1 n2 k1 k2 < max n1 n2
instance (n1 n2 k1 k2 : Nat) (t : Int) : Decidable (EP n1 n2 k1 k2 t) := by unfold EP; infer_instance
def depF (k1 k2 : Nat) (t : Int) : Nat → Nat → Nat → Nat
  | 0, _, _ => 0
  | f + 1, n1, n2 => if EP n1 n2 k1 k2 t then depF k1 k2 t f (blkN n1 n2 k1 k2) (blkN n1 n2 k1 k2) + 1 else 0
theorem depF_pos {k1 k2 : Nat} {t : Int} {f n1 n2 : Nat} : 0 < depF k1 k2 t (f + 1) n1 n2 ↔ EP n1 n2 k1 k2 t := by
  unfold depF
  split <;> simp_all
theorem depF_lt {k1 k2 : Nat} {t : Int} : ∀ (f n1 n2 : Nat), 0 < depF k1 k2 t f n1 n2 → depF k1 k2 t f n1 n2 < max n1 n2
  | 0, _, _, h => absurd h (by simp [depF])
  | f + 1, n1, n2, h => by
    have hE := depF_pos.1 h
    have e : depF k1 k2 t (f + 1) n1 n2 = depF k1 k2 t f (blkN n1 n2 k1 k2) (blkN n1 n2 k1 k2) + 1 := by rw [depF, if_pos hE]
    have hl := hE.2
    have h1 := hE.1
    rcases Nat.eq_zero_or_pos (depF k1 k2 t f (blkN n1 n2 k1 k2) (blkN n1 n2 k1 k2)) with h0 | h0
    · rw [e, h0]; omega
    · have := depF_lt f _ _ h0
      rw [e]
      omega
theorem rp_at {n1 n2 k1 k2 : Int} (h : RP n1 n2 k1 k2) (j : Nat) : (0 ≤ ar2 n1 n2 j ∧ ar2 n1 n2 j ≤ 4096) ∧ (1 ≤ ar2 k1 k2 j ∧ ar2 k1 k2 j ≤ 8) := by
  unfold RP at h
  unfold ar2
  split <;> omega
theorem rp_of {n1 n2 k1 k2 : Int} (h : ∀ i, i < 2 → 0 ≤ ar2 n1 n2 i ∧ ar2 n1 n2 i ≤ 4096) (k : ∀ i, i < 2 → 1 ≤ ar2 k1 k2 i ∧ ar2 k1 k2 i ≤ 8) : RP n1 n2 k1 k2 := by
  have h0 := h 0 (by decide)
  have h1 := h 1 (by decide)
  have g0 := k 0 (by decide)
  have g1 := k 1 (by decide)
  simp [ar2] at h0 h1 g0 g1
  unfold RP
  omega
theorem ar_step {C : Nat → Prop} {j : Nat} (h : ∀ i, i < j → C i) (hj : C j) : ∀ i, i < j + 1 → C i := fun i hi => by
  rcases Nat.lt_or_ge i j with h1 | h1
  · exact h i h1
  · obtain rfl : i = j := by omega
    exact hj
theorem blk_le {n1 n2 k1 k2 : Nat} (h1 : n1 ≤ 4096) (h2 : n2 ≤ 4096) (g1 : 1 ≤ k1) (g2 : 1 ≤ k2) : blkN n1 n2 k1 k2 ≤ 4096 := by
  have := upN_le (n := n1) g1
  have := upN_le (n := n2) g2
  unfold blkN
  omega
theorem dep_le {k1 k2 : Nat} {t : Int} {f n1 n2 : Nat} (h1 : n1 ≤ 4096) (h2 : n2 ≤ 4096) : depF k1 k2 t f n1 n2 ≤ 4096 := by
  rcases Nat.eq_zero_or_pos (depF k1 k2 t f n1 n2) with h | h
  · omega
  · have := depF_lt f n1 n2 h; omega
end Go.Proofs.YtoojllfijfjmoaaDoor.W

/- Package split: block lengths, levels; the reference's. Printed by pv/gen_sp1.py. No condition. -/
namespace Go.Proofs.YtoojllfijfjmoaaDoor.W
open Go.RowKit Anv Go.Lib
set_option maxRecDepth 100000 in
set_option maxHeartbeats 2000000 in
theorem sp_up {n k : Nat} {w0 : World} (hn : n ≤ 4096) (hk : 1 ≤ k) (hk8 : k ≤ 8) :
    Calls Tryd.prog 41 #[.int .i64 (n : Nat), .int .i64 (k : Nat)] w0 fun e w' => e = .returned (.int .i64 (upN n k : Nat)) ∧ Below w0.heap.size w0 w' := by
  refine enter Tryd.func41 rfl Tryd.ntmps41 rfl ?_
  intro a henv hst
  refine wp_seq ?_
  refine region_seq ?_
  refine sv (v := .int .i64 0) henv rfl (rn_assign henv rfl) ?_
  clear henv a; intro a henv
  refine wpList_nil ?_
  refine th_n ?_
  refine wp_seq ?_
  refine region_seq ?_
  revert a
  refine mA rfl rfl ?_
  refine mA rfl rfl ?_
  refine sA (v := .int .i64 (n + k : Nat)) rfl (fun _ henv => rn_add henv rfl rfl (by rw [IntWalk.i64_in _ (by omega)]; omega)) ?_
  refine sA (v := .int .i64 ((n + k) - 1 : Nat)) rfl (fun _ henv => rn_sub henv rfl rfl (by rw [IntWalk.i64_in _ (by omega)]; omega)) ?_
  refine mA rfl rfl ?_
  refine sA (v := .int .i64 (((n + k) - 1) / k : Nat)) rfl (fun _ henv => rn_quo henv rfl rfl (by omega) (quo_i64 (t := (n + k) - 1) (c := k) (by omega))) ?_
  refine aA rfl rfl ?_
  intro a henv
  refine wpList_nil ?_
  refine th_n ?_
  refine wp_ret ?_
  refine leave henv (res1 Tryd.results41 (RV.tmp henv rfl)) ?_
  exact ⟨rfl, hst.below⟩
set_option maxRecDepth 100000 in
set_option maxHeartbeats 2000000 in
theorem sp_right {n1 n2 k1 k2 : Int} {w0 : World} :
    Calls Tryd.prog 40 #[.int .i64 n1, .int .i64 n2, .int .i64 k1, .int .i64 k2] w0 fun e w' => e = .returned (.bool (decide (RP n1 n2 k1 k2))) ∧ Below w0.heap.size w0 w' := by
  refine enter Tryd.func40 rfl Tryd.ntmps40 rfl ?_
  intro a henv hst
  refine wp_seq ?_
  refine region_seq ?_
  refine sv (v := .bool false) henv rfl (rn_assign henv rfl) ?_
  clear henv a; intro a henv
  refine wpList_nil ?_
  refine th_n ?_
  refine wp_seq ?_
  refine wp_seq ?_
  refine region_seq ?_
  revert a
  refine mA rfl rfl ?_
  refine mA rfl rfl ?_
  refine sA (v := .agg #[.int .i64 n1, .int .i64 n2]) rfl (fun _ henv => rn_arr2 henv Tryd.underlying101 (ty_int.size) zero__2_int rfl rfl) ?_
  refine mA rfl rfl ?_
  intro a henv
  refine wpList_nil ?_
  refine th_n ?_
  refine wp_block ?_
  refine wp_loop_ghost (fun mz a w => ∃ j : Nat, 2 - j = mz ∧ Env 39 a [(2, .int .i64 k1), (3, .int .i64 k2), (15, .agg #[.int .i64 n1, .int .i64 n2]), (16, .int .i64 (j : Nat))] ∧ St w0 w [] [] ∧ j ≤ 2 ∧ ∀ i, i < j → 0 ≤ ar2 n1 n2 i ∧ ar2 n1 n2 i ≤ 4096) _ ⟨0, rfl, henv.sub ⟨rfl, rfl, rfl, rfl, trivial⟩, hst.pick [] [] (by decide), (by decide), (fun i hi => absurd hi (Nat.not_lt_zero _))⟩ ?_
  clear henv hst a
  rintro mz a w51 ⟨j, rfl, henv, hst, hj, hqn1⟩
  refine wp_seq ?_
  refine region_seq ?_
  refine sv (v := .bool (decide (((j : Nat) : Int) < (2 : Int)))) henv rfl (rn_bin henv rfl rfl rfl) ?_
  clear henv a; intro a henv
  refine wpList_nil ?_
  refine th_n ?_
  refine wp_seq ?_
  refine if_split henv rfl (fun hc52 => ?_) (fun hc52 => ?_)
  · have hx53 := of_decide_eq_true hc52
    have hlt : j < 2 := by omega
    refine wp_skip ?_
    refine th_n ?_
    refine wp_seq ?_
    refine wp_block ?_
    refine wp_seq ?_
    refine region_seq ?_
    revert a
    refine sA (v := .int .i64 (ar2 n1 n2 j)) rfl (fun _ henv => rn_idxAr2 (m := n1) (n := n2) (j := j) henv Tryd.underlying101 ty_int rfl rfl (by omega)) ?_
    refine aA rfl rfl ?_
    intro a henv
    refine wpList_nil ?_
    refine th_n ?_
    refine wp_seq ?_
    refine region_seq ?_
    revert a
    refine mA rfl rfl ?_
    refine sA (v := .bool (decide ((ar2 n1 n2 j) < (0 : Int)))) rfl (fun _ henv => rn_bin henv rfl rfl rfl) ?_
    refine mA rfl rfl ?_
    intro a henv
    rcases bool_em (decide ((ar2 n1 n2 j) < (0 : Int))) with hg54 | hg54
    · rw [hg54] at henv
      have hx55 := of_decide_eq_true hg54
      revert a
      refine kA rfl rfl rfl rfl rfl ?_
      refine kA rfl rfl rfl rfl rfl ?_
      refine sA (v := .bool true) rfl (fun _ henv => rn_pick henv rfl rfl) ?_
      intro a henv
      refine wpList_nil ?_
      refine th_n ?_
      refine if_t henv rfl (rfl) ?_
      refine wp_seq ?_
      refine region_seq ?_
      refine sv (v := .bool false) henv rfl (rn_assign henv rfl) ?_
      clear henv a; intro a henv
      refine wpList_nil ?_
      refine th_n ?_
      refine wp_ret ?_
      refine bl_r (th_r (th_r (bl_r (th_r ?_))))
      refine leave henv (res1 Tryd.results40 (RV.tmp henv rfl)) ?_
      exact ⟨by rw [decide_eq_false fun h => by have := rp_at h j; omega], hst.below⟩
    · rw [hg54] at henv
      have hx56 := of_decide_eq_false hg54
      revert a
      refine gA (v := .int .i64 (ar2 n1 n2 j)) rfl rfl rfl rfl (fun _ henv => rn_move henv rfl) ?_
      refine gA (v := .bool (decide ((ar2 n1 n2 j) > (4096 : Int)))) rfl rfl rfl rfl (fun _ henv => rn_bin henv rfl rfl rfl) ?_
      refine sA (v := .bool (decide ((ar2 n1 n2 j) > (4096 : Int)))) rfl (fun _ henv => rn_pick henv rfl rfl) ?_
      intro a henv
      refine wpList_nil ?_
      refine th_n ?_
      refine if_split henv rfl (fun hc57 => ?_) (fun hc57 => ?_)
      · have hx58 := of_decide_eq_true hc57
        refine wp_seq ?_
        refine region_seq ?_
        refine sv (v := .bool false) henv rfl (rn_assign henv rfl) ?_
        clear henv a; intro a henv
        refine wpList_nil ?_
        refine th_n ?_
        refine wp_ret ?_
        refine bl_r (th_r (th_r (bl_r (th_r ?_))))
        refine leave henv (res1 Tryd.results40 (RV.tmp henv rfl)) ?_
        exact ⟨by rw [decide_eq_false fun h => by have := rp_at h j; omega], hst.below⟩
      · have hx59 := of_decide_eq_false hc57
        refine wp_skip ?_
        refine bl_n (th_n ?_)
        refine region_seq ?_
        revert a
        refine sA (v := .int .i64 (j + 1 : Nat)) rfl (fun _ henv => rn_add henv rfl rfl (by rw [IntWalk.i64_in _ (by omega)]; omega)) ?_
        refine mA rfl rfl ?_
        intro a henv
        refine wpList_nil ?_
        exact th_n ⟨_, (by omega), ⟨j + 1, rfl, henv.sub ⟨rfl, rfl, rfl, rfl, trivial⟩, hst.pick [] [] (by decide), (by omega), (ar_step hqn1 (by omega))⟩⟩
  · have hx60 := of_decide_eq_false hc52
    obtain rfl : j = 2 := by omega
    refine wp_exit ?_
    refine th_x (th_x (bl_x (th_n ?_)))
    refine wp_seq ?_
    refine wp_seq ?_
    refine region_seq ?_
    revert a
    refine mA rfl rfl ?_
    refine mA rfl rfl ?_
    refine sA (v := .agg #[.int .i64 k1, .int .i64 k2]) rfl (fun _ henv => rn_arr2 henv Tryd.underlying101 (ty_int.size) zero__2_int rfl rfl) ?_
    refine mA rfl rfl ?_
    intro a henv
    refine wpList_nil ?_
    refine th_n ?_
    refine wp_block ?_
    refine wp_loop_ghost (fun mz a w => ∃ j : Nat, 2 - j = mz ∧ Env 39 a [(28, .agg #[.int .i64 k1, .int .i64 k2]), (29, .int .i64 (j : Nat))] ∧ St w0 w [] [] ∧ j ≤ 2 ∧ ∀ i, i < j → 1 ≤ ar2 k1 k2 i ∧ ar2 k1 k2 i ≤ 8) _ ⟨0, rfl, henv.sub ⟨rfl, rfl, trivial⟩, hst.pick [] [] (by decide), (by decide), (fun i hi => absurd hi (Nat.not_lt_zero _))⟩ ?_
    clear henv hst a
    rintro mz a w61 ⟨j, rfl, henv, hst, hj, hqk1⟩
    refine wp_seq ?_
    refine region_seq ?_
    refine sv (v := .bool (decide (((j : Nat) : Int) < (2 : Int)))) henv rfl (rn_bin henv rfl rfl rfl) ?_
    clear henv a; intro a henv
    refine wpList_nil ?_
    refine th_n ?_
    refine wp_seq ?_
    refine if_split henv rfl (fun hc62 => ?_) (fun hc62 => ?_)
    · have hx63 := of_decide_eq_true hc62
      have hlt : j < 2 := by omega
      refine wp_skip ?_
      refine th_n ?_
      refine wp_seq ?_
      refine wp_block ?_
      refine wp_seq ?_
      refine region_seq ?_
      revert a
      refine sA (v := .int .i64 (ar2 k1 k2 j)) rfl (fun _ henv => rn_idxAr2 (m := k1) (n := k2) (j := j) henv Tryd.underlying101 ty_int rfl rfl (by omega)) ?_
      refine aA rfl rfl ?_
      intro a henv
      refine wpList_nil ?_
      refine th_n ?_
      refine wp_seq ?_
      refine region_seq ?_
      revert a
      refine mA rfl rfl ?_
      refine sA (v := .bool (decide ((ar2 k1 k2 j) < (1 : Int)))) rfl (fun _ henv => rn_bin henv rfl rfl rfl) ?_
      refine mA rfl rfl ?_
      intro a henv
      rcases bool_em (decide ((ar2 k1 k2 j) < (1 : Int))) with hg64 | hg64
      · rw [hg64] at henv
        have hx65 := of_decide_eq_true hg64
        revert a
        refine kA rfl rfl rfl rfl rfl ?_
        refine kA rfl rfl rfl rfl rfl ?_
        refine sA (v := .bool true) rfl (fun _ henv => rn_pick henv rfl rfl) ?_
        intro a henv
        refine wpList_nil ?_
        refine th_n ?_
        refine if_t henv rfl (rfl) ?_
        refine wp_seq ?_
        refine region_seq ?_
        refine sv (v := .bool false) henv rfl (rn_assign henv rfl) ?_
        clear henv a; intro a henv
        refine wpList_nil ?_
        refine th_n ?_
        refine wp_ret ?_
        refine bl_r (th_r (th_r (bl_r (th_r ?_))))
        refine leave henv (res1 Tryd.results40 (RV.tmp henv rfl)) ?_
        exact ⟨by rw [decide_eq_false fun h => by have := rp_at h j; omega], hst.below⟩
      · rw [hg64] at henv
        have hx66 := of_decide_eq_false hg64
        revert a
        refine gA (v := .int .i64 (ar2 k1 k2 j)) rfl rfl rfl rfl (fun _ henv => rn_move henv rfl) ?_
        refine gA (v := .bool (decide ((ar2 k1 k2 j) > (8 : Int)))) rfl rfl rfl rfl (fun _ henv => rn_bin henv rfl rfl rfl) ?_
        refine sA (v := .bool (decide ((ar2 k1 k2 j) > (8 : Int)))) rfl (fun _ henv => rn_pick henv rfl rfl) ?_
        intro a henv
        refine wpList_nil ?_
        refine th_n ?_
        refine if_split henv rfl (fun hc67 => ?_) (fun hc67 => ?_)
        · have hx68 := of_decide_eq_true hc67
          refine wp_seq ?_
          refine region_seq ?_
          refine sv (v := .bool false) henv rfl (rn_assign henv rfl) ?_
          clear henv a; intro a henv
          refine wpList_nil ?_
          refine th_n ?_
          refine wp_ret ?_
          refine bl_r (th_r (th_r (bl_r (th_r ?_))))
          refine leave henv (res1 Tryd.results40 (RV.tmp henv rfl)) ?_
          exact ⟨by rw [decide_eq_false fun h => by have := rp_at h j; omega], hst.below⟩
        · have hx69 := of_decide_eq_false hc67
          refine wp_skip ?_
          refine bl_n (th_n ?_)
          refine region_seq ?_
          revert a
          refine sA (v := .int .i64 (j + 1 : Nat)) rfl (fun _ henv => rn_add henv rfl rfl (by rw [IntWalk.i64_in _ (by omega)]; omega)) ?_
          refine mA rfl rfl ?_
          intro a henv
          refine wpList_nil ?_
          exact th_n ⟨_, (by omega), ⟨j + 1, rfl, henv.sub ⟨rfl, rfl, trivial⟩, hst.pick [] [] (by decide), (by omega), (ar_step hqk1 (by omega))⟩⟩
    · have hx70 := of_decide_eq_false hc62
      obtain rfl : j = 2 := by omega
      refine wp_exit ?_
      refine th_x (th_x (bl_x (th_n ?_)))
      refine wp_seq ?_
      refine region_seq ?_
      refine sv (v := .bool true) henv rfl (rn_assign henv rfl) ?_
      clear henv a; intro a henv
      refine wpList_nil ?_
      refine th_n ?_
      refine wp_ret ?_
      refine leave henv (res1 Tryd.results40 (RV.tmp henv rfl)) ?_
      exact ⟨by rw [decide_eq_true (rp_of hqn1 hqk1)], hst.below⟩
set_option maxRecDepth 100000 in
set_option maxHeartbeats 2000000 in
theorem sp_block_bad {n1 n2 k1 k2 : Int} {w0 : World} (hn : ¬ RP n1 n2 k1 k2) :
    Calls Tryd.prog 20 #[.int .i64 n1, .int .i64 n2, .int .i64 k1, .int .i64 k2] w0 fun e w' => e = .returned (.tuple #[.int .i64 0, .int .i64 2]) ∧ Below w0.heap.size w0 w' := by
  refine enter Tryd.func20 rfl Tryd.ntmps20 rfl ?_
  intro a henv hst
  refine wp_seq ?_
  refine region_seq ?_
  revert a
  refine aA rfl rfl ?_
  refine aA rfl rfl ?_
  intro a henv
  refine wpList_nil ?_
  refine th_n ?_
  refine wp_seq ?_
  refine wp_seq ?_
  refine region_seq ?_
  revert a
  refine mA rfl rfl ?_
  refine mA rfl rfl ?_
  refine mA rfl rfl ?_
  refine mA rfl rfl ?_
  intro a henv
  refine seq_step rfl (op_call henv rfl Tryd.call40 rfl (sp_right (n1 := n1) (n2 := n2) (k1 := k1) (k2 := k2)) ?_)
  rintro e w51 ⟨rfl, hb⟩
  refine ⟨_, rfl, ?_⟩
  clear henv a; intro a henv
  replace hst := hst.call hb
  clear hb
  rw [show (decide (RP n1 n2 k1 k2)) = false from (decide_eq_false hn)] at henv
  refine sv (v := .bool true) henv rfl (rn_un henv rfl rfl) ?_
  clear henv a; intro a henv
  refine wpList_nil ?_
  refine th_n ?_
  refine if_t henv rfl (rfl) ?_
  refine wp_seq ?_
  refine region_seq ?_
  revert a
  refine aA rfl rfl ?_
  refine aA rfl rfl ?_
  intro a henv
  refine wpList_nil ?_
  refine th_n ?_
  refine wp_ret ?_
  refine th_r ?_
  refine leave henv (res2 Tryd.results20 (RV.tmp henv rfl) (RV.tmp henv rfl)) ?_
  exact ⟨rfl, hst.below⟩
set_option maxRecDepth 100000 in
set_option maxHeartbeats 2000000 in
theorem sp_block {n1 n2 k1 k2 : Nat} {w0 : World} (h1 : n1 ≤ 4096) (h2 : n2 ≤ 4096) (g1 : 1 ≤ k1) (g2 : 1 ≤ k2) (f1 : k1 ≤ 8) (f2 : k2 ≤ 8) :
    Calls Tryd.prog 20 #[.int .i64 (n1 : Nat), .int .i64 (n2 : Nat), .int .i64 (k1 : Nat), .int .i64 (k2 : Nat)] w0 fun e w' => e = .returned (.tuple #[.int .i64 (blkN n1 n2 k1 k2 : Nat), .int .i64 0]) ∧ Below w0.heap.size w0 w' := by
  refine enter Tryd.func20 rfl Tryd.ntmps20 rfl ?_
  intro a henv hst
  refine wp_seq ?_
  refine region_seq ?_
  revert a
  refine aA rfl rfl ?_
  refine aA rfl rfl ?_
  intro a henv
  refine wpList_nil ?_
  refine th_n ?_
  refine wp_seq ?_
  refine wp_seq ?_
  refine region_seq ?_
  revert a
  refine mA rfl rfl ?_
  refine mA rfl rfl ?_
  refine mA rfl rfl ?_
  refine mA rfl rfl ?_
  intro a henv
  refine seq_step rfl (op_call henv rfl Tryd.call40 rfl (sp_right (n1 := ((n1 : Nat) : Int)) (n2 := ((n2 : Nat) : Int)) (k1 := ((k1 : Nat) : Int)) (k2 := ((k2 : Nat) : Int))) ?_)
  rintro e w51 ⟨rfl, hb⟩
  refine ⟨_, rfl, ?_⟩
  clear henv a; intro a henv
  replace hst := hst.call hb
  clear hb
  rw [show (decide (RP ((n1 : Nat) : Int) ((n2 : Nat) : Int) ((k1 : Nat) : Int) ((k2 : Nat) : Int))) = true from (decide_eq_true (show RP n1 n2 k1 k2 by unfold RP; omega))] at henv
  refine sv (v := .bool false) henv rfl (rn_un henv rfl rfl) ?_
  clear henv a; intro a henv
  refine wpList_nil ?_
  refine th_n ?_
  refine if_f henv rfl (rfl) ?_
  refine wp_skip ?_
  refine th_n ?_
  refine wp_seq ?_
  refine region_seq ?_
  revert a
  refine mA rfl rfl ?_
  refine mA rfl rfl ?_
  intro a henv
  refine seq_step rfl (op_call henv rfl Tryd.call41 rfl (sp_up (n := n1) (k := k1) (by omega) (by omega) (by omega)) ?_)
  rintro e w52 ⟨rfl, hb⟩
  refine ⟨_, rfl, ?_⟩
  clear henv a; intro a henv
  replace hst := hst.call hb
  clear hb
  revert a
  refine mA rfl rfl ?_
  refine mA rfl rfl ?_
  intro a henv
  refine seq_step rfl (op_call henv rfl Tryd.call41 rfl (sp_up (n := n2) (k := k2) (by omega) (by omega) (by omega)) ?_)
  rintro e w53 ⟨rfl, hb⟩
  refine ⟨_, rfl, ?_⟩
  clear henv a; intro a henv
  replace hst := hst.call hb
  clear hb
  revert a
  refine sA (v := .int .i64 (max (upN n1 k1) (upN n2 k2) : Nat)) rfl (fun _ henv => rn_maxN (m := upN n1 k1) (n := upN n2 k2) henv rfl rfl) ?_
  refine aA rfl rfl ?_
  refine aA rfl rfl ?_
  intro a henv
  refine wpList_nil ?_
  refine th_n ?_
  refine wp_ret ?_
  refine leave henv (res2 Tryd.results20 (RV.tmp henv rfl) (RV.tmp henv rfl)) ?_
  exact ⟨rfl, hst.below⟩
set_option maxRecDepth 100000 in
set_option maxHeartbeats 2000000 in
theorem sp_enters_bad {n1 n2 k1 k2 t : Int} {w0 : World} (hn : ¬ RP n1 n2 k1 k2) :
    Calls Tryd.prog 21 #[.int .i64 n1, .int .i64 n2, .int .i64 k1, .int .i64 k2, .int .i64 t] w0 fun e w' => e = .returned (.tuple #[.bool false, .int .i64 2]) ∧ Below w0.heap.size w0 w' := by
  refine enter Tryd.func21 rfl Tryd.ntmps21 rfl ?_
  intro a henv hst
  refine wp_seq ?_
  refine region_seq ?_
  revert a
  refine aA rfl rfl ?_
  refine aA rfl rfl ?_
  intro a henv
  refine wpList_nil ?_
  refine th_n ?_
  refine wp_seq ?_
  refine region_seq ?_
  revert a
  refine mA rfl rfl ?_
  refine mA rfl rfl ?_
  refine mA rfl rfl ?_
  refine mA rfl rfl ?_
  intro a henv
  refine seq_step rfl (op_call henv rfl Tryd.call20 rfl (sp_block_bad hn) ?_)
  rintro e w51 ⟨rfl, hb⟩
  refine ⟨_, rfl, ?_⟩
  clear henv a; intro a henv
  replace hst := hst.call hb
  clear hb
  revert a
  refine mA rfl rfl ?_
  refine sA (v := .int .i64 0) rfl (fun _ henv => rn_extract henv rfl rfl) ?_
  refine sA (v := .int .i64 2) rfl (fun _ henv => rn_extract henv rfl rfl) ?_
  refine aA rfl rfl ?_
  refine aA rfl rfl ?_
  intro a henv
  refine wpList_nil ?_
  refine th_n ?_
  refine wp_seq ?_
  refine wp_seq ?_
  refine region_seq ?_
  revert a
  refine mA rfl rfl ?_
  refine sA (v := .bool true) rfl (fun _ henv => rn_bin henv rfl rfl rfl) ?_
  intro a henv
  refine wpList_nil ?_
  refine th_n ?_
  refine if_t henv rfl (rfl) ?_
  refine wp_seq ?_
  refine region_seq ?_
  revert a
  refine mA rfl rfl ?_
  refine aA rfl rfl ?_
  refine aA rfl rfl ?_
  intro a henv
  refine wpList_nil ?_
  refine th_n ?_
  refine wp_ret ?_
  refine th_r ?_
  refine leave henv (res2 Tryd.results21 (RV.tmp henv rfl) (RV.tmp henv rfl)) ?_
  exact ⟨rfl, hst.below⟩
set_option maxRecDepth 100000 in
set_option maxHeartbeats 2000000 in
theorem sp_enters {n1 n2 k1 k2 : Nat} {t : Int} {w0 : World} (h1 : n1 ≤ 4096) (h2 : n2 ≤ 4096) (g1 : 1 ≤ k1) (g2 : 1 ≤ k2) (f1 : k1 ≤ 8) (f2 : k2 ≤ 8) :
    Calls Tryd.prog 21 #[.int .i64 (n1 : Nat), .int .i64 (n2 : Nat), .int .i64 (k1 : Nat), .int .i64 (k2 : Nat), .int .i64 t] w0 fun e w' => e = .returned (.tuple #[.bool (decide (EP n1 n2 k1 k2 t)), .int .i64 0]) ∧ Below w0.heap.size w0 w' := by
  refine enter Tryd.func21 rfl Tryd.ntmps21 rfl ?_
  intro a henv hst
  refine wp_seq ?_
  refine region_seq ?_
  revert a
  refine aA rfl rfl ?_
  refine aA rfl rfl ?_
  intro a henv
  refine wpList_nil ?_
  refine th_n ?_
  refine wp_seq ?_
  refine region_seq ?_
  revert a
  refine mA rfl rfl ?_
  refine mA rfl rfl ?_
  refine mA rfl rfl ?_
  refine mA rfl rfl ?_
  intro a henv
  refine seq_step rfl (op_call henv rfl Tryd.call20 rfl (sp_block (n1 := n1) (n2 := n2) (k1 := k1) (k2 := k2) (by omega) (by omega) (by omega) (by omega) (by omega) (by omega)) ?_)
  rintro e w51 ⟨rfl, hb⟩
  refine ⟨_, rfl, ?_⟩
  clear henv a; intro a henv
  replace hst := hst.call hb
  clear hb
  revert a
  refine mA rfl rfl ?_
  refine sA (v := .int .i64 (blkN n1 n2 k1 k2 : Nat)) rfl (fun _ henv => rn_extract henv rfl rfl) ?_
  refine sA (v := .int .i64 0) rfl (fun _ henv => rn_extract henv rfl rfl) ?_
  refine aA rfl rfl ?_
  refine aA rfl rfl ?_
  intro a henv
  refine wpList_nil ?_
  refine th_n ?_
  refine wp_seq ?_
  refine wp_seq ?_
  refine region_seq ?_
  revert a
  refine mA rfl rfl ?_
  refine sA (v := .bool false) rfl (fun _ henv => rn_bin henv rfl rfl rfl) ?_
  intro a henv
  refine wpList_nil ?_
  refine th_n ?_
  refine if_f henv rfl (rfl) ?_
  refine wp_skip ?_
  refine th_n ?_
  refine wp_seq ?_
  refine region_seq ?_
  revert a
  refine mA rfl rfl ?_
  refine mA rfl rfl ?_
  refine sA (v := .int .i64 (min n1 n2 : Nat)) rfl (fun _ henv => rn_min (m := n1) (n := n2) henv rfl rfl) ?_
  refine mA rfl rfl ?_
  refine sA (v := .int .i64 (max t (1 : Int))) rfl (fun _ henv => rn_maxI (m := t) (n := (1 : Int)) henv rfl rfl) ?_
  refine sA (v := .bool (decide (((min n1 n2 : Nat) : Int) > (max t (1 : Int))))) rfl (fun _ henv => rn_bin henv rfl rfl rfl) ?_
  refine mA rfl rfl ?_
  intro a henv
  rcases bool_em (decide (((min n1 n2 : Nat) : Int) > (max t (1 : Int)))) with hg52 | hg52
  · rw [hg52] at henv
    have hx53 := of_decide_eq_true hg52
    revert a
    refine gA (v := .int .i64 (blkN n1 n2 k1 k2 : Nat)) rfl rfl rfl rfl (fun _ henv => rn_move henv rfl) ?_
    refine gA (v := .int .i64 (n1 : Nat)) rfl rfl rfl rfl (fun _ henv => rn_move henv rfl) ?_
    refine gA (v := .int .i64 (n2 : Nat)) rfl rfl rfl rfl (fun _ henv => rn_move henv rfl) ?_
    refine gA (v := .int .i64 (max n1 n2 : Nat)) rfl rfl rfl rfl (fun _ henv => rn_maxN (m := n1) (n := n2) henv rfl rfl) ?_
    refine gA (v := .bool (decide (((blkN n1 n2 k1 k2 : Nat) : Int) < ((max n1 n2 : Nat) : Int)))) rfl rfl rfl rfl (fun _ henv => rn_bin henv rfl rfl rfl) ?_
    refine sA (v := .bool (decide (((blkN n1 n2 k1 k2 : Nat) : Int) < ((max n1 n2 : Nat) : Int)))) rfl (fun _ henv => rn_pick henv rfl rfl) ?_
    refine aA rfl rfl ?_
    refine aA rfl rfl ?_
    intro a henv
    refine wpList_nil ?_
    refine th_n ?_
    refine wp_ret ?_
    refine leave henv (res2 Tryd.results21 (RV.tmp henv rfl) (RV.tmp henv rfl)) ?_
    exact ⟨congrArg (fun b => Ending.returned (Value.tuple #[Value.bool b, Value.int .i64 0])) (decide_eq_decide.2 (by unfold EP; omega)), hst.below⟩
  · rw [hg52] at henv
    have hx54 := of_decide_eq_false hg52
    revert a
    refine kA rfl rfl rfl rfl rfl ?_
    refine kA rfl rfl rfl rfl rfl ?_
    refine kA rfl rfl rfl rfl rfl ?_
    refine kA rfl rfl rfl rfl rfl ?_
    refine kA rfl rfl rfl rfl rfl ?_
    refine sA (v := .bool false) rfl (fun _ henv => rn_pick henv rfl rfl) ?_
    refine aA rfl rfl ?_
    refine aA rfl rfl ?_
    intro a henv
    refine wpList_nil ?_
    refine th_n ?_
    refine wp_ret ?_
    refine leave henv (res2 Tryd.results21 (RV.tmp henv rfl) (RV.tmp henv rfl)) ?_
    exact ⟨by rw [decide_eq_false fun h => by unfold EP at h; omega], hst.below⟩
set_option maxRecDepth 100000 in
set_option maxHeartbeats 2000000 in
theorem sp_depth_bad {n1 n2 k1 k2 t : Int} {w0 : World} (hn : ¬ RP n1 n2 k1 k2) :
    Calls Tryd.prog 22 #[.int .i64 n1, .int .i64 n2, .int .i64 k1, .int .i64 k2, .int .i64 t] w0 fun e w' => e = .returned (.tuple #[.int .i64 0, .int .i64 2]) ∧ Below w0.heap.size w0 w' := by
  refine enter Tryd.func22 rfl Tryd.ntmps22 rfl ?_
  intro a henv hst
  refine wp_seq ?_
  refine region_seq ?_
  revert a
  refine aA rfl rfl ?_
  refine aA rfl rfl ?_
  intro a henv
  refine wpList_nil ?_
  refine th_n ?_
  refine wp_seq ?_
  refine region_seq ?_
  revert a
  refine mA rfl rfl ?_
  refine mA rfl rfl ?_
  refine mA rfl rfl ?_
  refine mA rfl rfl ?_
  refine mA rfl rfl ?_
  intro a henv
  refine seq_step rfl (op_call henv rfl Tryd.call21 rfl (sp_enters_bad hn) ?_)
  rintro e w51 ⟨rfl, hb⟩
  refine ⟨_, rfl, ?_⟩
  clear henv a; intro a henv
  replace hst := hst.call hb
  clear hb
  revert a
  refine mA rfl rfl ?_
  refine sA (v := .bool false) rfl (fun _ henv => rn_extract henv rfl rfl) ?_
  refine sA (v := .int .i64 2) rfl (fun _ henv => rn_extract henv rfl rfl) ?_
  refine aA rfl rfl ?_
  refine aA rfl rfl ?_
  intro a henv
  refine wpList_nil ?_
  refine th_n ?_
  refine wp_seq ?_
  refine wp_seq ?_
  refine region_seq ?_
  revert a
  refine mA rfl rfl ?_
  refine sA (v := .bool true) rfl (fun _ henv => rn_bin henv rfl rfl rfl) ?_
  refine mA rfl rfl ?_
  refine kA rfl rfl rfl rfl rfl ?_
  refine kA rfl rfl rfl rfl rfl ?_
  refine sA (v := .bool true) rfl (fun _ henv => rn_pick henv rfl rfl) ?_
  intro a henv
  refine wpList_nil ?_
  refine th_n ?_
  refine if_t henv rfl (rfl) ?_
  refine wp_seq ?_
  refine region_seq ?_
  revert a
  refine mA rfl rfl ?_
  refine aA rfl rfl ?_
  refine aA rfl rfl ?_
  intro a henv
  refine wpList_nil ?_
  refine th_n ?_
  refine wp_ret ?_
  refine th_r ?_
  refine leave henv (res2 Tryd.results22 (RV.tmp henv rfl) (RV.tmp henv rfl)) ?_
  exact ⟨rfl, hst.below⟩
set_option maxRecDepth 100000 in
set_option maxHeartbeats 2000000 in
theorem sp_depth_in {n1 n2 k1 k2 : Nat} {t : Int} {f : Nat} (ih : ∀ {n1 n2 : Nat} {w0 : World}, n1 ≤ 4096 → n2 ≤ 4096 → max n1 n2 < f →
    Calls Tryd.prog 22 #[.int .i64 (n1 : Nat), .int .i64 (n2 : Nat), .int .i64 (k1 : Nat), .int .i64 (k2 : Nat), .int .i64 t] w0 fun e w' => e = .returned (.tuple #[.int .i64 (depF k1 k2 t f n1 n2 : Nat), .int .i64 0]) ∧ Below w0.heap.size w0 w') {w0 : World} (h1 : n1 ≤ 4096) (h2 : n2 ≤ 4096) (g1 : 1 ≤ k1) (g2 : 1 ≤ k2) (f1 : k1 ≤ 8) (f2 : k2 ≤ 8) (hf : max n1 n2 < f + 1) (hE : EP n1 n2 k1 k2 t) :
    Calls Tryd.prog 22 #[.int .i64 (n1 : Nat), .int .i64 (n2 : Nat), .int .i64 (k1 : Nat), .int .i64 (k2 : Nat), .int .i64 t] w0 fun e w' => e = .returned (.tuple #[.int .i64 (depF k1 k2 t (f + 1) n1 n2 : Nat), .int .i64 0]) ∧ Below w0.heap.size w0 w' := by
  have hbl := blk_le h1 h2 g1 g2
  have hlt : max (blkN n1 n2 k1 k2) (blkN n1 n2 k1 k2) < f := by have := hE.2; omega
  have hdl : depF k1 k2 t f (blkN n1 n2 k1 k2) (blkN n1 n2 k1 k2) ≤ 4096 := dep_le hbl hbl
  refine enter Tryd.func22 rfl Tryd.ntmps22 rfl ?_
  intro a henv hst
  refine wp_seq ?_
  refine region_seq ?_
  revert a
  refine aA rfl rfl ?_
  refine aA rfl rfl ?_
  intro a henv
  refine wpList_nil ?_
  refine th_n ?_
  refine wp_seq ?_
  refine region_seq ?_
  revert a
  refine mA rfl rfl ?_
  refine mA rfl rfl ?_
  refine mA rfl rfl ?_
  refine mA rfl rfl ?_
  refine mA rfl rfl ?_
  intro a henv
  refine seq_step rfl (op_call henv rfl Tryd.call21 rfl (sp_enters (n1 := n1) (n2 := n2) (k1 := k1) (k2 := k2) (by omega) (by omega) (by omega) (by omega) (by omega) (by omega)) ?_)
  rintro e w51 ⟨rfl, hb⟩
  refine ⟨_, rfl, ?_⟩
  clear henv a; intro a henv
  replace hst := hst.call hb
  clear hb
  revert a
  refine mA rfl rfl ?_
  refine sA (v := .bool (decide (EP n1 n2 k1 k2 t))) rfl (fun _ henv => rn_extract henv rfl rfl) ?_
  intro a henv
  rw [show (decide (EP n1 n2 k1 k2 t)) = true from (decide_eq_true hE)] at henv
  revert a
  refine sA (v := .int .i64 0) rfl (fun _ henv => rn_extract henv rfl rfl) ?_
  refine aA rfl rfl ?_
  refine aA rfl rfl ?_
  intro a henv
  refine wpList_nil ?_
  refine th_n ?_
  refine wp_seq ?_
  refine wp_seq ?_
  refine region_seq ?_
  revert a
  refine mA rfl rfl ?_
  refine sA (v := .bool false) rfl (fun _ henv => rn_bin henv rfl rfl rfl) ?_
  refine mA rfl rfl ?_
  refine gA (v := .bool true) rfl rfl rfl rfl (fun _ henv => rn_move henv rfl) ?_
  refine gA (v := .bool false) rfl rfl rfl rfl (fun _ henv => rn_un henv rfl rfl) ?_
  refine sA (v := .bool false) rfl (fun _ henv => rn_pick henv rfl rfl) ?_
  intro a henv
  refine wpList_nil ?_
  refine th_n ?_
  refine if_f henv rfl (rfl) ?_
  refine wp_skip ?_
  refine th_n ?_
  refine wp_seq ?_
  refine region_seq ?_
  revert a
  refine mA rfl rfl ?_
  refine mA rfl rfl ?_
  refine mA rfl rfl ?_
  refine mA rfl rfl ?_
  intro a henv
  refine seq_step rfl (op_call henv rfl Tryd.call20 rfl (sp_block (n1 := n1) (n2 := n2) (k1 := k1) (k2 := k2) (by omega) (by omega) (by omega) (by omega) (by omega) (by omega)) ?_)
  rintro e w52 ⟨rfl, hb⟩
  refine ⟨_, rfl, ?_⟩
  clear henv a; intro a henv
  replace hst := hst.call hb
  clear hb
  revert a
  refine mA rfl rfl ?_
  refine sA (v := .int .i64 (blkN n1 n2 k1 k2 : Nat)) rfl (fun _ henv => rn_extract henv rfl rfl) ?_
  refine sA (v := .int .i64 0) rfl (fun _ henv => rn_extract henv rfl rfl) ?_
  refine aA rfl rfl ?_
  refine aA rfl rfl ?_
  intro a henv
  refine wpList_nil ?_
  refine th_n ?_
  refine wp_seq ?_
  refine region_seq ?_
  revert a
  refine mA rfl rfl ?_
  refine mA rfl rfl ?_
  refine mA rfl rfl ?_
  refine mA rfl rfl ?_
  refine mA rfl rfl ?_
  intro a henv
  refine seq_step rfl (op_call henv rfl Tryd.call22 rfl (ih hbl hbl hlt) ?_)
  rintro e w53 ⟨rfl, hb⟩
  refine ⟨_, rfl, ?_⟩
  clear henv a; intro a henv
  replace hst := hst.call hb
  clear hb
  revert a
  refine mA rfl rfl ?_
  refine sA (v := .int .i64 (depF k1 k2 t f (blkN n1 n2 k1 k2) (blkN n1 n2 k1 k2) : Nat)) rfl (fun _ henv => rn_extract henv rfl rfl) ?_
  refine sA (v := .int .i64 0) rfl (fun _ henv => rn_extract henv rfl rfl) ?_
  refine aA rfl rfl ?_
  refine aA rfl rfl ?_
  intro a henv
  refine wpList_nil ?_
  refine th_n ?_
  refine wp_seq ?_
  refine region_seq ?_
  revert a
  refine mA rfl rfl ?_
  refine sA (v := .int .i64 (depF k1 k2 t f (blkN n1 n2 k1 k2) (blkN n1 n2 k1 k2) + 1 : Nat)) rfl (fun _ henv => rn_add henv rfl rfl (by rw [IntWalk.i64_in _ (by omega)]; omega)) ?_
  refine mA rfl rfl ?_
  refine aA rfl rfl ?_
  refine aA rfl rfl ?_
  intro a henv
  refine wpList_nil ?_
  refine th_n ?_
  refine wp_ret ?_
  refine leave henv (res2 Tryd.results22 (RV.tmp henv rfl) (RV.tmp henv rfl)) ?_
  exact ⟨by rw [depF, if_pos hE] <;> rfl, hst.below⟩
set_option maxRecDepth 100000 in
set_option maxHeartbeats 2000000 in
theorem sp_depth_out {n1 n2 k1 k2 : Nat} {t : Int} {f : Nat} {w0 : World} (h1 : n1 ≤ 4096) (h2 : n2 ≤ 4096) (g1 : 1 ≤ k1) (g2 : 1 ≤ k2) (f1 : k1 ≤ 8) (f2 : k2 ≤ 8) (hE : ¬ EP n1 n2 k1 k2 t) :
    Calls Tryd.prog 22 #[.int .i64 (n1 : Nat), .int .i64 (n2 : Nat), .int .i64 (k1 : Nat), .int .i64 (k2 : Nat), .int .i64 t] w0 fun e w' => e = .returned (.tuple #[.int .i64 (depF k1 k2 t (f + 1) n1 n2 : Nat), .int .i64 0]) ∧ Below w0.heap.size w0 w' := by
  refine enter Tryd.func22 rfl Tryd.ntmps22 rfl ?_
  intro a henv hst
  refine wp_seq ?_
  refine region_seq ?_
  revert a
  refine aA rfl rfl ?_
  refine aA rfl rfl ?_
  intro a henv
  refine wpList_nil ?_
  refine th_n ?_
  refine wp_seq ?_
  refine region_seq ?_
  revert a
  refine mA rfl rfl ?_
  refine mA rfl rfl ?_
  refine mA rfl rfl ?_
  refine mA rfl rfl ?_
  refine mA rfl rfl ?_
  intro a henv
  refine seq_step rfl (op_call henv rfl Tryd.call21 rfl (sp_enters (n1 := n1) (n2 := n2) (k1 := k1) (k2 := k2) (by omega) (by omega) (by omega) (by omega) (by omega) (by omega)) ?_)
  rintro e w51 ⟨rfl, hb⟩
  refine ⟨_, rfl, ?_⟩
  clear henv a; intro a henv
  replace hst := hst.call hb
  clear hb
  revert a
  refine mA rfl rfl ?_
  refine sA (v := .bool (decide (EP n1 n2 k1 k2 t))) rfl (fun _ henv => rn_extract henv rfl rfl) ?_
  intro a henv
  rw [show (decide (EP n1 n2 k1 k2 t)) = false from (decide_eq_false hE)] at henv
  revert a
  refine sA (v := .int .i64 0) rfl (fun _ henv => rn_extract henv rfl rfl) ?_
  refine aA rfl rfl ?_
  refine aA rfl rfl ?_
  intro a henv
  refine wpList_nil ?_
  refine th_n ?_
  refine wp_seq ?_
  refine wp_seq ?_
  refine region_seq ?_
  revert a
  refine mA rfl rfl ?_
  refine sA (v := .bool false) rfl (fun _ henv => rn_bin henv rfl rfl rfl) ?_
  refine mA rfl rfl ?_
  refine gA (v := .bool false) rfl rfl rfl rfl (fun _ henv => rn_move henv rfl) ?_
  refine gA (v := .bool true) rfl rfl rfl rfl (fun _ henv => rn_un henv rfl rfl) ?_
  refine sA (v := .bool true) rfl (fun _ henv => rn_pick henv rfl rfl) ?_
  intro a henv
  refine wpList_nil ?_
  refine th_n ?_
  refine if_t henv rfl (rfl) ?_
  refine wp_seq ?_
  refine region_seq ?_
  revert a
  refine mA rfl rfl ?_
  refine aA rfl rfl ?_
  refine aA rfl rfl ?_
  intro a henv
  refine wpList_nil ?_
  refine th_n ?_
  refine wp_ret ?_
  refine th_r ?_
  refine leave henv (res2 Tryd.results22 (RV.tmp henv rfl) (RV.tmp henv rfl)) ?_
  exact ⟨by rw [depF, if_neg hE] <;> rfl, hst.below⟩
theorem sp_depth {k1 k2 : Nat} {t : Int} (g1 : 1 ≤ k1) (g2 : 1 ≤ k2) (f1 : k1 ≤ 8) (f2 : k2 ≤ 8) : ∀ (f : Nat) {n1 n2 : Nat} {w0 : World}, n1 ≤ 4096 → n2 ≤ 4096 → max n1 n2 < f →
    Calls Tryd.prog 22 #[.int .i64 (n1 : Nat), .int .i64 (n2 : Nat), .int .i64 (k1 : Nat), .int .i64 (k2 : Nat), .int .i64 t] w0 fun e w' => e = .returned (.tuple #[.int .i64 (depF k1 k2 t f n1 n2 : Nat), .int .i64 0]) ∧ Below w0.heap.size w0 w'
  | 0, _, _, _, _, _, h => absurd h (Nat.not_lt_zero _)
  | f + 1, n1, n2, w0, h1, h2, h => by
    by_cases hE : EP n1 n2 k1 k2 t
    · exact sp_depth_in (fun a b c => sp_depth g1 g2 f1 f2 f a b c) h1 h2 g1 g2 f1 f2 h hE
    · exact sp_depth_out h1 h2 g1 g2 f1 f2 hE
end Go.Proofs.YtoojllfijfjmoaaDoor.W

/- row.Zero, Unit, IsZero; the laws' live; RowMakes. Printed by pv/gen_row2.py. No condition. -/
namespace Go.Proofs.YtoojllfijfjmoaaDoor.W
open Go.RowKit Anv Go.Lib
theorem fN_zero : fN (none, 0, 0) = (Value.agg #[.bool false, .slice none 0 0]).cells.toList := by
  show [Value.bool (neg 0), Value.slice none (zl 0) 0] = _
  rw [neg_zero, zl_zero]; rfl
theorem es_zeros (n : Nat) (w : World) : (pfEs FN (List.replicate n (none, 0, 0))).P w := fun e he => by
  rw [List.eq_of_mem_replicate he]
  exact zin_none w
def allz (es : List NE) : Bool := es.all fun e => decide (zz e = 0)
end Go.Proofs.YtoojllfijfjmoaaDoor.W
