/- The reference's numbers: norm. No condition. -/
import Derived.Test.YtnldopjbiacbfaaInt6
namespace Go.Proofs.Ytnldopjbiacbfaa
open Go.RowKit Anv

/-- The digits of a number to the base 65536, as the reference has them. -/
def D (N : Nat) : List Nat := dig 65536 N
def dn (N : Nat) : Nat := (D N).length
/-- How many digits a whole number has. -/
def dl (z : Int) : Nat := dn z.natAbs
theorem val_D (N : Nat) : val 65536 (D N) = N := val_dig (by omega) N
theorem D_lt (N : Nat) : AllLt 65536 (D N) := dig_lt (by omega) N
theorem D_zero : D 0 = [] := dig_zero _
theorem wide {xs : List Nat} (h : AllLt 65536 xs) : AllLt 4294967296 xs := fun x hx => by have := h x hx; omega
theorem dn_zero : dn 0 = 0 := by unfold dn; rw [D_zero]; rfl
theorem dn_pos {N : Nat} (h : 0 < N) : 0 < dn N := by unfold dn D; rw [dig_pos (by omega) h]; simp
theorem dn_dpos (N : Nat) : decide (0 < dn N) = decide (0 < N) := by
  rcases Nat.eq_zero_or_pos N with h | h
  · subst h; rw [dn_zero]
  · have := dn_pos h; simp [h, this]
/-- The digits of a whole number lie at A. -/
def RIn (w : World) (A : Option Addr) (c : Nat) (z : Int) : Prop := U32 w A (dl z) c (D z.natAbs)
/-- The value of a whole number of the reference. -/
def RAt (w : World) (v : Value) (z : Int) : Prop := ∃ A c, v = .agg #[.bool (neg z), .slice A (dl z) c] ∧ RIn w A c z
theorem RIn.below {w w' : World} {A : Option Addr} {c : Nat} {z : Int} (h : RIn w A c z) (hb : Below w.heap.size w w') : RIn w' A c z := U32.below h hb
theorem RAt.below {w w' : World} {v : Value} {z : Int} (h : RAt w v z) (hb : Below w.heap.size w w') : RAt w' v z := by
  obtain ⟨A, c, rfl, hz⟩ := h
  exact ⟨A, c, rfl, hz.below hb⟩
theorem sg_dl (b : Bool) (N : Nat) : dl (sg b N) = dn N := by unfold dl; rw [sg_abs]

theorem dn_eq {xs : List Nat} (h : AllLt 65536 xs) (m : Nat) (hm : m ≤ xs.length) (hz : ∀ i, m ≤ i → i < xs.length → xs.getD i 0 = 0) (hl : m = 0 ∨ xs.getD (m - 1) 0 ≠ 0) : m = dn (val 65536 xs) := by
  have h1 := take_eq_dig (by omega) h m hm hz hl
  unfold dn D
  rw [← h1]
  simp; omega

theorem take_dn {w : World} {A : Option Addr} {n c m : Nat} {xs : List Nat} (h : U32 w A n c xs) (hd : AllLt 65536 xs) (hm : m = dn (val 65536 xs)) (hmn : m ≤ n) (hz : ∀ i, m ≤ i → i < xs.length → xs.getD i 0 = 0) (hl : m = 0 ∨ xs.getD (m - 1) 0 ≠ 0) :
    U32 w A m c (D (val 65536 xs)) := by
  have h1 := take_eq_dig (by omega) hd m (by rw [h.len]; exact hmn) hz hl
  refine ⟨hm.symm, Nat.le_trans hmn h.cap, h.big, wide (D_lt _), fun hp => ?_⟩
  obtain ⟨b, off, hA, hb, hc⟩ := h.cells (by omega)
  refine ⟨b, off, hA, hb, fun i hi => ?_⟩
  rw [hc i (by omega)]
  unfold D
  rw [← h1]
  congr 3
  simp [List.getD, hi]

/-- What norm answers, behind a name. -/
def NormPost (w : World) (A : Option Addr) (c : Nat) (b : Bool) (N : Nat) (e : Ending) (w' : World) : Prop :=
  e = .returned (.agg #[.bool (neg (sg b N)), .slice A (dl (sg b N)) c]) ∧ RIn w' A c (sg b N) ∧ Below w.heap.size w w'

theorem norm_fin {w w' : World} {A : Option Addr} {n c : Nat} {xs : List Nat} {b : Bool} (h : U32 w A n c xs) (hd : AllLt 65536 xs) (m : Nat) (bv : Bool) (hmn : m ≤ n) (hz : ∀ j, m ≤ j → j < n → xs.getD j 0 = 0)
    (hl : m = 0 ∨ xs.getD (m - 1) 0 ≠ 0) (hbv : bv = (b && decide (0 < m))) (hb : Below w.heap.size w w') : NormPost w A c b (val 65536 xs) (.returned (.agg #[.bool bv, .slice A m c])) w' := by
  have hz' : ∀ j, m ≤ j → j < xs.length → xs.getD j 0 = 0 := fun j h1 h2 => hz j h1 (by rw [← h.len]; exact h2)
  have hm := dn_eq hd m (by rw [h.len]; exact hmn) hz' hl
  have hU := take_dn h hd hm hmn hz' hl
  refine ⟨?_, ?_, hb⟩
  · rw [hbv, sg_dl, sg_neg, ← dn_dpos (val 65536 xs), ← hm]
  · unfold RIn
    rw [sg_dl, sg_abs, ← hm]
    exact hU.below hb

theorem norm_ref {b : Bool} {A : Option Addr} {n c : Nat} {xs : List Nat} {w : World} (h : U32 w A n c xs) (hd : AllLt 65536 xs) :
    Calls Try.prog 51 #[.bool b, .slice A n c] w (NormPost w A c b (val 65536 xs)) := by
  have hc := h.cap
  have hb := h.big
  unfold maxLen at hb
  go_enter Try.func51, Try.ntmps51
  go_wp2
  go_loop [5] (fun i => ∃ m : Nat, m ≤ n ∧ i = .int .i64 m ∧ Hid (∀ j, m ≤ j → j < n → xs.getD j 0 = 0)) (fun i => (intOf i).toNat)
  case atStart => exact ⟨n, Nat.le_refl _, rfl, fun j h1 h2 => by omega⟩
  case round =>
    obtain ⟨m, hm, rfl, HZ⟩ := hrel
    rcases m with _ | m
    · cases b
      · go_wp2
        exact bodyPost_ret (v := .agg #[.bool false, .slice A 0 c]) (by simp [results, Try.results51, go_sem]) rfl (norm_fin h hd 0 false (by omega) HZ.out (.inl rfl) (by simp) (below1 _ _))
      · go_wp2
        exact bodyPost_ret (v := .agg #[.bool false, .slice A 0 c]) (by simp [results, Try.results51, go_sem]) rfl (norm_fin h hd 0 false (by omega) HZ.out (.inl rfl) (by simp) (below1 _ _))
    · obtain ⟨bb, off, rfl, hbw, hcs⟩ := h.cells (by omega)
      have hcell := hcs m (by omega)
      clear hcs
      generalize hx : xs.getD m 0 = x at hcell
      have HX := Lib.hid hx
      clear hx
      by_cases hx : x = 0
      · subst hx
        go_wp2
        go_round
        case rel =>
          refine ⟨m, by omega, rfl, fun j h1 h2 => ?_⟩
          rcases Nat.eq_or_lt_of_le h1 with h3 | h3
          · rw [← h3]; exact HX.out
          · exact HZ.out j (by omega) h2
        case measure => simp [intOf]
      · have hx0 : ((x : Int) == 0) = false := by simp; omega
        cases b
        · go_wp2
          exact bodyPost_ret (v := .agg #[.bool false, .slice (some ⟨bb, off, none⟩) (m + 1) c]) (by simp [results, Try.results51, go_sem]) rfl (norm_fin h hd (m + 1) false (by omega) HZ.out (.inr (by rw [Nat.add_sub_cancel, HX.out]; exact hx)) (by simp) (below1 _ _))
        · go_wp2
          exact bodyPost_ret (v := .agg #[.bool true, .slice (some ⟨bb, off, none⟩) (m + 1) c]) (by simp [results, Try.results51, go_sem]) rfl (norm_fin h hd (m + 1) true (by omega) HZ.out (.inr (by rw [Nat.add_sub_cancel, HX.out]; exact hx)) (by simp) (below1 _ _))

end Go.Proofs.Ytnldopjbiacbfaa
