/- The reference: signs, sums, differences. No condition. -/
import Derived.Test.YtnldopjbiacbfaaRef4
namespace Go.Proofs.Ytnldopjbiacbfaa
open Go.RowKit Anv

theorem dl_neg (z : Int) : dl (-z) = dl z := by unfold dl; rw [Int.natAbs_neg]
theorem norm_num' {b : Bool} {A : Option Addr} {c N : Nat} {w : World} (h : U32 w A (dn N) c (D N)) :
    Calls Try.prog 51 #[.bool b, .slice A (dn N) c] w (NormPost w A c b N) := by
  have h2 := norm_ref (b := b) h (D_lt N)
  rw [val_D] at h2
  exact h2

theorem sign_r {A : Option Addr} {c : Nat} {z : Int} {w : World} :
    Calls Try.prog 12 #[.agg #[.bool (neg z), .slice A (dl z) c]] w fun e w' => e = .returned (.int .i64 z.sign) ∧ Below w.heap.size w w' := by
  rcases Int.lt_trichotomy z 0 with h | h | h
  · have h1 : neg z = true := by unfold neg; simp [h]
    have h2 : 0 < dl z := dn_pos (by omega)
    have h3 : ((dl z : Int) == 0) = false := by simp; omega
    have h4 : z.sign = -1 := Int.sign_eq_neg_one_of_neg h
    rw [h1, h4]
    clear h1 h4 h
    go_enter Try.func12, Try.ntmps12
    go_wp2
    go_ret
    exact ⟨rfl, (Below.refl _ _).alloc (Nat.le_refl _) _⟩
  · subst h
    have h1 : neg 0 = false := by unfold neg; simp
    have h2 : dl 0 = 0 := dn_zero
    rw [h1, h2]
    clear h1 h2
    go_enter Try.func12, Try.ntmps12
    go_wp2
    go_ret
    exact ⟨rfl, (Below.refl _ _).alloc (Nat.le_refl _) _⟩
  · have h1 : neg z = false := by unfold neg; simp; omega
    have h2 : 0 < dl z := dn_pos (by omega)
    have h3 : ((dl z : Int) == 0) = false := by simp; omega
    have h4 : z.sign = 1 := Int.sign_eq_one_of_pos h
    rw [h1, h4]
    clear h1 h4 h
    go_enter Try.func12, Try.ntmps12
    go_wp2
    go_ret
    exact ⟨rfl, (Below.refl _ _).alloc (Nat.le_refl _) _⟩

theorem neg_r {A : Option Addr} {c : Nat} {z : Int} {w : World} (h : RIn w A c z) :
    Calls Try.prog 17 #[.agg #[.bool (neg z), .slice A (dl z) c]] w fun e w' => ∃ v, e = .returned v ∧ RAt w' v (-z) ∧ Below w.heap.size w w' := by
  go_enter Try.func17, Try.ntmps17
  go_wp2_with fail
  refine (norm_num' (h.below (below2 _ _ _))).mono ?_
  rintro e w1 ⟨rfl, hz, hb⟩
  rw [sg_not] at hz ⊢
  have HZ := Lib.hid hz
  clear hz
  obtain ⟨hc, hf⟩ := bcell hb
  have hs : w.heap.size + 1 < w1.heap.size := by have := hb.size; simp at this; omega
  go_wp2
  exact bodyPost_ret (v := .agg #[.bool (neg (-z)), .slice A (dl (-z)) c]) (by simp [results, Try.results17, go_sem, hc]) rfl
    ⟨_, rfl, ⟨_, _, rfl, U32.store2 HZ.out (by simp [hc]) (by simp [hc]) _ _⟩, below_store2 (thru (below2 _ _ _) hb) (by omega) _ _⟩

theorem abs_r {A : Option Addr} {c : Nat} {z : Int} {w : World} (h : RIn w A c z) :
    Calls Try.prog 19 #[.agg #[.bool (neg z), .slice A (dl z) c]] w fun e w' => ∃ v, e = .returned v ∧ RAt w' v (z.natAbs : Int) ∧ Below w.heap.size w w' := by
  go_enter Try.func19, Try.ntmps19
  go_wp2_with fail
  refine (norm_num' (h.below (below2 _ _ _))).mono ?_
  rintro e w1 ⟨rfl, hz, hb⟩
  rw [sg_false] at hz ⊢
  have HZ := Lib.hid hz
  clear hz
  obtain ⟨hc, hf⟩ := bcell hb
  have hs : w.heap.size + 1 < w1.heap.size := by have := hb.size; simp at this; omega
  go_wp2
  exact bodyPost_ret (v := .agg #[.bool (neg (z.natAbs : Int)), .slice A (dl (z.natAbs : Int)) c]) (by simp [results, Try.results19, go_sem, hc]) rfl
    ⟨_, rfl, ⟨_, _, rfl, U32.store2 HZ.out (by simp [hc]) (by simp [hc]) _ _⟩, below_store2 (thru (below2 _ _ _) hb) (by omega) _ _⟩

end Go.Proofs.Ytnldopjbiacbfaa
