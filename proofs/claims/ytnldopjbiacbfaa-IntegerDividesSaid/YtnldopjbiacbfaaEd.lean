/- Plain arithmetic of quotients and remainders of whole numbers. No program in sight. No condition. -/
import Derived.Test.YtnldopjbiacbfaaPow
namespace Go.Proofs.Ytnldopjbiacbfaa
open Go.RowKit Anv

theorem ed_unique {a b q r : Int} (hb : b ≠ 0) (h : r + b * q = a) (h0 : 0 ≤ r) (h1 : r < b.natAbs) : a / b = q ∧ a % b = r := by
  rcases Int.lt_or_gt_of_ne hb with hneg | hpos
  · have h2 := (Int.ediv_emod_unique (a := a) (b := -b) (r := r) (q := -q) (by omega)).2 ⟨by rw [Int.neg_mul_neg]; exact h, h0, by omega⟩
    rw [Int.ediv_neg] at h2
    rw [Int.emod_neg] at h2
    exact ⟨by omega, h2.2⟩
  · exact (Int.ediv_emod_unique (by omega)).2 ⟨h, h0, by omega⟩

theorem abs_dm (x y : Int) : ((x.natAbs % y.natAbs : Nat) : Int) + (y.natAbs : Int) * ((x.natAbs / y.natAbs : Nat) : Int) = x.natAbs := by
  rw [← Int.natCast_mul, ← Int.natCast_add, Nat.mod_add_div]

theorem ed_signs (x y : Int) : sg (neg x) (x.natAbs % y.natAbs) + y * sg (!neg x == neg y) (x.natAbs / y.natAbs) = x := by
  have h := abs_dm x y
  generalize x.natAbs % y.natAbs = R at *
  generalize x.natAbs / y.natAbs = Q at *
  unfold sg neg
  rcases Int.lt_or_le x 0 with h1 | h1 <;> rcases Int.lt_or_le y 0 with h2 | h2
  · rw [show (x.natAbs : Int) = -x from by omega, show (y.natAbs : Int) = -y from by omega, Int.neg_mul] at h
    simp [h1, h2]; omega
  · rw [show (x.natAbs : Int) = -x from by omega, show (y.natAbs : Int) = y from by omega] at h
    simp [h1, show ¬ y < 0 from by omega, Int.mul_neg]; omega
  · rw [show (x.natAbs : Int) = x from by omega, show (y.natAbs : Int) = -y from by omega, Int.neg_mul] at h
    simp [h2, show ¬ x < 0 from by omega, Int.mul_neg]; omega
  · rw [show (x.natAbs : Int) = x from by omega, show (y.natAbs : Int) = y from by omega] at h
    simp [show ¬ y < 0 from by omega, show ¬ x < 0 from by omega]; omega

/-- Where the remainder as it is cut off is not below nought. -/
theorem ed_plain {x y : Int} (hy : y ≠ 0) (h : neg (sg (neg x) (x.natAbs % y.natAbs)) = false) : x / y = sg (!neg x == neg y) (x.natAbs / y.natAbs) ∧ x % y = sg (neg x) (x.natAbs % y.natAbs) := by
  refine ed_unique hy (ed_signs x y) (neg_false h) ?_
  have h1 := Nat.mod_lt x.natAbs (show 0 < y.natAbs by omega)
  have h2 := sg_abs (neg x) (x.natAbs % y.natAbs)
  omega

theorem sign_mul (y : Int) : y * y.sign = y.natAbs := Int.mul_sign_self y

/-- Where it is. -/
theorem ed_turned {x y : Int} (hy : y ≠ 0) (h : neg (sg (neg x) (x.natAbs % y.natAbs)) = true) : x / y = sg (!neg x == neg y) (x.natAbs / y.natAbs) - y.sign ∧ x % y = sg (neg x) (x.natAbs % y.natAbs) + y.natAbs := by
  have h1 := Nat.mod_lt x.natAbs (show 0 < y.natAbs by omega)
  have h2 := sg_abs (neg x) (x.natAbs % y.natAbs)
  have h3 := neg_true h
  have h4 := ed_signs x y
  have h5 := sign_mul y
  refine ed_unique hy ?_ (by omega) (by omega)
  rw [Int.mul_sub, h5]
  omega

theorem zl_ediv (x y : Int) : zl (x / y) ≤ zl x := nl_mono (Int.natAbs_ediv_le_natAbs x y)
theorem dl_ediv (x y : Int) : dl (x / y) ≤ dl x := dn_mono (Int.natAbs_ediv_le_natAbs x y)
theorem zl_emod {x y : Int} (hy : y ≠ 0) : zl (x % y) ≤ zl y := nl_mono (by
  have h1 := Int.emod_nonneg x hy
  have h2 := Int.emod_lt x hy
  omega)
theorem dl_emod {x y : Int} (hy : y ≠ 0) : dl (x % y) ≤ dl y := dn_mono (by
  have h1 := Int.emod_nonneg x hy
  have h2 := Int.emod_lt x hy
  omega)

end Go.Proofs.Ytnldopjbiacbfaa
