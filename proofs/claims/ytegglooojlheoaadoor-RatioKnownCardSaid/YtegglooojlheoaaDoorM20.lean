/- How many binary digits a number has: limb.Bits, Bits of both. No condition. -/
import Derived.Test.YtegglooojlheoaaDoorM16
import Derived.Test.YtegglooojlheoaaDoorM19

namespace Go.Proofs.YtegglooojlheoaaDoor
open Go.RowKit Anv
def blen (n : Nat) : Nat := if n = 0 then 0 else n.log2 + 1
theorem top_ne {xs : List Nat} (h : Norm xs) {n : Nat} (hn : xs.length = n + 1) : xs.getD n 0 ≠ 0 := by
  intro h0
  apply h
  rw [List.getLast?_eq_getElem?, hn, Nat.add_sub_cancel]
  rw [List.getD_eq_getElem?_getD] at h0
  rw [List.getElem?_eq_getElem (by omega)] at h0 ⊢
  simpa using h0
theorem zero_of_nl {N : Nat} (h : nl N = 0) : N = 0 := by
  have h1 := val_L N
  rw [List.length_eq_zero_iff.1 h] at h1
  exact h1.symm
end Go.Proofs.YtegglooojlheoaaDoor

/- Powers: anvilref02.Pow. No condition. -/
namespace Go.Proofs.YtegglooojlheoaaDoor
open Go.RowKit Anv
end Go.Proofs.YtegglooojlheoaaDoor

/- Plain arithmetic of quotients and remainders of whole numbers. No program in sight. No condition. -/
namespace Go.Proofs.YtegglooojlheoaaDoor
open Go.RowKit Anv
theorem ed_unique {a b q r : Int} (hb : b ≠ 0) (h : r + b * q = a) (h0 : 0 ≤ r) (h1 : r < b.natAbs) : a / b = q ∧ a % b = r := by
  rcases Int.lt_or_gt_of_ne hb with hneg | hpos
  · have h2 := (Int.ediv_emod_unique (a := a) (b := -b) (r := r) (q := -q) (by omega)).2 ⟨by rw [Int.neg_mul_neg]; exact h, h0, by omega⟩
    rw [Int.ediv_neg] at h2
    rw [Int.emod_neg] at h2
    exact ⟨by omega, h2.2⟩
  · exact (Int.ediv_emod_unique (by omega)).2 ⟨h, h0, by omega⟩
theorem abs_dm (x y : Int) : ((x.natAbs % y.natAbs : Nat) : Int) + (y.natAbs : Int) * ((x.natAbs / y.natAbs : Nat) : Int) = x.natAbs := by
  rw [← Int.natCast_mul, ← Int.natCast_add, Nat.mod_add_div]
theorem ed_signs (x y : Int) : sg (neg x) (x.natAbs % y.natAbs) + y * sg (!neg x == neg y) (x.natAbs / y.natAbs) = x := by
  have h := abs_dm x y
  generalize x.natAbs % y.natAbs = R at *
  generalize x.natAbs / y.natAbs = Q at *
  unfold sg neg
  rcases Int.lt_or_le x 0 with h1 | h1 <;> rcases Int.lt_or_le y 0 with h2 | h2
  · rw [show (x.natAbs : Int) = -x from by omega, show (y.natAbs : Int) = -y from by omega, Int.neg_mul] at h
    simp [h1, h2]; omega
  · rw [show (x.natAbs : Int) = -x from by omega, show (y.natAbs : Int) = y from by omega] at h
    simp [h1, show ¬ y < 0 from by omega, Int.mul_neg]; omega
  · rw [show (x.natAbs : Int) = x from by omega, show (y.natAbs : Int) = -y from by omega, Int.neg_mul] at h
    simp [h2, show ¬ x < 0 from by omega, Int.mul_neg]; omega
  · rw [show (x.natAbs : Int) = x from by omega, show (y.natAbs : Int) = y from by omega] at h
    simp [show ¬ y < 0 from by omega, show ¬ x < 0 from by omega]; omega
theorem ed_plain {x y : Int} (hy : y ≠ 0) (h : neg (sg (neg x) (x.natAbs % y.natAbs)) = false) : x / y = sg (!neg x == neg y) (x.natAbs / y.natAbs) ∧ x % y = sg (neg x) (x.natAbs % y.natAbs) := by
  refine ed_unique hy (ed_signs x y) (neg_false h) ?_
  have h1 := Nat.mod_lt x.natAbs (show 0 < y.natAbs by omega)
  have h2 := sg_abs (neg x) (x.natAbs % y.natAbs)
  omega
theorem sign_mul (y : Int) : y * y.sign = y.natAbs := Int.mul_sign_self y
theorem ed_turned {x y : Int} (hy : y ≠ 0) (h : neg (sg (neg x) (x.natAbs % y.natAbs)) = true) : x / y = sg (!neg x == neg y) (x.natAbs / y.natAbs) - y.sign ∧ x % y = sg (neg x) (x.natAbs % y.natAbs) + y.natAbs := by
  have h1 := Nat.mod_lt x.natAbs (show 0 < y.natAbs by omega)
  have h2 := sg_abs (neg x) (x.natAbs % y.natAbs)
  have h3 := neg_true h
  have h4 := ed_signs x y
  have h5 := sign_mul y
  refine ed_unique hy ?_ (by omega) (by omega)
  rw [Int.mul_sub, h5]
  omega
theorem zl_ediv (x y : Int) : zl (x / y) ≤ zl x := nl_mono (Int.natAbs_ediv_le_natAbs x y)
end Go.Proofs.YtegglooojlheoaaDoor

/- Plain laws of Bezout's numbers. No program in sight. No condition. -/
namespace Go.Proofs.YtegglooojlheoaaDoor
open Go.RowKit Anv
def Ph (x y a b u v : Int) : Prop :=
  (a = x ∧ b = y ∧ u = 1 ∧ v = 0) ∨ (a = y ∧ b = x % y ∧ u = 0 ∧ v = 1) ∨
    ∃ m n : Nat, a = m ∧ b = n ∧ m ≤ y.natAbs ∧ n ≤ y.natAbs ∧ v.natAbs * m + u.natAbs * n ≤ 3 * y.natAbs
structure Bz (x y a b u v : Int) : Prop where
  gcd : Int.gcd a b = Int.gcd x y
  da : y ∣ a - u * x
  db : y ∣ b - v * x
  ub : u.natAbs ≤ 3 * y.natAbs
  vb : v.natAbs ≤ 3 * y.natAbs
  ph : Ph x y a b u v
end Go.Proofs.YtegglooojlheoaaDoor
