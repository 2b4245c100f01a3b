/- The zero value of a number. No condition. -/
import Derived.Test.YtbdngknpngcojaaDoorM13
import Derived.Test.YtbdngknpngcojaaDoorM6
import Derived.Test.YtbdngknpngcojaaDoorM12

namespace Go.Proofs.YtbdngknpngcojaaDoor
open Go.RowKit Anv
section
variable {P : Program} {N : Nat} {a : Act} {l : List (Nat × Value)} {w : World} {d : Nat} {ty : TypeId} {pos : String} {af : Array Edge} {gd : Option (Nat × Bool)}
end
end Go.Proofs.YtbdngknpngcojaaDoor

/- What the laws of layer 2 need: contracts in the walk's form. No condition. -/
namespace Go.Proofs.YtbdngknpngcojaaDoor
open Go.RowKit Anv
def pfR (A : Option Addr) (c : Nat) (z : Int) : PF := pfU A (dl z) c (D z.natAbs)
theorem St.addR {w0 w : World} {own : List Bk} {ps : List PF} {A : Option Addr} {c : Nat} {z : Int} (h : St w0 w own ps) (hu : RIn w A c z) (hn : noU own = true) : St w0 w own (pfR A c z :: ps) := St.addU h hu hn
theorem dl_zl (z : Int) : dl z ≤ 2 * zl z := dn_le_of_lt (by rw [Nat.pow_mul]; exact lt_nl z.natAbs)
end Go.Proofs.YtbdngknpngcojaaDoor

/- Fractions in lowest terms: core's Rat, as two whole numbers. Plain arithmetic. No condition. -/
namespace Go.Proofs.YtbdngknpngcojaaDoor
open Go.RowKit Anv
def qn (r : Rat) : Int := r.num
def qd (r : Rat) : Int := (r.den : Int)
def ql (r : Rat) : Int := (r.den : Int) - 1
theorem qd_pos (r : Rat) : 0 < qd r := by have := r.den_pos; unfold qd; omega
theorem qd_ne (r : Rat) : qd r ≠ 0 := by have := qd_pos r; omega
theorem q_self (r : Rat) : Rat.divInt (qn r) (qd r) = r := Rat.num_divInt_den r
theorem q_add (x y : Rat) : Rat.divInt (qn x * qd y + qn y * qd x) (qd x * qd y) = x + y := by
  rw [← Rat.divInt_add_divInt _ _ (qd_ne x) (qd_ne y), q_self, q_self]
theorem q_mul (x y : Rat) : Rat.divInt (qn x * qn y) (qd x * qd y) = x * y := by
  rw [← Rat.divInt_mul_divInt, q_self, q_self]
theorem q_over (x y : Rat) : Rat.divInt (qn x * qd y) (qd x * qn y) = x / y := by
  rw [← Rat.divInt_mul_divInt, q_self, Rat.div_def, Rat.inv_def]; rfl
theorem qn_eq0 {y : Rat} : qn y = 0 ↔ y = 0 := by unfold qn; exact Rat.num_eq_zero
theorem qn_ne0 {y : Rat} (h : y ≠ 0) : qn y ≠ 0 := fun e => h (qn_eq0.1 e)
theorem qdn_ne {x y : Rat} (h : y ≠ 0) : qd x * qn y ≠ 0 := by
  intro e
  rcases Int.mul_eq_zero.1 e with h1 | h1
  · exact qd_ne x h1
  · exact qn_ne0 h h1
def cmpQ (x y : Rat) : Int := (qn x * qd y - qn y * qd x).sign
def Qs (k : Nat) (r : Rat) : Prop := r.num.natAbs < 4294967296 ^ k ∧ r.den < 4294967296 ^ k
theorem pow32_mono {a b : Nat} (h : a ≤ b) : 4294967296 ^ a ≤ 4294967296 ^ b := Nat.pow_le_pow_right (by decide) h
theorem Qs.mono {a b : Nat} {r : Rat} (h : Qs a r) (hab : a ≤ b) : Qs b r := ⟨Nat.lt_of_lt_of_le h.1 (pow32_mono hab), Nat.lt_of_lt_of_le h.2 (pow32_mono hab)⟩
theorem Qs.n {k : Nat} {r : Rat} (h : Qs k r) : zl (qn r) ≤ k := nl_le_of_lt h.1
theorem Qs.d {k : Nat} {r : Rat} (h : Qs k r) : zl (qd r) ≤ k := nl_le_of_lt (by unfold qd; rw [Int.natAbs_natCast]; exact h.2)
theorem Qs.l {k : Nat} {r : Rat} (h : Qs k r) : zl (ql r) ≤ k := nl_le_of_lt (by
  have := r.den_pos
  have h2 := h.2
  unfold ql
  omega)
theorem Qs.neg {k : Nat} {r : Rat} (h : Qs k r) : Qs k (-r) := ⟨by rw [Rat.neg_num, Int.natAbs_neg]; exact h.1, h.2⟩
theorem qs_div {k : Nat} {n d : Int} (hn : n.natAbs < 4294967296 ^ k) (hd : d.natAbs < 4294967296 ^ k) (h0 : d ≠ 0) : Qs k (Rat.divInt n d) := by
  constructor
  · rw [Rat.num_divInt]
    refine Nat.lt_of_le_of_lt (Int.natAbs_ediv_le_natAbs _ _) ?_
    rw [Int.natAbs_mul, Int.natAbs_sign_of_ne_zero h0, Nat.one_mul]
    exact hn
  · rw [Rat.den_divInt, if_neg h0]
    exact Nat.lt_of_le_of_lt (Nat.div_le_self _ _) hd
theorem Qs.qn_lt {k : Nat} {r : Rat} (h : Qs k r) : (qn r).natAbs < 4294967296 ^ k := h.1
theorem Qs.qd_lt {k : Nat} {r : Rat} (h : Qs k r) : (qd r).natAbs < 4294967296 ^ k := by unfold qd; rw [Int.natAbs_natCast]; exact h.2
theorem mul_lt32 {a b : Nat} {x y : Int} (h : x.natAbs < 4294967296 ^ a) (g : y.natAbs < 4294967296 ^ b) : (x * y).natAbs < 4294967296 ^ (a + b) := by
  rw [Int.natAbs_mul, Nat.pow_add]
  exact Nat.mul_lt_mul'' h g
theorem add_lt32 {a b : Nat} {x y : Int} (h : x.natAbs < 4294967296 ^ a) (g : y.natAbs < 4294967296 ^ b) : (x + y).natAbs < 4294967296 ^ (max a b + 1) := by
  have h1 := pow32_mono (Nat.le_max_left a b)
  have h2 := pow32_mono (Nat.le_max_right a b)
  have h3 := Int.natAbs_add_le x y
  rw [Nat.pow_succ]
  omega
theorem Qs.mul {a b : Nat} {x y : Rat} (hx : Qs a x) (hy : Qs b y) : Qs (a + b) (x * y) := by
  rw [← q_mul]
  exact qs_div (mul_lt32 hx.qn_lt hy.qn_lt) (mul_lt32 hx.qd_lt hy.qd_lt) (Int.mul_ne_zero (qd_ne x) (qd_ne y))
theorem Qs.add {a b : Nat} {x y : Rat} (hx : Qs a x) (hy : Qs b y) : Qs (a + b + 1) (x + y) := by
  rw [← q_add]
  refine qs_div ?_ ?_ (Int.mul_ne_zero (qd_ne x) (qd_ne y))
  · have h := add_lt32 (mul_lt32 hx.qn_lt hy.qd_lt) (mul_lt32 hy.qn_lt hx.qd_lt)
    rw [Nat.add_comm b a, Nat.max_self] at h
    exact h
  · exact Nat.lt_of_lt_of_le (mul_lt32 hx.qd_lt hy.qd_lt) (pow32_mono (by omega))
theorem Qs.sub {a b : Nat} {x y : Rat} (hx : Qs a x) (hy : Qs b y) : Qs (a + b + 1) (x - y) := by
  rw [Rat.sub_eq_add_neg]; exact hx.add hy.neg
theorem Qs.over {a b : Nat} {x y : Rat} (hx : Qs a x) (hy : Qs b y) (h : y ≠ 0) : Qs (a + b) (x / y) := by
  rw [← q_over]
  exact qs_div (mul_lt32 hx.qn_lt hy.qd_lt) (mul_lt32 hx.qd_lt hy.qn_lt) (qdn_ne h)
theorem Qs.int {k : Nat} {z : Int} (h : z.natAbs < 4294967296 ^ k) : Qs (k + 1) (z : Rat) := by
  have h1 := pow32_mono (show k ≤ k + 1 by omega)
  have h2 := Nat.one_lt_pow (n := k + 1) (a := 4294967296) (by omega) (by decide)
  exact ⟨Nat.lt_of_lt_of_le h h1, h2⟩
def QAt (w : World) (v : Value) (r : Rat) : Prop := ∃ A c B d, v = .agg #[.bool (neg (qn r)), .slice A (zl (qn r)) c, .bool (neg (ql r)), .slice B (zl (ql r)) d] ∧ ZIn w A c (qn r) ∧ ZIn w B d (ql r)
def YAt (w : World) (v : Value) (r : Rat) : Prop := ∃ A c B d, v = .agg #[.bool (neg (qn r)), .slice A (dl (qn r)) c, .bool (neg (qd r)), .slice B (dl (qd r)) d] ∧ RIn w A c (qn r) ∧ RIn w B d (qd r)
end Go.Proofs.YtbdngknpngcojaaDoor
