/- How many binary digits a number has: limb.Bits, Bits of both. No condition. -/
import Derived.Test.YtbdngknpngcojaaDoorM6
import Derived.Test.YtbdngknpngcojaaDoorM21

namespace Go.Proofs.YtbdngknpngcojaaDoor
open Go.RowKit Anv
def blen (n : Nat) : Nat := if n = 0 then 0 else n.log2 + 1
theorem blen_zero : blen 0 = 0 := by simp [blen]
theorem blen_pos {n : Nat} (h : n ≠ 0) : 0 < blen n := by unfold blen; rw [if_neg h]; omega
theorem lt_blen (n : Nat) : n < 2 ^ blen n := by
  unfold blen
  split
  · subst_vars; simp
  · exact Nat.lt_log2_self
theorem blen_le {n k : Nat} (h : n < 2 ^ k) : blen n ≤ k := by
  unfold blen
  split
  · omega
  · rename_i h0
    have := (Nat.log2_lt h0).2 h
    omega
theorem blen_shift (x b : Nat) (h : x / 2 ^ b ≠ 0) : blen x = b + blen (x / 2 ^ b) := by
  have hp : 0 < 2 ^ b := Nat.two_pow_pos b
  have hx : x ≠ 0 := by intro h0; subst h0; simp at h
  have h1 := Nat.log2_self_le h
  have h2 : x / 2 ^ b < 2 ^ ((x / 2 ^ b).log2 + 1) := Nat.lt_log2_self
  have e : x.log2 = (x / 2 ^ b).log2 + b := (Nat.log2_eq_iff hx).2
    ⟨by rw [Nat.pow_add]; exact (Nat.le_div_iff_mul_le hp).1 h1, by rw [show (x / 2 ^ b).log2 + b + 1 = ((x / 2 ^ b).log2 + 1) + b by omega, Nat.pow_add]; exact (Nat.div_lt_iff_lt_mul hp).1 h2⟩
  simp only [blen, hx, h, if_false, e]
  omega
theorem blen_half (x : Nat) (h : x ≠ 0) : blen x = 1 + blen (x / 2) := by
  rcases Nat.lt_or_ge x 2 with h1 | h1
  · have : x = 1 := by omega
    subst this
    decide
  · have := blen_shift x 1 (by rw [Nat.pow_one]; omega)
    rw [Nat.pow_one] at this
    exact this
theorem top_of {b : Nat} (hb : 0 < b) {xs : List Nat} (h : AllLt b xs) {n : Nat} (hn : xs.length = n + 1) : val b xs / b ^ n = xs.getD n 0 := by
  have h1 := val_take_succ b xs n (by omega)
  rw [List.take_of_length_le (by omega)] at h1
  have h2 := val_lt (b := b) (xs := xs.take n) (fun x hx => h x (List.mem_of_mem_take hx))
  rw [List.length_take, Nat.min_eq_left (by omega)] at h2
  rw [h1, Nat.add_mul_div_left _ _ (Nat.pow_pos hb), Nat.div_eq_of_lt h2]; omega
theorem top_ne {xs : List Nat} (h : Norm xs) {n : Nat} (hn : xs.length = n + 1) : xs.getD n 0 ≠ 0 := by
  intro h0
  apply h
  rw [List.getLast?_eq_getElem?, hn, Nat.add_sub_cancel]
  rw [List.getD_eq_getElem?_getD] at h0
  rw [List.getElem?_eq_getElem (by omega)] at h0 ⊢
  simpa using h0
theorem blen_top {b k : Nat} (hb : b = 2 ^ k) (h0 : 0 < b) {xs : List Nat} (h : AllLt b xs) (hx : Norm xs) {n : Nat} (hn : xs.length = n + 1) : blen (val b xs) = k * n + blen (xs.getD n 0) := by
  have h1 := top_of h0 h hn
  have h2 := top_ne hx hn
  rw [hb, ← Nat.pow_mul] at h1
  rw [blen_shift (val b xs) (k * n) (by rw [hb, h1]; exact h2), hb, h1]
theorem top_digits (N m : Nat) (h : dn N = m + 1) : blen N = 16 * m + blen ((D N).getD m 0) := by
  have := blen_top (b := 65536) (k := 16) (by decide) (by omega) (D_lt N) (dig_norm (by omega) N) h
  rw [val_D] at this
  exact this
theorem zero_of_dn {N : Nat} (h : dn N = 0) : N = 0 := by
  have h1 := val_D N
  rw [List.length_eq_zero_iff.1 h] at h1
  exact h1.symm
theorem bits_d {A : Option Addr} {c N : Nat} {w : World} (h : U32 w A (dn N) c (D N)) (hN : dn N ≤ 1000000) :
    Calls Tryd.prog 82 #[.slice A (dn N) c] w fun e w' => e = .returned (.int .i64 (blen N)) ∧ w = w' := by
  go_enter Tryd.func82, Tryd.ntmps82
  have ht := top_digits N
  have hz := zero_of_dn (N := N)
  generalize dn N = m at *
  rcases m with _ | m
  · have HZ := Lib.hid (hz rfl)
    clear ht hz h
    go_wp2
    go_ret
    rw [HZ.out, blen_zero]
    exact ⟨rfl, rfl⟩
  · obtain ⟨b, off, rfl, hbw, hcs⟩ := h.cells (by omega)
    have hcell := hcs m (by omega)
    have HT := Lib.hid (ht m rfl)
    have hx : (D N).getD m 0 < 65536 := (D_lt N).get (by omega) m
    clear ht hz hcs h
    generalize (D N).getD m 0 = x at *
    have hx1 : blen x ≤ 16 := blen_le hx
    go_wp2
    go_loop [3, 4] (fun n t => ∃ k y : Nat, n = .int .i64 k ∧ t = .int .u32 y ∧ k ≤ 16000016 ∧ y < 65536 ∧ blen y ≤ 16 ∧ Hid (k + blen y = 16 * m + blen x) ∧ k + blen y ≤ 16000016) (fun n t => (intOf t).toNat)
    case atStart => exact ⟨16 * m, x, by simp, rfl, by omega, hx, hx1, Lib.hid rfl, by omega⟩
    case round =>
      obtain ⟨k, y, rfl, rfl, hk, hy, hy1, HK, hk2⟩ := hrel
      by_cases h0 : y = 0
      · subst h0
        have e := HK.out
        rw [blen_zero, Nat.add_zero] at e
        have E := Lib.hid e
        clear e HK
        go_wp2
        go_ret
        rw [HT.out, ← E.out]
        exact ⟨rfl, rfl⟩
      · have HB := Lib.hid (blen_half y h0)
        have hp := blen_pos h0
        have hb2 : blen (y / 2) ≤ 16 := by have := HB.out; omega
        have hy0 : (0 : Int) < y := by omega
        go_wp2
        go_round
        case rel => exact ⟨k + 1, y / 2, by go_num, by go_num, by omega, by omega, hb2, Lib.hid (by have := HB.out; have := HK.out; omega), by have := HB.out; have := HK.out; omega⟩
        case measure => simp [intOf]; omega
end Go.Proofs.YtbdngknpngcojaaDoor

/- Powers: anvilref02.Pow. No condition. -/
namespace Go.Proofs.YtbdngknpngcojaaDoor
open Go.RowKit Anv
end Go.Proofs.YtbdngknpngcojaaDoor

/- Plain arithmetic of quotients and remainders of whole numbers. No program in sight. No condition. -/
namespace Go.Proofs.YtbdngknpngcojaaDoor
open Go.RowKit Anv
theorem zl_ediv (x y : Int) : zl (x / y) ≤ zl x := nl_mono (Int.natAbs_ediv_le_natAbs x y)
end Go.Proofs.YtbdngknpngcojaaDoor

/- Plain laws of Bezout's numbers. No program in sight. No condition. -/
namespace Go.Proofs.YtbdngknpngcojaaDoor
open Go.RowKit Anv
def Ph (x y a b u v : Int) : Prop :=
  (a = x ∧ b = y ∧ u = 1 ∧ v = 0) ∨ (a = y ∧ b = x % y ∧ u = 0 ∧ v = 1) ∨
    ∃ m n : Nat, a = m ∧ b = n ∧ m ≤ y.natAbs ∧ n ≤ y.natAbs ∧ v.natAbs * m + u.natAbs * n ≤ 3 * y.natAbs
structure Bz (x y a b u v : Int) : Prop where
  gcd : Int.gcd a b = Int.gcd x y
  da : y ∣ a - u * x
  db : y ∣ b - v * x
  ub : u.natAbs ≤ 3 * y.natAbs
  vb : v.natAbs ≤ 3 * y.natAbs
  ph : Ph x y a b u v
end Go.Proofs.YtbdngknpngcojaaDoor
