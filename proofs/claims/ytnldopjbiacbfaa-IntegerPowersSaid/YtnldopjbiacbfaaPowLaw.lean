/- Plain laws on powers: how long they are; powers of 0, 1, -1. No program. -/
import Derived.Test.YtnldopjbiacbfaaBits
namespace Go.Proofs.Ytnldopjbiacbfaa
open Go.RowKit Anv

theorem abs_pow_le {x : Int} {b : Nat} (h : blen x.natAbs = b) (j : Nat) : (x ^ j).natAbs ≤ 2 ^ (b * j) := by
  rw [Int.natAbs_pow, Nat.pow_mul, ← h]
  exact Nat.pow_le_pow_left (Nat.le_of_lt (lt_blen _)) j

theorem lt_limbs {N e k : Nat} (h : N ≤ 2 ^ e) (he : e < 32 * k) : N < 4294967296 ^ k := by
  have h2 : (4294967296 : Nat) ^ k = 2 ^ (32 * k) := by rw [Nat.pow_mul]
  rw [h2]
  exact Nat.lt_of_le_of_lt h (Nat.pow_lt_pow_right (by omega) he)

theorem zl_pow_k {x : Int} {b n j k : Nat} (hk : 65536 < 32 * k) (h : blen x.natAbs = b) (hn : n * b ≤ 65536) (hj : j ≤ n) : zl (x ^ j) ≤ k := by
  have h1 : b * j ≤ 65536 := Nat.le_trans (Nat.mul_le_mul_left b hj) (by rw [Nat.mul_comm]; exact hn)
  exact nl_le_of_lt (lt_limbs (abs_pow_le h j) (by omega))

theorem zl_pow_big {x : Int} {b n j : Nat} (h : blen x.natAbs = b) (hn : n * b ≤ 65536) (hj : j ≤ n) : zl (x ^ j) ≤ 2049 := zl_pow_k (by omega) h hn hj

theorem zl_pow (x : Int) : ∀ n : Nat, zl (x ^ n) ≤ n * zl x + 1
  | 0 => by rw [Int.pow_zero]; exact Nat.le_trans (nl_le_of_lt (k := 1) (by decide)) (by omega)
  | n + 1 => by
    rw [Int.pow_succ]
    have := zl_mul (x ^ n) x
    have := zl_pow x n
    rw [Nat.add_mul]; omega
theorem dl_pow (x : Int) : ∀ n : Nat, dl (x ^ n) ≤ n * dl x + 1
  | 0 => by
    rw [Int.pow_zero]
    unfold dl dn D
    rw [show (1 : Int).natAbs = 1 from rfl, dig_pos (by omega) (by omega)]
    rw [show (1 : Nat) / 65536 = 0 from by omega, dig_zero]
    simp
  | n + 1 => by
    rw [Int.pow_succ]
    have := dl_mul (x ^ n) x
    have := dl_pow x n
    rw [Nat.add_mul]; omega

theorem tiny {x : Int} (h : blen x.natAbs ≤ 1) : x = 0 ∨ x = 1 ∨ x = -1 := by
  have h1 := lt_blen x.natAbs
  have h2 : 2 ^ blen x.natAbs ≤ 2 ^ 1 := Nat.pow_le_pow_right (by omega) h
  omega
theorem zero_pow {n : Nat} (h : n ≠ 0) : (0 : Int) ^ n = 0 := by
  obtain ⟨m, rfl⟩ : ∃ m, n = m + 1 := ⟨n - 1, by omega⟩
  rw [Int.pow_succ, Int.mul_zero]
theorem one_pow : ∀ n : Nat, (1 : Int) ^ n = 1
  | 0 => Int.pow_zero _
  | n + 1 => by rw [Int.pow_succ, one_pow n]; rfl
theorem mone_pow : ∀ n : Nat, (-1 : Int) ^ n = if n % 2 = 0 then 1 else -1
  | 0 => rfl
  | n + 1 => by
    rw [Int.pow_succ, mone_pow n]
    by_cases h : n % 2 = 0
    · rw [if_pos h, if_neg (by omega)]; rfl
    · rw [if_neg h, if_pos (by omega)]; rfl
theorem tiny_pow {x : Int} (h : blen x.natAbs ≤ 1) {n : Nat} (hn : 2 < n) : x ^ (2 + n % 2) = x ^ n := by
  rcases tiny h with rfl | rfl | rfl
  · rw [zero_pow (by omega), zero_pow (by omega)]
  · rw [one_pow, one_pow]
  · rw [mone_pow, mone_pow, show (2 + n % 2) % 2 = n % 2 by omega]

end Go.Proofs.Ytnldopjbiacbfaa
