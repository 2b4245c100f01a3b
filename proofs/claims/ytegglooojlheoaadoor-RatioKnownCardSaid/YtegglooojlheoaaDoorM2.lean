/- A number's text, piece by piece: plain laws, no program. No condition. -/
import Derived.Test.YtegglooojlheoaaDoorM1
import Derived.Lib.TrimByte

namespace Go.Proofs.YtegglooojlheoaaDoor
open Anv
def dch (d : Nat) : UInt8 := UInt8.ofNat (48 + d)
def textN (N : Nat) : List UInt8 := if N = 0 then [48] else (dig 10 N).reverse.map dch
def padK (j X : Nat) : List UInt8 := (List.range j).map fun i => dch (X / 10 ^ (j - 1 - i) % 10)
theorem textN_zero : textN 0 = [48] := rfl
theorem textN_ten {q d : Nat} (hq : 0 < q) (hd : d < 10) : textN (q * 10 + d) = textN q ++ [dch d] := by
  unfold textN
  rw [if_neg (by omega), if_neg (by omega), dig_pos (by omega) (show 0 < q * 10 + d by omega), show (q * 10 + d) % 10 = d by omega, show (q * 10 + d) / 10 = q by omega]
  simp
theorem textN_one {d : Nat} (h0 : 0 < d) (hd : d < 10) : textN d = [dch d] := by
  unfold textN
  rw [if_neg (by omega), dig_pos (by omega) h0, show d / 10 = 0 by omega, dig_zero, show d % 10 = d by omega]
  rfl
theorem padK_succ (j X : Nat) : padK (j + 1) X = padK j (X / 10) ++ [dch (X % 10)] := by
  unfold padK
  rw [List.range_succ, List.map_append]
  congr 1
  · apply List.map_congr_left
    intro i hi
    have hi' : i < j := by simpa using hi
    rw [show j + 1 - 1 - i = (j - 1 - i) + 1 by omega, Nat.pow_succ, Nat.mul_comm, ← Nat.div_div_eq_div_mul]
  · simp
theorem textN_pad : ∀ (j q r : Nat), 0 < q → r < 10 ^ j → textN (q * 10 ^ j + r) = textN q ++ padK j r
  | 0, q, r, _, hr => by
    have : r = 0 := by simpa using hr
    subst this
    simp [padK]
  | j + 1, q, r, hq, hr => by
    rw [Nat.pow_succ] at hr
    have h1 : r / 10 < 10 ^ j := by rw [Nat.div_lt_iff_lt_mul (by omega)]; exact hr
    have h2 := textN_pad j q (r / 10) hq h1
    have h3 : 0 < q * 10 ^ j + r / 10 := Nat.lt_of_lt_of_le (Nat.mul_pos hq (Nat.pow_pos (by omega))) (Nat.le_add_right _ _)
    rw [padK_succ, ← List.append_assoc, ← h2, ← textN_ten h3 (Nat.mod_lt _ (by omega))]
    congr 1
    rw [Nat.pow_succ, Nat.add_mul, Nat.mul_assoc]
    omega
theorem dch_48 {d : Nat} (h : d < 10) : (dch d == 48) = decide (d = 0) := by
  have : ∀ d : Fin 10, (dch d.1 == 48) = decide (d.1 = 0) := by decide
  exact this ⟨d, h⟩
theorem trim_pad : ∀ (j r : Nat), r < 10 ^ j → Go.Lib.trimLeftB (padK j r) 48 = if r = 0 then [] else textN r
  | 0, r, hr => by
    have : r = 0 := by simpa using hr
    subst this
    rfl
  | j + 1, r, hr => by
    rw [Nat.pow_succ] at hr
    have h1 : r / 10 < 10 ^ j := by rw [Nat.div_lt_iff_lt_mul (by omega)]; exact hr
    have h2 := trim_pad j (r / 10) h1
    have hm : r % 10 < 10 := Nat.mod_lt _ (by omega)
    unfold Go.Lib.trimLeftB at h2 ⊢
    rw [padK_succ, List.dropWhile_append, h2]
    by_cases h3 : r / 10 = 0
    · rw [if_pos h3, if_pos (show ([] : List UInt8).isEmpty = true from rfl), List.dropWhile_cons, dch_48 hm]
      have h4 : r % 10 = r := by omega
      rw [h4]
      by_cases h5 : r = 0
      · simp [h5]
      · rw [if_neg h5, textN_one (by omega) (by omega)]
        simp [h5]
    · rw [if_neg h3]
      have h5 : r ≠ 0 := by intro e; subst e; exact h3 rfl
      rw [if_neg h5]
      have h6 := textN_ten (q := r / 10) (d := r % 10) (by omega) hm
      rw [show r / 10 * 10 + r % 10 = r by omega] at h6
      rw [h6]
      have h7 : (textN (r / 10)).isEmpty = false := by
        unfold textN
        rw [if_neg h3, dig_pos (by omega) (by omega)]
        simp
      simp [h7]
theorem padK_length (j X : Nat) : (padK j X).length = j := by simp [padK]
theorem text_step {N k : Nat} (h : 0 < N / 1000000000 ^ (k + 1)) : textN (N / 1000000000 ^ k) = textN (N / 1000000000 ^ (k + 1)) ++ padK 9 (N / 1000000000 ^ k % 1000000000) := by
  have h1 := textN_pad 9 (N / 1000000000 ^ (k + 1)) (N / 1000000000 ^ k % 1000000000) h (Nat.mod_lt _ (by decide))
  rw [← h1]
  congr 1
  rw [Nat.pow_succ, ← Nat.div_div_eq_div_mul]
  have := Nat.div_add_mod (N / 1000000000 ^ k) 1000000000
  omega
theorem text_top {N k : Nat} (h : N / 1000000000 ^ (k + 1) = 0) (h0 : 0 < N / 1000000000 ^ k) : textN (N / 1000000000 ^ k) = Go.Lib.trimLeftB (padK 9 (N / 1000000000 ^ k % 1000000000)) 48 := by
  rw [Nat.pow_succ, ← Nat.div_div_eq_div_mul] at h
  have h1 : N / 1000000000 ^ k < 1000000000 := by omega
  rw [Nat.mod_eq_of_lt h1, trim_pad 9 _ h1, if_neg (by omega)]
end Go.Proofs.YtegglooojlheoaaDoor
