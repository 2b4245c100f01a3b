/- The reference of layer 1: plain laws on differences, doubling, bits, shifts. No condition. -/
import Derived.Test.YtnldopjbiacbfaaDoorM28
import Derived.Test.YtnldopjbiacbfaaDoorM29
import Derived.Test.YtnldopjbiacbfaaDoorM1

namespace Go.Proofs.YtnldopjbiacbfaaDoor.W
open Go.RowKit Anv

theorem sub_inv {os xs ys : List Nat} {i u T u' : Nat} (hl : os.length = i) (hv : val 4294967296 os + val 4294967296 (ys.take i) = val 4294967296 (xs.take i) + 4294967296 ^ i * u) (hT : T + (ys.getD i 0 + u) = xs.getD i 0 + 4294967296 * u') :
    val 4294967296 (os ++ [T]) + val 4294967296 (ys.take (i + 1)) = val 4294967296 (xs.take (i + 1)) + 4294967296 ^ (i + 1) * u' := by
  rw [val_append, val_take_step, val_take_step, hl, Nat.pow_succ, show val 4294967296 [T] = T by simp [val]]
  have h := congrArg (4294967296 ^ i * ·) hT
  simp only [Nat.mul_add] at h
  rw [← Nat.mul_assoc] at h
  omega
theorem lt_snoc' {os : List Nat} {t : Nat} (h : AllLt 4294967296 os) (ht : t < 4294967296) : AllLt 4294967296 (os ++ [t]) := by
  intro x hx
  rcases List.mem_append.1 hx with hx | hx
  · exact h x hx
  · have : x = t := by simpa using hx
    omega
theorem norm_of_val {zs : List Nat} (h : AllLt 4294967296 zs) (hv : zs = [] ∨ 4294967296 ^ (zs.length - 1) ≤ val 4294967296 zs) : Anv.Norm zs := by
  intro hl
  rcases hv with rfl | hv
  · simp at hl
  · have hne : zs ≠ [] := by intro e; subst e; simp at hl
    have e1 := List.dropLast_concat_getLast hne
    rw [List.getLast?_eq_some_getLast hne] at hl
    have e0 : zs.getLast hne = 0 := Option.some.inj hl
    rw [e0] at e1
    have h2 : AllLt 4294967296 zs.dropLast := fun x hx => h x ((List.dropLast_sublist zs).subset hx)
    have h3 := val_lt h2
    rw [← e1, val_append, show val 4294967296 [0] = 0 from rfl, Nat.mul_zero, Nat.add_zero] at hv
    simp only [List.length_append, List.length_cons, List.length_nil, Nat.zero_add, Nat.add_sub_cancel] at hv
    omega
theorem L_of_val {zs : List Nat} {N : Nat} (h : AllLt 4294967296 zs) (hN : val 4294967296 zs = N) (hv : zs = [] ∨ 4294967296 ^ (zs.length - 1) ≤ N) : zs = L N := by
  subst hN
  exact (L_of h (norm_of_val h hv)).symm
theorem L_low {N : Nat} (h : 0 < nl N) : 4294967296 ^ (nl N - 1) ≤ N := by
  rcases Nat.eq_zero_or_pos N with rfl | h0
  · rw [nl_zero] at h; omega
  · exact pow_le_dig (by decide) N h0
/-- Twice a number, one limb. -/
theorem dbl_inv {os xs : List Nat} {i o b : Nat} (hl : os.length = i) (hv : val 4294967296 os + o * 4294967296 ^ i = 2 * val 4294967296 (xs.take i) + b) (ho : o ≤ 1) :
    val 4294967296 (os ++ [(xs.getD i 0 * 2 + o) % 4294967296]) + xs.getD i 0 / 2147483648 * 4294967296 ^ (i + 1) = 2 * val 4294967296 (xs.take (i + 1)) + b := by
  have e : xs.getD i 0 / 2147483648 = (xs.getD i 0 * 2 + o) / 4294967296 := by omega
  rw [e, row_step hl, val_take_step, Nat.add_mul, Nat.mul_add, Nat.mul_comm (xs.getD i 0 * 2), ← Nat.mul_assoc, Nat.mul_comm (4294967296 ^ i) (xs.getD i 0), Nat.mul_comm _ 2, ← Nat.mul_assoc, Nat.mul_assoc 2, Nat.mul_comm (xs.getD i 0)] 
  omega
theorem dbl_end0 {os : List Nat} {N b : Nat} (hl : os.length = nl N) (ho : AllLt 4294967296 os) (hv : val 4294967296 os = 2 * N + b) : os = L (2 * N + b) := by
  refine L_of_val ho hv ?_
  rcases Nat.eq_zero_or_pos (nl N) with h | h
  · exact .inl (List.length_eq_zero_iff.1 (by omega))
  · have := L_low h
    exact .inr (by rw [hl]; omega)
theorem dbl_end1 {os : List Nat} {N b : Nat} (hl : os.length = nl N) (ho : AllLt 4294967296 os) (hv : val 4294967296 os + 1 * 4294967296 ^ nl N = 2 * N + b) : os ++ [1] = L (2 * N + b) := by
  refine L_of_val (lt_snoc' ho (by decide)) ?_ (.inr ?_)
  · rw [val_append, hl, show val 4294967296 [1] = 1 from rfl]; omega
  · simp only [List.length_append, List.length_cons, List.length_nil, Nat.zero_add, Nat.add_sub_cancel, hl]; omega

/-! ### Bits -/
theorem pow32 (k : Nat) : 4294967296 ^ (k / 32) * 2 ^ (k % 32) = 2 ^ k := by
  rw [show 4294967296 = 2 ^ 32 from rfl, ← Nat.pow_mul, ← Nat.pow_add]
  congr 1
  omega
theorem bit32 {xs : List Nat} (h : AllLt 4294967296 xs) (k : Nat) : xs.getD (k / 32) 0 / 2 ^ (k % 32) % 2 = val 4294967296 xs / 2 ^ k % 2 := by
  rw [get_val (by decide) h, ← pow32 k, ← Nat.div_div_eq_div_mul]
  generalize val 4294967296 xs / 4294967296 ^ (k / 32) = m
  have hr : k % 32 < 32 := Nat.mod_lt _ (by decide)
  generalize k % 32 = r at *
  have h1 : (4294967296 : Nat) = 2 ^ r * (2 * 2 ^ (31 - r)) := by
    rw [show 4294967296 = 2 ^ 32 from rfl, ← Nat.pow_succ', ← Nat.pow_add]
    congr 1
    omega
  rw [h1, Nat.mod_mul_right_div_self, Nat.mod_mul_right_mod]
theorem bit_past {xs : List Nat} (h : AllLt 4294967296 xs) {k : Nat} (hk : xs.length ≤ k / 32) : val 4294967296 xs / 2 ^ k % 2 = 0 := by
  rw [← bit32 h, getD_ge rfl hk, Nat.zero_div]
theorem half_step (N K : Nat) : N / 2 ^ K = 2 * (N / 2 ^ (K + 1)) + N / 2 ^ K % 2 := by
  rw [Nat.pow_succ, ← Nat.div_div_eq_div_mul]
  omega
theorem shr_blen (N : Nat) : N / 2 ^ blen N = 0 := Nat.div_eq_of_lt (lt_blen N)
theorem shr_zero_of {N n : Nat} (h : blen N ≤ n) : N / 2 ^ n = 0 := Nat.div_eq_of_lt (Nat.lt_of_lt_of_le (lt_blen N) (Nat.pow_le_pow_right (by decide) h))
theorem val_drop_div {xs : List Nat} (h : AllLt 4294967296 xs) (j : Nat) : val 4294967296 (xs.drop j) = val 4294967296 xs / 4294967296 ^ j := by
  rcases Nat.lt_or_ge j xs.length with hj | hj
  · have h1 := val_split xs j
    have h2 := val_lt (h.take j)
    rw [List.length_take, Nat.min_eq_left (by omega)] at h2
    rw [h1, Nat.add_mul_div_left _ _ (Nat.pow_pos (by decide)), Nat.div_eq_of_lt h2, Nat.zero_add]
  · rw [List.drop_eq_nil_of_le hj]
    have h2 := val_lt h
    exact (Nat.div_eq_of_lt (Nat.lt_of_lt_of_le h2 (Nat.pow_le_pow_right (by decide) hj))).symm
theorem shr_val {xs : List Nat} (h : AllLt 4294967296 xs) (n : Nat) : val 4294967296 (xs.drop (n / 32)) / 2 ^ (n % 32) = val 4294967296 xs / 2 ^ n := by
  rw [val_drop_div h, Nat.div_div_eq_div_mul, pow32]
theorem shl_val (xs : List Nat) (n : Nat) : val 4294967296 (List.replicate (n / 32) 0 ++ xs) * 2 ^ (n % 32) = val 4294967296 xs * 2 ^ n := by
  rw [val_append, val_zeros, Nat.zero_add, List.length_replicate, Nat.mul_right_comm, pow32, Nat.mul_comm]
theorem blen_pos_of {N : Nat} (h : 0 < blen N) : N ≠ 0 := by
  intro e; subst e; rw [blen_zero] at h; omega
theorem blen_zero_of {N : Nat} (h : ¬ 0 < blen N) : N = 0 := Classical.byContradiction fun e => h (blen_pos e)
theorem blen_nl (N : Nat) : blen N ≤ 32 * nl N := by
  apply blen_le
  have := lt_pow_dig (b := 4294967296) (by decide) N
  rwa [show (4294967296 : Nat) = 2 ^ 32 from rfl, ← Nat.pow_mul] at this
theorem tz_blen {N k : Nat} (h : IsTz N k) : k < blen N := by
  rcases Nat.lt_or_ge k (blen N) with h1 | h1
  · exact h1
  · have := h.1
    rw [shr_zero_of h1] at this
    omega
end Go.Proofs.YtnldopjbiacbfaaDoor.W
