/- How many limbs and digits sums and products have. No condition. -/
import Derived.Test.YtnldopjbiacbfaaLaw2
namespace Go.Proofs.Ytnldopjbiacbfaa
open Go.RowKit Anv

theorem lt_nl (N : Nat) : N < 4294967296 ^ nl N := lt_pow_dig (by omega) N
theorem lt_dn (N : Nat) : N < 65536 ^ dn N := lt_pow_dig (by omega) N
theorem nl_mono {N M : Nat} (h : N ≤ M) : nl N ≤ nl M := dig_len_le (by omega) h
theorem dn_mono {N M : Nat} (h : N ≤ M) : dn N ≤ dn M := dig_len_le (by omega) h
theorem pow_pos' (b n : Nat) (hb : 0 < b) : 1 ≤ b ^ n := Nat.pow_pos hb
theorem len_add {b : Nat} (hb : 2 ≤ b) (N M i j : Nat) (h : N < b ^ i) (k : M < b ^ j) : N + M < b ^ (i + j + 1) := by
  have h1 : b ^ i ≤ b ^ (i + j) := Nat.pow_le_pow_right (by omega) (by omega)
  have h2 : b ^ j ≤ b ^ (i + j) := Nat.pow_le_pow_right (by omega) (by omega)
  have h3 := Nat.mul_le_mul_left (b ^ (i + j)) hb
  rw [Nat.pow_succ]; omega
theorem len_mul {b : Nat} (_hb : 2 ≤ b) (N M i j : Nat) (h : N < b ^ i) (k : M < b ^ j) : N * M < b ^ (i + j) := by
  rw [Nat.pow_add]
  exact Nat.mul_lt_mul'' h k
theorem nl_add (N M : Nat) : nl (N + M) ≤ nl N + nl M + 1 := nl_le_of_lt (len_add (by omega) _ _ _ _ (lt_nl N) (lt_nl M))
theorem nl_mul (N M : Nat) : nl (N * M) ≤ nl N + nl M := nl_le_of_lt (len_mul (by omega) _ _ _ _ (lt_nl N) (lt_nl M))
theorem dn_add (N M : Nat) : dn (N + M) ≤ dn N + dn M + 1 := dn_le_of_lt (len_add (by omega) _ _ _ _ (lt_dn N) (lt_dn M))
theorem dn_mul (N M : Nat) : dn (N * M) ≤ dn N + dn M := dn_le_of_lt (len_mul (by omega) _ _ _ _ (lt_dn N) (lt_dn M))
theorem zl_add (x y : Int) : zl (x + y) ≤ zl x + zl y + 1 := Nat.le_trans (nl_mono (Int.natAbs_add_le x y)) (nl_add _ _)
theorem zl_sub (x y : Int) : zl (x - y) ≤ zl x + zl y + 1 := by
  rw [Int.sub_eq_add_neg, ← zl_neg y]; exact zl_add x (-y)
theorem zl_mul (x y : Int) : zl (x * y) ≤ zl x + zl y := by unfold zl; rw [Int.natAbs_mul]; exact nl_mul _ _
theorem zl_abs (x : Int) : zl (x.natAbs : Int) = zl x := by unfold zl; rw [Int.natAbs_natCast]
theorem dl_add (x y : Int) : dl (x + y) ≤ dl x + dl y + 1 := Nat.le_trans (dn_mono (Int.natAbs_add_le x y)) (dn_add _ _)
theorem dl_sub (x y : Int) : dl (x - y) ≤ dl x + dl y + 1 := by
  rw [Int.sub_eq_add_neg, ← dl_neg y]; exact dl_add x (-y)
theorem dl_mul (x y : Int) : dl (x * y) ≤ dl x + dl y := by unfold dl; rw [Int.natAbs_mul]; exact dn_mul _ _
theorem dl_abs (x : Int) : dl (x.natAbs : Int) = dl x := by unfold dl; rw [Int.natAbs_natCast]
theorem dl_small {n : Int} (h1 : -9223372036854775808 ≤ n) (h2 : n ≤ 9223372036854775807) : dl n ≤ 4 := dn_le_of_lt (by omega)

section
variable {x y c : Int}
theorem lz_neg (lx : zl x ≤ 60) : zl (-x) ≤ 1000000 := by rw [zl_neg]; omega
theorem lr_neg (lx : dl x ≤ 120) : dl (-x) ≤ 1000000 := by rw [dl_neg]; omega
theorem lz_abs (lx : zl x ≤ 60) : zl (x.natAbs : Int) ≤ 1000000 := by rw [zl_abs]; omega
theorem lr_abs (lx : dl x ≤ 120) : dl (x.natAbs : Int) ≤ 1000000 := by rw [dl_abs]; omega
theorem lz_add (lx : zl x ≤ 60) (ly : zl y ≤ 60) : zl (x + y) ≤ 1000000 := by have := zl_add x y; omega
theorem lr_add (lx : dl x ≤ 120) (ly : dl y ≤ 120) : dl (x + y) ≤ 1000000 := by have := dl_add x y; omega
theorem lz_sub (lx : zl x ≤ 60) (ly : zl y ≤ 60) : zl (x - y) ≤ 1000000 := by have := zl_sub x y; omega
theorem lr_sub (lx : dl x ≤ 120) (ly : dl y ≤ 120) : dl (x - y) ≤ 1000000 := by have := dl_sub x y; omega
theorem lz_mul (lx : zl x ≤ 60) (ly : zl y ≤ 60) : zl (x * y) ≤ 1000000 := by have := zl_mul x y; omega
theorem lr_mul (lx : dl x ≤ 120) (ly : dl y ≤ 120) : dl (x * y) ≤ 1000000 := by have := dl_mul x y; omega
theorem lz_times (lx : zl x ≤ 60) (h1 : -9223372036854775808 ≤ c) (h2 : c ≤ 9223372036854775807) : zl (x * c) ≤ 1000000 := by have := zl_mul x c; have := zl_small h1 h2; omega
theorem lr_times (lx : dl x ≤ 120) (h1 : -9223372036854775808 ≤ c) (h2 : c ≤ 9223372036854775807) : dl (x * c) ≤ 1000000 := by have := dl_mul x c; have := dl_small h1 h2; omega
end

theorem long1 {b0 : Bool} {A0 : Option Addr} {n0 c0 : Nat} {w : World} (h0 : n0 ≤ maxLen) (b : Bool) (hb : b = decide (60 < n0)) :
    Calls Try.prog 9 #[.slice (some ⟨w.heap.size, 0, none⟩) 1 1] (w.alloc (.cells #[.bool b0, .slice A0 n0 c0] 24)) fun e w' => e = .returned (.bool b) ∧ Below w.heap.size w w' := by
  refine (long_any (k := 1) [(b0, A0, n0, c0)] (heap_alloc_new w _) rfl (by omega) (by
    intro x hx
    simp only [List.mem_cons, List.not_mem_nil, or_false] at hx
    rcases hx with rfl
    · exact h0)).mono ?_
  rintro e w' ⟨rfl, rfl⟩
  refine ⟨?_, below1 _ _⟩
  subst hb
  simp

theorem long2 {b0 : Bool} {A0 : Option Addr} {n0 c0 : Nat} {b1 : Bool} {A1 : Option Addr} {n1 c1 : Nat} {w : World} (h0 : n0 ≤ maxLen) (h1 : n1 ≤ maxLen) (b : Bool) (hb : b = decide (60 < n0 ∨ 60 < n1)) :
    Calls Try.prog 9 #[.slice (some ⟨w.heap.size, 0, none⟩) 2 2] (w.alloc (.cells #[.bool b0, .slice A0 n0 c0, .bool b1, .slice A1 n1 c1] 24)) fun e w' => e = .returned (.bool b) ∧ Below w.heap.size w w' := by
  refine (long_any (k := 2) [(b0, A0, n0, c0), (b1, A1, n1, c1)] (heap_alloc_new w _) rfl (by omega) (by
    intro x hx
    simp only [List.mem_cons, List.not_mem_nil, or_false] at hx
    rcases hx with rfl | rfl
    · exact h0
    · exact h1)).mono ?_
  rintro e w' ⟨rfl, rfl⟩
  refine ⟨?_, below1 _ _⟩
  subst hb
  simp

theorem long3 {b0 : Bool} {A0 : Option Addr} {n0 c0 : Nat} {b1 : Bool} {A1 : Option Addr} {n1 c1 : Nat} {b2 : Bool} {A2 : Option Addr} {n2 c2 : Nat} {w : World} (h0 : n0 ≤ maxLen) (h1 : n1 ≤ maxLen) (h2 : n2 ≤ maxLen) (b : Bool) (hb : b = decide (60 < n0 ∨ 60 < n1 ∨ 60 < n2)) :
    Calls Try.prog 9 #[.slice (some ⟨w.heap.size, 0, none⟩) 3 3] (w.alloc (.cells #[.bool b0, .slice A0 n0 c0, .bool b1, .slice A1 n1 c1, .bool b2, .slice A2 n2 c2] 24)) fun e w' => e = .returned (.bool b) ∧ Below w.heap.size w w' := by
  refine (long_any (k := 3) [(b0, A0, n0, c0), (b1, A1, n1, c1), (b2, A2, n2, c2)] (heap_alloc_new w _) rfl (by omega) (by
    intro x hx
    simp only [List.mem_cons, List.not_mem_nil, or_false] at hx
    rcases hx with rfl | rfl | rfl
    · exact h0
    · exact h1
    · exact h2)).mono ?_
  rintro e w' ⟨rfl, rfl⟩
  refine ⟨?_, below1 _ _⟩
  subst hb
  simp

/-- A number out of a statement's argument. -/
theorem of_some {b : Bool} {A : Option Addr} {n c : Nat} {xs : List Nat} {w : World} (h : U32 w A n c xs) (hn : n ≤ 60) :
    Calls Try.prog 10 #[.agg #[.bool b, .slice A n c]] w fun e w' => ∃ (x : Int) (A' B' : Option Addr) (c' d' : Nat), e = .returned (.tuple #[.agg #[.bool (neg x), .slice A' (zl x) c'], .agg #[.bool (neg x), .slice B' (dl x) d']]) ∧ ZIn w' A' c' x ∧ RIn w' B' d' x ∧ zl x ≤ 60 ∧ dl x ≤ 120 ∧ Below w.heap.size w w' := by
  refine (of_any h hn).mono ?_
  rintro e w' ⟨v, u, rfl, ⟨A', c', rfl, hz⟩, ⟨B', d', rfl, hr⟩, hb⟩
  have h1 := val_lt h.lt
  rw [h.len] at h1
  have h2 := nl_le_of_lt h1
  have h3 : dn (val 4294967296 xs) ≤ 2 * n := dn_le_of_lt (by rw [Nat.pow_mul]; exact h1)
  exact ⟨_, A', B', c', d', rfl, hz, hr, by rw [sg_zl]; omega, by rw [sg_dl]; omega, hb⟩

end Go.Proofs.Ytnldopjbiacbfaa
