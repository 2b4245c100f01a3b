/- Small contracts of package limb that the laws ask. Printed by pv/gen_llaw2.py. No condition. -/
import Derived.Test.YtnldopjbiacbfaaDoorM31
import Derived.Test.YtnldopjbiacbfaaDoorM37

namespace Go.Proofs.YtnldopjbiacbfaaDoor.W
open Go.RowKit Anv

theorem lbits_num {A : Option Addr} {n c N : Nat} {w : World} (h : NumIn w A n c N) (hN : nl N ≤ 1000000) :
    Calls Tryd.prog 57 #[.slice A n c] w fun e w' => e = .returned (.int .i64 (blen N : Nat)) ∧ Below w.heap.size w w' := by
  refine (bits_num h hN).mono ?_
  rintro e w' ⟨rfl, rfl⟩
  exact ⟨rfl, Below.refl _ _⟩
theorem ltwos_to {A : Option Addr} {n c N : Nat} {xs : List Nat} {w0 : World} (h : U32 w0 A n c xs) (hN : val 4294967296 xs = N) (hn : n ≤ 1000000) (hT : Deb w0) :
    Calls Tryd.prog 61 #[.slice A n c] w0 fun e w' => ∃ k : Nat, e = .returned (.int .i64 (k : Nat)) ∧ (N ≠ 0 → IsTz N k) ∧ (N = 0 → k = 0) ∧ Below w0.heap.size w0 w' := by
  subst hN
  exact twos_any h hn hT
theorem nl_shl (N s : Nat) : nl (N * 2 ^ s) ≤ nl N + s / 32 + 1 := by
  have h1 : N < 4294967296 ^ nl N := lt_pow_dig (by decide) N
  refine nl_le_of_lt (k := nl N + s / 32 + 1) ?_
  have h2 : 2 ^ s ≤ 4294967296 ^ (s / 32 + 1) := by
    rw [show 4294967296 = 2 ^ 32 from rfl, ← Nat.pow_mul]
    exact Nat.pow_le_pow_right (by decide) (by omega)
  rw [Nat.add_assoc, Nat.pow_add]
  exact Nat.lt_of_lt_of_le (Nat.mul_lt_mul_of_pos_right h1 (Nat.pow_pos (by decide))) (Nat.mul_le_mul (Nat.le_refl _) h2)
theorem tz_same {N j k : Nat} (h1 : N ≠ 0 → IsTz N j) (h2 : N = 0 → j = 0) (g1 : N ≠ 0 → IsTz N k) (g2 : N = 0 → k = 0) : j = k := by
  by_cases h : N = 0
  · rw [h2 h, g2 h]
  · exact (h1 h).uniq (g1 h)
theorem bool_of_toNat {b c : Bool} {t : Nat} (h : b.toNat = t) (g : c.toNat = t) : (!(b == c)) = false := by
  have : b.toNat = c.toNat := h.trans g.symm
  cases b <;> cases c <;> first | rfl | (exact absurd this (by decide))
theorem neq_same (j k : Nat) (h : j = k) : (((j : Nat) : Int) != ((k : Nat) : Int)) = false := by subst h; simp
theorem St.addT {w0 w : World} {own ps : List PF} (h : St w0 w own ps) (ht : Deb w0) (hw : Deb w) : St w0 w own (pfT :: ps) :=
  h.addP pfT hw (h.older pfT fun b hb => by obtain rfl : b = 0 := hb; exact ht.lt)
set_option maxRecDepth 100000 in
theorem divs_zero {A : Option Addr} {n c : Nat} {w0 : World} :
    Calls Tryd.prog 39 #[.slice A n c, .int .u32 0] w0 fun e w' => e = .returned (.tuple #[.slice none 0 0, .int .u32 0, .int .i64 2]) ∧ Below w0.heap.size w0 w' := by
  refine enter Tryd.func39 rfl Tryd.ntmps39 rfl ?_
  intro a henv hst
  refine wp_seq ?_
  refine region_seq ?_
  refine seq_step rfl (op_val (v := .slice none 0 0) henv rfl (rn_assign henv rfl) ?_)
  clear henv a; intro a henv
  refine seq_step rfl (op_val (v := .int .u32 0) henv rfl (rn_assign henv rfl) ?_)
  clear henv a; intro a henv
  refine seq_step rfl (op_val (v := .int .i64 0) henv rfl (rn_assign henv rfl) ?_)
  clear henv a; intro a henv
  refine wpList_nil ?_
  refine th_n ?_
  refine wp_seq ?_
  refine wp_seq ?_
  refine region_seq ?_
  refine seq_step rfl (op_val (v := .int .u32 0) henv rfl (rn_move henv rfl) ?_)
  clear henv a; intro a henv
  refine seq_step rfl (op_val (v := .bool true) henv rfl (rn_bin henv rfl rfl rfl) ?_)
  clear henv a; intro a henv
  refine wpList_nil ?_
  refine th_n ?_
  refine if_t henv rfl (rfl) ?_
  refine wp_seq ?_
  refine region_seq ?_
  refine seq_step rfl (op_val (v := .slice none 0 0) henv rfl (rn_assign henv rfl) ?_)
  clear henv a; intro a henv
  refine seq_step rfl (op_val (v := .int .u32 0) henv rfl (rn_assign henv rfl) ?_)
  clear henv a; intro a henv
  refine seq_step rfl (op_val (v := .int .i64 2) henv rfl (rn_assign henv rfl) ?_)
  clear henv a; intro a henv
  refine wpList_nil ?_
  refine th_n ?_
  refine wp_ret ?_
  refine th_r ?_
  refine leave henv (res3 Tryd.results39 (RV.tmp henv rfl) (RV.tmp henv rfl) (RV.tmp henv rfl)) ?_
  exact ⟨rfl, hst.below⟩

set_option maxRecDepth 100000 in
theorem shr_neg {A : Option Addr} {n c : Nat} {i : Int} {w0 : World} (hi : i < 0) :
    Calls Tryd.prog 56 #[.slice A n c, .int .i64 i] w0 fun e w' => e = .returned (.tuple #[.slice none 0 0, .int .i64 2]) ∧ Below w0.heap.size w0 w' := by
  refine enter Tryd.func56 rfl Tryd.ntmps56 rfl ?_
  intro a henv hst
  refine wp_seq ?_
  refine region_seq ?_
  refine seq_step rfl (op_val (v := .slice none 0 0) henv rfl (rn_assign henv rfl) ?_)
  clear henv a; intro a henv
  refine seq_step rfl (op_val (v := .int .i64 0) henv rfl (rn_assign henv rfl) ?_)
  clear henv a; intro a henv
  refine wpList_nil ?_
  refine th_n ?_
  refine wp_seq ?_
  refine wp_seq ?_
  refine region_seq ?_
  refine seq_step rfl (op_val (v := .int .i64 i) henv rfl (rn_move henv rfl) ?_)
  clear henv a; intro a henv
  refine seq_step rfl (op_val (v := .bool (decide (i < (0 : Int)))) henv rfl (rn_bin henv rfl rfl rfl) ?_)
  clear henv a; intro a henv
  refine wpList_nil ?_
  refine th_n ?_
  refine if_t henv rfl (decide_eq_true (by omega)) ?_
  refine wp_seq ?_
  refine region_seq ?_
  refine seq_step rfl (op_val (v := .slice none 0 0) henv rfl (rn_assign henv rfl) ?_)
  clear henv a; intro a henv
  refine seq_step rfl (op_val (v := .int .i64 2) henv rfl (rn_assign henv rfl) ?_)
  clear henv a; intro a henv
  refine wpList_nil ?_
  refine th_n ?_
  refine wp_ret ?_
  refine th_r ?_
  refine leave henv (res2 Tryd.results56 (RV.tmp henv rfl) (RV.tmp henv rfl)) ?_
  exact ⟨rfl, hst.below⟩

end Go.Proofs.YtnldopjbiacbfaaDoor.W
