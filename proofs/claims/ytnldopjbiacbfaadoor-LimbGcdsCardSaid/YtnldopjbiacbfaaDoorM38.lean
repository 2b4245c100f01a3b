/- Small contracts of package limb that the laws ask. Printed by pv/gen_llaw2.py. No condition. -/
import Derived.Test.YtnldopjbiacbfaaDoorM31
import Derived.Test.YtnldopjbiacbfaaDoorM37

namespace Go.Proofs.YtnldopjbiacbfaaDoor.W
open Go.RowKit Anv

theorem lbits_num {A : Option Addr} {n c N : Nat} {w : World} (h : NumIn w A n c N) (hN : nl N ≤ 1000000) :
    Calls Tryd.prog 57 #[.slice A n c] w fun e w' => e = .returned (.int .i64 (blen N : Nat)) ∧ Below w.heap.size w w' := by
  refine (bits_num h hN).mono ?_
  rintro e w' ⟨rfl, rfl⟩
  exact ⟨rfl, Below.refl _ _⟩
theorem ltwos_to {A : Option Addr} {n c N : Nat} {xs : List Nat} {w0 : World} (h : U32 w0 A n c xs) (hN : val 4294967296 xs = N) (hn : n ≤ 1000000) (hT : Deb w0) :
    Calls Tryd.prog 61 #[.slice A n c] w0 fun e w' => ∃ k : Nat, e = .returned (.int .i64 (k : Nat)) ∧ (N ≠ 0 → IsTz N k) ∧ (N = 0 → k = 0) ∧ Below w0.heap.size w0 w' := by
  subst hN
  exact twos_any h hn hT
theorem nl_shl (N s : Nat) : nl (N * 2 ^ s) ≤ nl N + s / 32 + 1 := by
  have h1 : N < 4294967296 ^ nl N := lt_pow_dig (by decide) N
  refine nl_le_of_lt (k := nl N + s / 32 + 1) ?_
  have h2 : 2 ^ s ≤ 4294967296 ^ (s / 32 + 1) := by
    rw [show 4294967296 = 2 ^ 32 from rfl, ← Nat.pow_mul]
    exact Nat.pow_le_pow_right (by decide) (by omega)
  rw [Nat.add_assoc, Nat.pow_add]
  exact Nat.lt_of_lt_of_le (Nat.mul_lt_mul_of_pos_right h1 (Nat.pow_pos (by decide))) (Nat.mul_le_mul (Nat.le_refl _) h2)
theorem tz_same {N j k : Nat} (h1 : N ≠ 0 → IsTz N j) (h2 : N = 0 → j = 0) (g1 : N ≠ 0 → IsTz N k) (g2 : N = 0 → k = 0) : j = k := by
  by_cases h : N = 0
  · rw [h2 h, g2 h]
  · exact (h1 h).uniq (g1 h)
theorem bool_of_toNat {b c : Bool} {t : Nat} (h : b.toNat = t) (g : c.toNat = t) : (!(b == c)) = false := by
  have : b.toNat = c.toNat := h.trans g.symm
  cases b <;> cases c <;> first | rfl | (exact absurd this (by decide))
theorem neq_same (j k : Nat) (h : j = k) : (((j : Nat) : Int) != ((k : Nat) : Int)) = false := by subst h; simp
theorem St.addT {w0 w : World} {own ps : List PF} (h : St w0 w own ps) (ht : Deb w0) (hw : Deb w) : St w0 w own (pfT :: ps) :=
  h.addP pfT hw (h.older pfT fun b hb => by obtain rfl : b = 0 := hb; exact ht.lt)
set_option maxRecDepth 100000 in
theorem divs_zero {A : Option Addr} {n c : Nat} {w0 : World} :
    Calls Tryd.prog 39 #[.slice A n c, .int .u32 0] w0 fun e w' => e = .returned (.tuple #[.slice none 0 0, .int .u32 0, .int .i64 2]) ∧ Below w0.heap.size w0 w' := by
  refine enter Tryd.func39 rfl Tryd.ntmps39 rfl ?_
  intro a henv hst
  refine wp_seq ?_
  refine region_seq ?_
  refine seq_step rfl (op_val (v := .slice none 0 0) henv rfl (rn_assign henv rfl) ?_)
  clear henv a; intro a henv
  refine seq_step rfl (op_val (v := .int .u32 0) henv rfl (rn_assign henv rfl) ?_)
  clear henv a; intro a henv
  refine seq_step rfl (op_val (v := .int .i64 0) henv rfl (rn_assign henv rfl) ?_)
  clear henv a; intro a henv
  refine wpList_nil ?_
  refine th_n ?_
  refine wp_seq ?_
  refine wp_seq ?_
  refine region_seq ?_
  refine seq_step rfl (op_val (v := .int .u32 0) henv rfl (rn_move henv rfl) ?_)
  clear henv a; intro a henv
  refine seq_step rfl (op_val (v := .bool true) henv rfl (rn_bin henv rfl rfl rfl) ?_)
  clear henv a; intro a henv
  refine wpList_nil ?_
  refine th_n ?_
  refine if_t henv rfl (rfl) ?_
  refine wp_seq ?_
  refine region_seq ?_
  refine seq_step rfl (op_val (v := .slice none 0 0) henv rfl (rn_assign henv rfl) ?_)
  clear henv a; intro a henv
  refine seq_step rfl (op_val (v := .int .u32 0) henv rfl (rn_assign henv rfl) ?_)
  clear henv a; intro a henv
  refine seq_step rfl (op_val (v := .int .i64 2) henv rfl (rn_assign henv rfl) ?_)
  clear henv a; intro a henv
  refine wpList_nil ?_
  refine th_n ?_
  refine wp_ret ?_
  refine th_r ?_
  refine leave henv (res3 Tryd.results39 (RV.tmp henv rfl) (RV.tmp henv rfl) (RV.tmp henv rfl)) ?_
  exact ⟨rfl, hst.below⟩

set_option maxRecDepth 100000 in
theorem shr_neg {A : Option Addr} {n c : Nat} {i : Int} {w0 : World} (hi : i < 0) :
    Calls Tryd.prog 56 #[.slice A n c, .int .i64 i] w0 fun e w' => e = .returned (.tuple #[.slice none 0 0, .int .i64 2]) ∧ Below w0.heap.size w0 w' := by
  refine enter Tryd.func56 rfl Tryd.ntmps56 rfl ?_
  intro a henv hst
  refine wp_seq ?_
  refine region_seq ?_
  refine seq_step rfl (op_val (v := .slice none 0 0) henv rfl (rn_assign henv rfl) ?_)
  clear henv a; intro a henv
  refine seq_step rfl (op_val (v := .int .i64 0) henv rfl (rn_assign henv rfl) ?_)
  clear henv a; intro a henv
  refine wpList_nil ?_
  refine th_n ?_
  refine wp_seq ?_
  refine wp_seq ?_
  refine region_seq ?_
  refine seq_step rfl (op_val (v := .int .i64 i) henv rfl (rn_move henv rfl) ?_)
  clear henv a; intro a henv
  refine seq_step rfl (op_val (v := .bool (decide (i < (0 : Int)))) henv rfl (rn_bin henv rfl rfl rfl) ?_)
  clear henv a; intro a henv
  refine wpList_nil ?_
  refine th_n ?_
  refine if_t henv rfl (decide_eq_true (by omega)) ?_
  refine wp_seq ?_
  refine region_seq ?_
  refine seq_step rfl (op_val (v := .slice none 0 0) henv rfl (rn_assign henv rfl) ?_)
  clear henv a; intro a henv
  refine seq_step rfl (op_val (v := .int .i64 2) henv rfl (rn_assign henv rfl) ?_)
  clear henv a; intro a henv
  refine wpList_nil ?_
  refine th_n ?_
  refine wp_ret ?_
  refine th_r ?_
  refine leave henv (res2 Tryd.results56 (RV.tmp henv rfl) (RV.tmp henv rfl)) ?_
  exact ⟨rfl, hst.below⟩

end Go.Proofs.YtnldopjbiacbfaaDoor.W

/- LimbGcds: the law's walk. Printed by pv/gen_llaw.py. No condition. -/
namespace Go.Proofs.YtnldopjbiacbfaaDoor.W
open Go.RowKit Anv

set_option maxRecDepth 100000 in
set_option maxHeartbeats 4000000 in
theorem gcds_long0 {A0 : Option Addr} {n0 c0 : Nat} {xs0 : List Nat} {A1 : Option Addr} {n1 c1 : Nat} {xs1 : List Nat} {w0 : World} (u0 : U32 w0 A0 n0 c0 xs0) (u1 : U32 w0 A1 n1 c1 xs1)  (hb : 24 < n0) :
    Calls Tryd.prog 8 #[.slice A0 n0 c0, .slice A1 n1 c1] w0 fun e w' => e = .returned (.bool true) ∧ Below w0.heap.size w0 w' := by
  obtain ⟨X, hX0⟩ : ∃ z, val 4294967296 xs0 = z := ⟨_, rfl⟩
  have hl0 : nl X ≤ n0 := hX0 ▸ nl_val u0
  have hxl0 := u0.len
  obtain ⟨Y, hX1⟩ : ∃ z, val 4294967296 xs1 = z := ⟨_, rfl⟩
  have hl1 : nl Y ≤ n1 := hX1 ▸ nl_val u1
  have hxl1 := u1.len
  refine enter Tryd.func8 rfl Tryd.ntmps8 rfl ?_
  intro a henv hst
  replace hst := ((hst.addU u0 trivial).addU u1 trivial)
  clear u0 u1
  refine wp_seq ?_
  refine region_seq ?_
  refine seq_step rfl (op_val (v := .bool false) henv rfl (rn_assign henv rfl) ?_)
  clear henv a; intro a henv
  refine wpList_nil ?_
  refine th_n ?_
  refine wp_seq ?_
  refine wp_seq ?_
  refine region_seq ?_
  refine seq_step rfl (op_call henv rfl Tryd.call32 rfl (works_true _) ?_)
  rintro e w1 ⟨rfl, hb⟩
  refine ⟨_, rfl, ?_⟩
  clear henv a; intro a henv
  replace hst := hst.call hb
  clear hb
  refine seq_step rfl (op_val (v := .bool false) henv rfl (rn_un henv rfl rfl) ?_)
  clear henv a; intro a henv
  refine wpList_nil ?_
  refine th_n ?_
  refine if_f henv rfl (rfl) ?_
  refine wp_skip ?_
  refine th_n ?_
  refine wp_seq ?_
  refine wp_seq ?_
  refine region_seq ?_
  refine seq_step rfl (op_val (v := .slice A0 n0 c0) henv rfl (rn_move henv rfl) ?_)
  clear henv a; intro a henv
  refine seq_step rfl (op_val (v := .int .i64 (n0 : Nat)) henv rfl (rn_len henv Tryd.underlying22 rfl) ?_)
  clear henv a; intro a henv
  refine seq_step rfl (op_val (v := .bool (decide (((n0 : Nat) : Int) > (24 : Int)))) henv rfl (rn_bin henv rfl rfl rfl) ?_)
  clear henv a; intro a henv
  rw [show (decide (((n0 : Nat) : Int) > (24 : Int))) = true from decide_eq_true (by omega)] at henv
  refine seq_step rfl (op_val (v := .bool true) henv rfl (rn_move henv rfl) ?_)
  clear henv a; intro a henv
  refine seq_skip rfl henv rfl rfl rfl rfl ?_
  clear henv a; intro a henv
  refine seq_skip rfl henv rfl rfl rfl rfl ?_
  clear henv a; intro a henv
  refine seq_skip rfl henv rfl rfl rfl rfl ?_
  clear henv a; intro a henv
  refine seq_step rfl (op_val (v := .bool true) henv rfl (rn_pick henv rfl rfl) ?_)
  clear henv a; intro a henv
  refine wpList_nil ?_
  refine th_n ?_
  refine if_t henv rfl (rfl) ?_
  refine wp_seq ?_
  refine region_seq ?_
  refine seq_step rfl (op_val (v := .bool true) henv rfl (rn_assign henv rfl) ?_)
  clear henv a; intro a henv
  refine wpList_nil ?_
  refine th_n ?_
  refine wp_ret ?_
  refine th_r ?_
  refine leave henv (res1 Tryd.results8 (RV.tmp henv rfl)) ?_
  exact ⟨rfl, hst.below⟩

set_option maxRecDepth 100000 in
set_option maxHeartbeats 4000000 in
theorem gcds_long1 {A0 : Option Addr} {n0 c0 : Nat} {xs0 : List Nat} {A1 : Option Addr} {n1 c1 : Nat} {xs1 : List Nat} {w0 : World} (u0 : U32 w0 A0 n0 c0 xs0) (u1 : U32 w0 A1 n1 c1 xs1) (hn0 : n0 ≤ 24) (hb : 24 < n1) :
    Calls Tryd.prog 8 #[.slice A0 n0 c0, .slice A1 n1 c1] w0 fun e w' => e = .returned (.bool true) ∧ Below w0.heap.size w0 w' := by
  obtain ⟨X, hX0⟩ : ∃ z, val 4294967296 xs0 = z := ⟨_, rfl⟩
  have hl0 : nl X ≤ n0 := hX0 ▸ nl_val u0
  have hxl0 := u0.len
  obtain ⟨Y, hX1⟩ : ∃ z, val 4294967296 xs1 = z := ⟨_, rfl⟩
  have hl1 : nl Y ≤ n1 := hX1 ▸ nl_val u1
  have hxl1 := u1.len
  refine enter Tryd.func8 rfl Tryd.ntmps8 rfl ?_
  intro a henv hst
  replace hst := ((hst.addU u0 trivial).addU u1 trivial)
  clear u0 u1
  refine wp_seq ?_
  refine region_seq ?_
  refine seq_step rfl (op_val (v := .bool false) henv rfl (rn_assign henv rfl) ?_)
  clear henv a; intro a henv
  refine wpList_nil ?_
  refine th_n ?_
  refine wp_seq ?_
  refine wp_seq ?_
  refine region_seq ?_
  refine seq_step rfl (op_call henv rfl Tryd.call32 rfl (works_true _) ?_)
  rintro e w1 ⟨rfl, hb⟩
  refine ⟨_, rfl, ?_⟩
  clear henv a; intro a henv
  replace hst := hst.call hb
  clear hb
  refine seq_step rfl (op_val (v := .bool false) henv rfl (rn_un henv rfl rfl) ?_)
  clear henv a; intro a henv
  refine wpList_nil ?_
  refine th_n ?_
  refine if_f henv rfl (rfl) ?_
  refine wp_skip ?_
  refine th_n ?_
  refine wp_seq ?_
  refine wp_seq ?_
  refine region_seq ?_
  refine seq_step rfl (op_val (v := .slice A0 n0 c0) henv rfl (rn_move henv rfl) ?_)
  clear henv a; intro a henv
  refine seq_step rfl (op_val (v := .int .i64 (n0 : Nat)) henv rfl (rn_len henv Tryd.underlying22 rfl) ?_)
  clear henv a; intro a henv
  refine seq_step rfl (op_val (v := .bool (decide (((n0 : Nat) : Int) > (24 : Int)))) henv rfl (rn_bin henv rfl rfl rfl) ?_)
  clear henv a; intro a henv
  rw [show (decide (((n0 : Nat) : Int) > (24 : Int))) = false from decide_eq_false (by omega)] at henv
  refine seq_step rfl (op_val (v := .bool false) henv rfl (rn_move henv rfl) ?_)
  clear henv a; intro a henv
  refine seq_g rfl henv rfl rfl (op_val (v := .slice A1 n1 c1) henv rfl (rn_move henv rfl) ?_)
  clear henv a; intro a henv
  refine seq_g rfl henv rfl rfl (op_val (v := .int .i64 (n1 : Nat)) henv rfl (rn_len henv Tryd.underlying22 rfl) ?_)
  clear henv a; intro a henv
  refine seq_g rfl henv rfl rfl (op_val (v := .bool (decide (((n1 : Nat) : Int) > (24 : Int)))) henv rfl (rn_bin henv rfl rfl rfl) ?_)
  clear henv a; intro a henv
  rw [show (decide (((n1 : Nat) : Int) > (24 : Int))) = true from decide_eq_true (by omega)] at henv
  refine seq_step rfl (op_val (v := .bool true) henv rfl (rn_pick henv rfl rfl) ?_)
  clear henv a; intro a henv
  refine wpList_nil ?_
  refine th_n ?_
  refine if_t henv rfl (rfl) ?_
  refine wp_seq ?_
  refine region_seq ?_
  refine seq_step rfl (op_val (v := .bool true) henv rfl (rn_assign henv rfl) ?_)
  clear henv a; intro a henv
  refine wpList_nil ?_
  refine th_n ?_
  refine wp_ret ?_
  refine th_r ?_
  refine leave henv (res1 Tryd.results8 (RV.tmp henv rfl)) ?_
  exact ⟨rfl, hst.below⟩

set_option maxRecDepth 100000 in
set_option maxHeartbeats 4000000 in
theorem gcds_short {A0 : Option Addr} {n0 c0 : Nat} {xs0 : List Nat} {A1 : Option Addr} {n1 c1 : Nat} {xs1 : List Nat} {w0 : World} (u0 : U32 w0 A0 n0 c0 xs0) (u1 : U32 w0 A1 n1 c1 xs1) (hn0 : n0 ≤ 24) (hn1 : n1 ≤ 24) :
    Calls Tryd.prog 8 #[.slice A0 n0 c0, .slice A1 n1 c1] w0 fun e w' => e = .returned (.bool true) ∧ Below w0.heap.size w0 w' := by
  obtain ⟨X, hX0⟩ : ∃ z, val 4294967296 xs0 = z := ⟨_, rfl⟩
  have hl0 : nl X ≤ n0 := hX0 ▸ nl_val u0
  have hxl0 := u0.len
  obtain ⟨Y, hX1⟩ : ∃ z, val 4294967296 xs1 = z := ⟨_, rfl⟩
  have hl1 : nl Y ≤ n1 := hX1 ▸ nl_val u1
  have hxl1 := u1.len
  refine enter Tryd.func8 rfl Tryd.ntmps8 rfl ?_
  intro a henv hst
  replace hst := ((hst.addU u0 trivial).addU u1 trivial)
  clear u0 u1
  refine wp_seq ?_
  refine region_seq ?_
  refine seq_step rfl (op_val (v := .bool false) henv rfl (rn_assign henv rfl) ?_)
  clear henv a; intro a henv
  refine wpList_nil ?_
  refine th_n ?_
  refine wp_seq ?_
  refine wp_seq ?_
  refine region_seq ?_
  refine seq_step rfl (op_call henv rfl Tryd.call32 rfl (works_true _) ?_)
  rintro e w1 ⟨rfl, hb⟩
  refine ⟨_, rfl, ?_⟩
  clear henv a; intro a henv
  replace hst := hst.call hb
  clear hb
  refine seq_step rfl (op_val (v := .bool false) henv rfl (rn_un henv rfl rfl) ?_)
  clear henv a; intro a henv
  refine wpList_nil ?_
  refine th_n ?_
  refine if_f henv rfl (rfl) ?_
  refine wp_skip ?_
  refine th_n ?_
  refine wp_seq ?_
  refine wp_seq ?_
  refine region_seq ?_
  refine seq_step rfl (op_val (v := .slice A0 n0 c0) henv rfl (rn_move henv rfl) ?_)
  clear henv a; intro a henv
  refine seq_step rfl (op_val (v := .int .i64 (n0 : Nat)) henv rfl (rn_len henv Tryd.underlying22 rfl) ?_)
  clear henv a; intro a henv
  refine seq_step rfl (op_val (v := .bool (decide (((n0 : Nat) : Int) > (24 : Int)))) henv rfl (rn_bin henv rfl rfl rfl) ?_)
  clear henv a; intro a henv
  rw [show (decide (((n0 : Nat) : Int) > (24 : Int))) = false from decide_eq_false (by omega)] at henv
  refine seq_step rfl (op_val (v := .bool false) henv rfl (rn_move henv rfl) ?_)
  clear henv a; intro a henv
  refine seq_g rfl henv rfl rfl (op_val (v := .slice A1 n1 c1) henv rfl (rn_move henv rfl) ?_)
  clear henv a; intro a henv
  refine seq_g rfl henv rfl rfl (op_val (v := .int .i64 (n1 : Nat)) henv rfl (rn_len henv Tryd.underlying22 rfl) ?_)
  clear henv a; intro a henv
  refine seq_g rfl henv rfl rfl (op_val (v := .bool (decide (((n1 : Nat) : Int) > (24 : Int)))) henv rfl (rn_bin henv rfl rfl rfl) ?_)
  clear henv a; intro a henv
  rw [show (decide (((n1 : Nat) : Int) > (24 : Int))) = false from decide_eq_false (by omega)] at henv
  refine seq_step rfl (op_val (v := .bool false) henv rfl (rn_pick henv rfl rfl) ?_)
  clear henv a; intro a henv
  refine wpList_nil ?_
  refine th_n ?_
  refine if_f henv rfl (rfl) ?_
  refine wp_skip ?_
  refine th_n ?_
  refine wp_seq ?_
  refine region_seq ?_
  refine seq_step rfl (op_val (v := .slice A0 n0 c0) henv rfl (rn_move henv rfl) ?_)
  clear henv a; intro a henv
  refine seq_step rfl (op_call henv rfl Tryd.call46 rfl (room_any (show U32 _ A0 n0 c0 xs0 from hst.pat (k := 1) rfl) (by omega)) ?_)
  rintro e w4 ⟨A2, c3, rfl, hU, hA, hb⟩
  refine ⟨_, rfl, ?_⟩
  clear henv a; intro a henv
  replace hst := hst.freshU2 hb hU hA (U32.pre hU hxl0) hA
  clear hU
  clear hA
  clear hb
  refine seq_step rfl (op_val (v := .slice A1 n1 c1) henv rfl (rn_move henv rfl) ?_)
  clear henv a; intro a henv
  refine seq_step rfl (op_call henv rfl Tryd.call46 rfl (room_any (show U32 _ A1 n1 c1 xs1 from hst.pat (k := 2) rfl) (by omega)) ?_)
  rintro e w7 ⟨A5, c6, rfl, hU, hA, hb⟩
  refine ⟨_, rfl, ?_⟩
  clear henv a; intro a henv
  replace hst := hst.freshU2 hb hU hA (U32.pre hU hxl1) hA
  clear hU
  clear hA
  clear hb
  refine seq_step rfl (op_val (v := .slice A2 n0 c3) henv rfl (rn_assign henv rfl) ?_)
  clear henv a; intro a henv
  refine seq_step rfl (op_val (v := .slice A5 n1 c6) henv rfl (rn_assign henv rfl) ?_)
  clear henv a; intro a henv
  refine wpList_nil ?_
  refine th_n ?_
  refine wp_seq ?_
  refine region_seq ?_
  refine seq_step rfl (op_val (v := .slice A2 n0 c3) henv rfl (rn_move henv rfl) ?_)
  clear henv a; intro a henv
  refine seq_step rfl (op_val (v := .slice A5 n1 c6) henv rfl (rn_move henv rfl) ?_)
  clear henv a; intro a henv
  have hs8 := nl_gcd X Y
  refine seq_step rfl (op_call henv rfl Tryd.call44 rfl (gcd_num (N := X) (M := Y) ⟨_, (show U32 _ A2 n0 c3 xs0 from hst.pat (k := 2) rfl), hX0⟩ ⟨_, (show U32 _ A5 n1 c6 xs1 from hst.pat (k := 0) rfl), hX1⟩ (by omega) (by omega)) ?_)
  rintro e w11 ⟨_, rfl, ⟨A9, c10, rfl, hU, hA⟩, hb⟩
  refine ⟨_, rfl, ?_⟩
  clear henv a; intro a henv
  replace hst := hst.freshU hb hU hA
  clear hU
  clear hA
  clear hb
  refine seq_step rfl (op_val (v := .slice A0 n0 c0) henv rfl (rn_move henv rfl) ?_)
  clear henv a; intro a henv
  refine seq_step rfl (op_val (v := .slice A1 n1 c1) henv rfl (rn_move henv rfl) ?_)
  clear henv a; intro a henv
  have hs14 := nl_gcd X Y
  refine seq_step rfl (op_call henv rfl Tryd.call47 rfl (r_gcd (show U32 _ A0 n0 c0 xs0 from hst.pat (k := 6) rfl) (show U32 _ A1 n1 c1 xs1 from hst.pat (k := 5) rfl) hX0 hX1 (by omega) (by omega)) ?_)
  rintro e w15 ⟨_, rfl, ⟨A12, c13, rfl, hU, hA⟩, hb⟩
  refine ⟨_, rfl, ?_⟩
  clear henv a; intro a henv
  replace hst := hst.freshU hb hU hA
  clear hU
  clear hA
  clear hb
  refine seq_step rfl (op_call henv rfl Tryd.call36 rfl (equal_u (show U32 _ A9 (nl (Nat.gcd X Y)) c10 (L (Nat.gcd X Y)) from hst.pat (k := 1) rfl) (show U32 _ A12 (nl (Nat.gcd X Y)) c13 (L (Nat.gcd X Y)) from hst.pat (k := 0) rfl)) ?_)
  rintro e w16 ⟨rfl, hb⟩
  refine ⟨_, rfl, ?_⟩
  clear henv a; intro a henv
  replace hst := hst.call hb
  clear hb
  rw [show (decide ((L (Nat.gcd X Y)) = (L (Nat.gcd X Y)))) = true from by rw [L_dec]; exact decide_eq_true (by first | rfl | omega | exact Nat.add_comm _ _ | exact Nat.mul_comm _ _ | exact Nat.add_assoc _ _ _ | exact (Nat.add_assoc _ _ _).symm | exact Nat.mul_assoc _ _ _ | exact (Nat.mul_assoc _ _ _).symm | exact Nat.mul_add _ _ _)] at henv
  refine seq_step rfl (op_val (v := .bool true) henv rfl (rn_move henv rfl) ?_)
  clear henv a; intro a henv
  refine seq_g rfl henv rfl rfl (op_val (v := .slice A2 n0 c3) henv rfl (rn_move henv rfl) ?_)
  clear henv a; intro a henv
  refine seq_g rfl henv rfl rfl (op_val (v := .slice A0 n0 c0) henv rfl (rn_move henv rfl) ?_)
  clear henv a; intro a henv
  refine seq_g rfl henv rfl rfl (op_call henv rfl Tryd.call48 rfl (kept_true (show U32 _ A2 (n0 + 2) c3 (xs0 ++ [77, 78]) from hst.pat (k := 5) rfl) (show U32 _ A0 n0 c0 xs0 from hst.pat (k := 7) rfl) (by omega)) ?_)
  rintro e w17 ⟨rfl, hb⟩
  refine ⟨_, rfl, ?_⟩
  clear henv a; intro a henv
  replace hst := hst.call hb
  clear hb
  refine seq_step rfl (op_val (v := .bool true) henv rfl (rn_pick henv rfl rfl) ?_)
  clear henv a; intro a henv
  refine seq_step rfl (op_val (v := .bool true) henv rfl (rn_move henv rfl) ?_)
  clear henv a; intro a henv
  refine seq_g rfl henv rfl rfl (op_val (v := .slice A5 n1 c6) henv rfl (rn_move henv rfl) ?_)
  clear henv a; intro a henv
  refine seq_g rfl henv rfl rfl (op_val (v := .slice A1 n1 c1) henv rfl (rn_move henv rfl) ?_)
  clear henv a; intro a henv
  refine seq_g rfl henv rfl rfl (op_call henv rfl Tryd.call48 rfl (kept_true (show U32 _ A5 (n1 + 2) c6 (xs1 ++ [77, 78]) from hst.pat (k := 3) rfl) (show U32 _ A1 n1 c1 xs1 from hst.pat (k := 6) rfl) (by omega)) ?_)
  rintro e w18 ⟨rfl, hb⟩
  refine ⟨_, rfl, ?_⟩
  clear henv a; intro a henv
  replace hst := hst.call hb
  clear hb
  refine seq_step rfl (op_val (v := .bool true) henv rfl (rn_pick henv rfl rfl) ?_)
  clear henv a; intro a henv
  refine seq_step rfl (op_val (v := .bool true) henv rfl (rn_assign henv rfl) ?_)
  clear henv a; intro a henv
  refine wpList_nil ?_
  refine th_n ?_
  refine wp_ret ?_
  refine leave henv (res1 Tryd.results8 (RV.tmp henv rfl)) ?_
  exact ⟨rfl, hst.below⟩

theorem gcds_law {A0 : Option Addr} {n0 c0 : Nat} {xs0 : List Nat} {A1 : Option Addr} {n1 c1 : Nat} {xs1 : List Nat} {w0 : World} (u0 : U32 w0 A0 n0 c0 xs0) (u1 : U32 w0 A1 n1 c1 xs1) :
    Calls Tryd.prog 8 #[.slice A0 n0 c0, .slice A1 n1 c1] w0 fun e w' => e = .returned (.bool true) ∧ Below w0.heap.size w0 w' := by
  rcases Nat.lt_or_ge 24 n0 with hb | hn0
  · exact gcds_long0 u0 u1  hb
  rcases Nat.lt_or_ge 24 n1 with hb | hn1
  · exact gcds_long1 u0 u1 hn0 hb
  exact gcds_short u0 u1 hn0 hn1

end Go.Proofs.YtnldopjbiacbfaaDoor.W
