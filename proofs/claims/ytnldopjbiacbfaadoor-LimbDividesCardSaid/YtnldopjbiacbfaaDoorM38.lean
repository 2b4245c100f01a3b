/- Small contracts of package limb that the laws ask. Printed by pv/gen_llaw2.py. No condition. -/
import Derived.Test.YtnldopjbiacbfaaDoorM31
import Derived.Test.YtnldopjbiacbfaaDoorM37

namespace Go.Proofs.YtnldopjbiacbfaaDoor.W
open Go.RowKit Anv

theorem lbits_num {A : Option Addr} {n c N : Nat} {w : World} (h : NumIn w A n c N) (hN : nl N ≤ 1000000) :
    Calls Tryd.prog 57 #[.slice A n c] w fun e w' => e = .returned (.int .i64 (blen N : Nat)) ∧ Below w.heap.size w w' := by
  refine (bits_num h hN).mono ?_
  rintro e w' ⟨rfl, rfl⟩
  exact ⟨rfl, Below.refl _ _⟩
theorem ltwos_to {A : Option Addr} {n c N : Nat} {xs : List Nat} {w0 : World} (h : U32 w0 A n c xs) (hN : val 4294967296 xs = N) (hn : n ≤ 1000000) (hT : Deb w0) :
    Calls Tryd.prog 61 #[.slice A n c] w0 fun e w' => ∃ k : Nat, e = .returned (.int .i64 (k : Nat)) ∧ (N ≠ 0 → IsTz N k) ∧ (N = 0 → k = 0) ∧ Below w0.heap.size w0 w' := by
  subst hN
  exact twos_any h hn hT
theorem nl_shl (N s : Nat) : nl (N * 2 ^ s) ≤ nl N + s / 32 + 1 := by
  have h1 : N < 4294967296 ^ nl N := lt_pow_dig (by decide) N
  refine nl_le_of_lt (k := nl N + s / 32 + 1) ?_
  have h2 : 2 ^ s ≤ 4294967296 ^ (s / 32 + 1) := by
    rw [show 4294967296 = 2 ^ 32 from rfl, ← Nat.pow_mul]
    exact Nat.pow_le_pow_right (by decide) (by omega)
  rw [Nat.add_assoc, Nat.pow_add]
  exact Nat.lt_of_lt_of_le (Nat.mul_lt_mul_of_pos_right h1 (Nat.pow_pos (by decide))) (Nat.mul_le_mul (Nat.le_refl _) h2)
theorem tz_same {N j k : Nat} (h1 : N ≠ 0 → IsTz N j) (h2 : N = 0 → j = 0) (g1 : N ≠ 0 → IsTz N k) (g2 : N = 0 → k = 0) : j = k := by
  by_cases h : N = 0
  · rw [h2 h, g2 h]
  · exact (h1 h).uniq (g1 h)
theorem bool_of_toNat {b c : Bool} {t : Nat} (h : b.toNat = t) (g : c.toNat = t) : (!(b == c)) = false := by
  have : b.toNat = c.toNat := h.trans g.symm
  cases b <;> cases c <;> first | rfl | (exact absurd this (by decide))
theorem neq_same (j k : Nat) (h : j = k) : (((j : Nat) : Int) != ((k : Nat) : Int)) = false := by subst h; simp
theorem St.addT {w0 w : World} {own ps : List PF} (h : St w0 w own ps) (ht : Deb w0) (hw : Deb w) : St w0 w own (pfT :: ps) :=
  h.addP pfT hw (h.older pfT fun b hb => by obtain rfl : b = 0 := hb; exact ht.lt)
set_option maxRecDepth 100000 in
theorem divs_zero {A : Option Addr} {n c : Nat} {w0 : World} :
    Calls Tryd.prog 39 #[.slice A n c, .int .u32 0] w0 fun e w' => e = .returned (.tuple #[.slice none 0 0, .int .u32 0, .int .i64 2]) ∧ Below w0.heap.size w0 w' := by
  refine enter Tryd.func39 rfl Tryd.ntmps39 rfl ?_
  intro a henv hst
  refine wp_seq ?_
  refine region_seq ?_
  refine seq_step rfl (op_val (v := .slice none 0 0) henv rfl (rn_assign henv rfl) ?_)
  clear henv a; intro a henv
  refine seq_step rfl (op_val (v := .int .u32 0) henv rfl (rn_assign henv rfl) ?_)
  clear henv a; intro a henv
  refine seq_step rfl (op_val (v := .int .i64 0) henv rfl (rn_assign henv rfl) ?_)
  clear henv a; intro a henv
  refine wpList_nil ?_
  refine th_n ?_
  refine wp_seq ?_
  refine wp_seq ?_
  refine region_seq ?_
  refine seq_step rfl (op_val (v := .int .u32 0) henv rfl (rn_move henv rfl) ?_)
  clear henv a; intro a henv
  refine seq_step rfl (op_val (v := .bool true) henv rfl (rn_bin henv rfl rfl rfl) ?_)
  clear henv a; intro a henv
  refine wpList_nil ?_
  refine th_n ?_
  refine if_t henv rfl (rfl) ?_
  refine wp_seq ?_
  refine region_seq ?_
  refine seq_step rfl (op_val (v := .slice none 0 0) henv rfl (rn_assign henv rfl) ?_)
  clear henv a; intro a henv
  refine seq_step rfl (op_val (v := .int .u32 0) henv rfl (rn_assign henv rfl) ?_)
  clear henv a; intro a henv
  refine seq_step rfl (op_val (v := .int .i64 2) henv rfl (rn_assign henv rfl) ?_)
  clear henv a; intro a henv
  refine wpList_nil ?_
  refine th_n ?_
  refine wp_ret ?_
  refine th_r ?_
  refine leave henv (res3 Tryd.results39 (RV.tmp henv rfl) (RV.tmp henv rfl) (RV.tmp henv rfl)) ?_
  exact ⟨rfl, hst.below⟩

set_option maxRecDepth 100000 in
theorem shr_neg {A : Option Addr} {n c : Nat} {i : Int} {w0 : World} (hi : i < 0) :
    Calls Tryd.prog 56 #[.slice A n c, .int .i64 i] w0 fun e w' => e = .returned (.tuple #[.slice none 0 0, .int .i64 2]) ∧ Below w0.heap.size w0 w' := by
  refine enter Tryd.func56 rfl Tryd.ntmps56 rfl ?_
  intro a henv hst
  refine wp_seq ?_
  refine region_seq ?_
  refine seq_step rfl (op_val (v := .slice none 0 0) henv rfl (rn_assign henv rfl) ?_)
  clear henv a; intro a henv
  refine seq_step rfl (op_val (v := .int .i64 0) henv rfl (rn_assign henv rfl) ?_)
  clear henv a; intro a henv
  refine wpList_nil ?_
  refine th_n ?_
  refine wp_seq ?_
  refine wp_seq ?_
  refine region_seq ?_
  refine seq_step rfl (op_val (v := .int .i64 i) henv rfl (rn_move henv rfl) ?_)
  clear henv a; intro a henv
  refine seq_step rfl (op_val (v := .bool (decide (i < (0 : Int)))) henv rfl (rn_bin henv rfl rfl rfl) ?_)
  clear henv a; intro a henv
  refine wpList_nil ?_
  refine th_n ?_
  refine if_t henv rfl (decide_eq_true (by omega)) ?_
  refine wp_seq ?_
  refine region_seq ?_
  refine seq_step rfl (op_val (v := .slice none 0 0) henv rfl (rn_assign henv rfl) ?_)
  clear henv a; intro a henv
  refine seq_step rfl (op_val (v := .int .i64 2) henv rfl (rn_assign henv rfl) ?_)
  clear henv a; intro a henv
  refine wpList_nil ?_
  refine th_n ?_
  refine wp_ret ?_
  refine th_r ?_
  refine leave henv (res2 Tryd.results56 (RV.tmp henv rfl) (RV.tmp henv rfl)) ?_
  exact ⟨rfl, hst.below⟩

end Go.Proofs.YtnldopjbiacbfaaDoor.W

/- LimbDivides: the law's walk. Printed by pv/gen_llaw.py. No condition. -/
namespace Go.Proofs.YtnldopjbiacbfaaDoor.W
open Go.RowKit Anv

set_option maxRecDepth 100000 in
set_option maxHeartbeats 4000000 in
theorem divides_long0 {A0 : Option Addr} {n0 c0 : Nat} {xs0 : List Nat} {A1 : Option Addr} {n1 c1 : Nat} {xs1 : List Nat} {q : Nat} {w0 : World} (u0 : U32 w0 A0 n0 c0 xs0) (u1 : U32 w0 A1 n1 c1 xs1)  (hb : 160 < n0) :
    Calls Tryd.prog 10 #[.slice A0 n0 c0, .slice A1 n1 c1, .int .u32 (q : Nat)] w0 fun e w' => e = .returned (.bool true) ∧ Below w0.heap.size w0 w' := by
  obtain ⟨X, hX0⟩ : ∃ z, val 4294967296 xs0 = z := ⟨_, rfl⟩
  have hl0 : nl X ≤ n0 := hX0 ▸ nl_val u0
  have hxl0 := u0.len
  obtain ⟨Y, hX1⟩ : ∃ z, val 4294967296 xs1 = z := ⟨_, rfl⟩
  have hl1 : nl Y ≤ n1 := hX1 ▸ nl_val u1
  have hxl1 := u1.len
  refine enter Tryd.func10 rfl Tryd.ntmps10 rfl ?_
  intro a henv hst
  replace hst := ((hst.addU u0 trivial).addU u1 trivial)
  clear u0 u1
  refine wp_seq ?_
  refine region_seq ?_
  refine seq_step rfl (op_val (v := .bool false) henv rfl (rn_assign henv rfl) ?_)
  clear henv a; intro a henv
  refine wpList_nil ?_
  refine th_n ?_
  refine wp_seq ?_
  refine wp_seq ?_
  refine region_seq ?_
  refine seq_step rfl (op_call henv rfl Tryd.call32 rfl (works_true _) ?_)
  rintro e w1 ⟨rfl, hb⟩
  refine ⟨_, rfl, ?_⟩
  clear henv a; intro a henv
  replace hst := hst.call hb
  clear hb
  refine seq_step rfl (op_val (v := .bool false) henv rfl (rn_un henv rfl rfl) ?_)
  clear henv a; intro a henv
  refine wpList_nil ?_
  refine th_n ?_
  refine if_f henv rfl (rfl) ?_
  refine wp_skip ?_
  refine th_n ?_
  refine wp_seq ?_
  refine wp_seq ?_
  refine region_seq ?_
  refine seq_step rfl (op_val (v := .slice A0 n0 c0) henv rfl (rn_move henv rfl) ?_)
  clear henv a; intro a henv
  refine seq_step rfl (op_val (v := .slice A1 n1 c1) henv rfl (rn_move henv rfl) ?_)
  clear henv a; intro a henv
  refine seq_step rfl (op_buildSlice (z := 1) (pv := #[(0, .slice A0 n0 c0), (1, .slice A1 n1 c1)]) (c := #[.slice A0 n0 c0, .slice A1 n1 c1]) henv hst rfl Tryd.underlying107 (ty__uint32.size) zero__uint32 (by decide) (by decide) rfl (by kernel_rfl) ?_)
  clear henv hst a; intro a w3 g2 henv hst
  refine seq_step rfl (op_call henv rfl Tryd.call50 rfl (long_lg (q := 2) (ls := [(A0, n0, c0), (A1, n1, c1)]) (hst.oat (k := 0) rfl) rfl (by decide) ⟨0, by decide, hb⟩) ?_)
  rintro e w4 ⟨rfl, hb⟩
  refine ⟨_, rfl, ?_⟩
  clear henv a; intro a henv
  replace hst := hst.call hb
  clear hb
  refine wpList_nil ?_
  refine th_n ?_
  refine if_t henv rfl (rfl) ?_
  refine wp_seq ?_
  refine region_seq ?_
  refine seq_step rfl (op_val (v := .bool true) henv rfl (rn_assign henv rfl) ?_)
  clear henv a; intro a henv
  refine wpList_nil ?_
  refine th_n ?_
  refine wp_ret ?_
  refine th_r ?_
  refine leave henv (res1 Tryd.results10 (RV.tmp henv rfl)) ?_
  exact ⟨rfl, hst.below⟩

set_option maxRecDepth 100000 in
set_option maxHeartbeats 4000000 in
theorem divides_long1 {A0 : Option Addr} {n0 c0 : Nat} {xs0 : List Nat} {A1 : Option Addr} {n1 c1 : Nat} {xs1 : List Nat} {q : Nat} {w0 : World} (u0 : U32 w0 A0 n0 c0 xs0) (u1 : U32 w0 A1 n1 c1 xs1)  (hb : 160 < n1) :
    Calls Tryd.prog 10 #[.slice A0 n0 c0, .slice A1 n1 c1, .int .u32 (q : Nat)] w0 fun e w' => e = .returned (.bool true) ∧ Below w0.heap.size w0 w' := by
  obtain ⟨X, hX0⟩ : ∃ z, val 4294967296 xs0 = z := ⟨_, rfl⟩
  have hl0 : nl X ≤ n0 := hX0 ▸ nl_val u0
  have hxl0 := u0.len
  obtain ⟨Y, hX1⟩ : ∃ z, val 4294967296 xs1 = z := ⟨_, rfl⟩
  have hl1 : nl Y ≤ n1 := hX1 ▸ nl_val u1
  have hxl1 := u1.len
  refine enter Tryd.func10 rfl Tryd.ntmps10 rfl ?_
  intro a henv hst
  replace hst := ((hst.addU u0 trivial).addU u1 trivial)
  clear u0 u1
  refine wp_seq ?_
  refine region_seq ?_
  refine seq_step rfl (op_val (v := .bool false) henv rfl (rn_assign henv rfl) ?_)
  clear henv a; intro a henv
  refine wpList_nil ?_
  refine th_n ?_
  refine wp_seq ?_
  refine wp_seq ?_
  refine region_seq ?_
  refine seq_step rfl (op_call henv rfl Tryd.call32 rfl (works_true _) ?_)
  rintro e w1 ⟨rfl, hb⟩
  refine ⟨_, rfl, ?_⟩
  clear henv a; intro a henv
  replace hst := hst.call hb
  clear hb
  refine seq_step rfl (op_val (v := .bool false) henv rfl (rn_un henv rfl rfl) ?_)
  clear henv a; intro a henv
  refine wpList_nil ?_
  refine th_n ?_
  refine if_f henv rfl (rfl) ?_
  refine wp_skip ?_
  refine th_n ?_
  refine wp_seq ?_
  refine wp_seq ?_
  refine region_seq ?_
  refine seq_step rfl (op_val (v := .slice A0 n0 c0) henv rfl (rn_move henv rfl) ?_)
  clear henv a; intro a henv
  refine seq_step rfl (op_val (v := .slice A1 n1 c1) henv rfl (rn_move henv rfl) ?_)
  clear henv a; intro a henv
  refine seq_step rfl (op_buildSlice (z := 1) (pv := #[(0, .slice A0 n0 c0), (1, .slice A1 n1 c1)]) (c := #[.slice A0 n0 c0, .slice A1 n1 c1]) henv hst rfl Tryd.underlying107 (ty__uint32.size) zero__uint32 (by decide) (by decide) rfl (by kernel_rfl) ?_)
  clear henv hst a; intro a w3 g2 henv hst
  refine seq_step rfl (op_call henv rfl Tryd.call50 rfl (long_lg (q := 2) (ls := [(A0, n0, c0), (A1, n1, c1)]) (hst.oat (k := 0) rfl) rfl (by decide) ⟨1, by decide, hb⟩) ?_)
  rintro e w4 ⟨rfl, hb⟩
  refine ⟨_, rfl, ?_⟩
  clear henv a; intro a henv
  replace hst := hst.call hb
  clear hb
  refine wpList_nil ?_
  refine th_n ?_
  refine if_t henv rfl (rfl) ?_
  refine wp_seq ?_
  refine region_seq ?_
  refine seq_step rfl (op_val (v := .bool true) henv rfl (rn_assign henv rfl) ?_)
  clear henv a; intro a henv
  refine wpList_nil ?_
  refine th_n ?_
  refine wp_ret ?_
  refine th_r ?_
  refine leave henv (res1 Tryd.results10 (RV.tmp henv rfl)) ?_
  exact ⟨rfl, hst.below⟩

set_option maxRecDepth 100000 in
set_option maxHeartbeats 4000000 in
theorem divides_11 {A0 : Option Addr} {n0 c0 : Nat} {xs0 : List Nat} {A1 : Option Addr} {n1 c1 : Nat} {xs1 : List Nat} {w0 : World} (u0 : U32 w0 A0 n0 c0 xs0) (u1 : U32 w0 A1 n1 c1 xs1) (hn0 : n0 ≤ 160) (hn1 : n1 ≤ 160) (hY : val 4294967296 xs1 = 0) :
    Calls Tryd.prog 10 #[.slice A0 n0 c0, .slice A1 n1 c1, .int .u32 0] w0 fun e w' => e = .returned (.bool true) ∧ Below w0.heap.size w0 w' := by
  obtain ⟨X, hX0⟩ : ∃ z, val 4294967296 xs0 = z := ⟨_, rfl⟩
  have hl0 : nl X ≤ n0 := hX0 ▸ nl_val u0
  have hxl0 := u0.len
  obtain ⟨Y, hX1⟩ : ∃ z, val 4294967296 xs1 = z := ⟨_, rfl⟩
  have hl1 : nl Y ≤ n1 := hX1 ▸ nl_val u1
  have hxl1 := u1.len
  have hY0 : Y = 0 := hX1 ▸ hY
  refine enter Tryd.func10 rfl Tryd.ntmps10 rfl ?_
  intro a henv hst
  replace hst := ((hst.addU u0 trivial).addU u1 trivial)
  clear u0 u1
  refine wp_seq ?_
  refine region_seq ?_
  refine seq_step rfl (op_val (v := .bool false) henv rfl (rn_assign henv rfl) ?_)
  clear henv a; intro a henv
  refine wpList_nil ?_
  refine th_n ?_
  refine wp_seq ?_
  refine wp_seq ?_
  refine region_seq ?_
  refine seq_step rfl (op_call henv rfl Tryd.call32 rfl (works_true _) ?_)
  rintro e w1 ⟨rfl, hb⟩
  refine ⟨_, rfl, ?_⟩
  clear henv a; intro a henv
  replace hst := hst.call hb
  clear hb
  refine seq_step rfl (op_val (v := .bool false) henv rfl (rn_un henv rfl rfl) ?_)
  clear henv a; intro a henv
  refine wpList_nil ?_
  refine th_n ?_
  refine if_f henv rfl (rfl) ?_
  refine wp_skip ?_
  refine th_n ?_
  refine wp_seq ?_
  refine wp_seq ?_
  refine region_seq ?_
  refine seq_step rfl (op_val (v := .slice A0 n0 c0) henv rfl (rn_move henv rfl) ?_)
  clear henv a; intro a henv
  refine seq_step rfl (op_val (v := .slice A1 n1 c1) henv rfl (rn_move henv rfl) ?_)
  clear henv a; intro a henv
  refine seq_step rfl (op_buildSlice (z := 1) (pv := #[(0, .slice A0 n0 c0), (1, .slice A1 n1 c1)]) (c := #[.slice A0 n0 c0, .slice A1 n1 c1]) henv hst rfl Tryd.underlying107 (ty__uint32.size) zero__uint32 (by decide) (by decide) rfl (by kernel_rfl) ?_)
  clear henv hst a; intro a w3 g2 henv hst
  refine seq_step rfl (op_call henv rfl Tryd.call50 rfl (long_sh (q := 2) (ls := [(A0, n0, c0), (A1, n1, c1)]) (hst.oat (k := 0) rfl) rfl (by decide) (by intro p hp; simp at hp; rcases hp with rfl | rfl <;> assumption)) ?_)
  rintro e w4 ⟨rfl, hb⟩
  refine ⟨_, rfl, ?_⟩
  clear henv a; intro a henv
  replace hst := hst.call hb
  clear hb
  refine wpList_nil ?_
  refine th_n ?_
  refine if_f henv rfl (rfl) ?_
  refine wp_skip ?_
  refine th_n ?_
  refine wp_seq ?_
  refine region_seq ?_
  refine seq_step rfl (op_val (v := .slice A0 n0 c0) henv rfl (rn_move henv rfl) ?_)
  clear henv a; intro a henv
  refine seq_step rfl (op_call henv rfl Tryd.call46 rfl (room_any (show U32 _ A0 n0 c0 xs0 from hst.pat (k := 1) rfl) (by omega)) ?_)
  rintro e w7 ⟨A5, c6, rfl, hU, hA, hb⟩
  refine ⟨_, rfl, ?_⟩
  clear henv a; intro a henv
  replace hst := hst.freshU2 hb hU hA (U32.pre hU hxl0) hA
  clear hU
  clear hA
  clear hb
  refine seq_step rfl (op_val (v := .slice A1 n1 c1) henv rfl (rn_move henv rfl) ?_)
  clear henv a; intro a henv
  refine seq_step rfl (op_call henv rfl Tryd.call46 rfl (room_any (show U32 _ A1 n1 c1 xs1 from hst.pat (k := 2) rfl) (by omega)) ?_)
  rintro e w10 ⟨A8, c9, rfl, hU, hA, hb⟩
  refine ⟨_, rfl, ?_⟩
  clear henv a; intro a henv
  replace hst := hst.freshU2 hb hU hA (U32.pre hU hxl1) hA
  clear hU
  clear hA
  clear hb
  refine seq_step rfl (op_val (v := .slice A5 n0 c6) henv rfl (rn_assign henv rfl) ?_)
  clear henv a; intro a henv
  refine seq_step rfl (op_val (v := .slice A8 n1 c9) henv rfl (rn_assign henv rfl) ?_)
  clear henv a; intro a henv
  refine wpList_nil ?_
  refine th_n ?_
  refine wp_seq ?_
  refine region_seq ?_
  refine seq_step rfl (op_val (v := .slice A5 n0 c6) henv rfl (rn_move henv rfl) ?_)
  clear henv a; intro a henv
  refine seq_step rfl (op_val (v := .slice A8 n1 c9) henv rfl (rn_move henv rfl) ?_)
  clear henv a; intro a henv
  refine seq_step rfl (op_call henv rfl Tryd.call33 rfl (dm_zero ⟨_, (show U32 _ A8 n1 c9 xs1 from hst.pat (k := 0) rfl), (hX1.trans hY0)⟩) ?_)
  rintro e w11 ⟨rfl, hb⟩
  refine ⟨_, rfl, ?_⟩
  clear henv a; intro a henv
  replace hst := hst.call hb
  clear hb
  refine seq_step rfl (op_val (v := .tuple #[.slice none 0 0, .slice none 0 0, .int .i64 2]) henv rfl (rn_move henv rfl) ?_)
  clear henv a; intro a henv
  refine seq_step rfl (op_val (v := .slice none 0 0) henv rfl (rn_extract henv rfl rfl) ?_)
  clear henv a; intro a henv
  refine seq_step rfl (op_val (v := .slice none 0 0) henv rfl (rn_extract henv rfl rfl) ?_)
  clear henv a; intro a henv
  refine seq_step rfl (op_val (v := .int .i64 2) henv rfl (rn_extract henv rfl rfl) ?_)
  clear henv a; intro a henv
  refine seq_step rfl (op_val (v := .slice none 0 0) henv rfl (rn_assign henv rfl) ?_)
  clear henv a; intro a henv
  refine seq_step rfl (op_val (v := .slice none 0 0) henv rfl (rn_assign henv rfl) ?_)
  clear henv a; intro a henv
  refine seq_step rfl (op_val (v := .int .i64 2) henv rfl (rn_assign henv rfl) ?_)
  clear henv a; intro a henv
  refine wpList_nil ?_
  refine th_n ?_
  refine wp_seq ?_
  refine region_seq ?_
  refine seq_step rfl (op_val (v := .slice A5 n0 c6) henv rfl (rn_move henv rfl) ?_)
  clear henv a; intro a henv
  refine seq_step rfl (op_val (v := .int .u32 0) henv rfl (rn_move henv rfl) ?_)
  clear henv a; intro a henv
  refine seq_step rfl (op_call henv rfl Tryd.call39 rfl (divs_zero) ?_)
  rintro e w12 ⟨rfl, hb⟩
  refine ⟨_, rfl, ?_⟩
  clear henv a; intro a henv
  replace hst := hst.call hb
  clear hb
  refine seq_step rfl (op_val (v := .tuple #[.slice none 0 0, .int .u32 0, .int .i64 2]) henv rfl (rn_move henv rfl) ?_)
  clear henv a; intro a henv
  refine seq_step rfl (op_val (v := .slice none 0 0) henv rfl (rn_extract henv rfl rfl) ?_)
  clear henv a; intro a henv
  refine seq_step rfl (op_val (v := .int .u32 0) henv rfl (rn_extract henv rfl rfl) ?_)
  clear henv a; intro a henv
  refine seq_step rfl (op_val (v := .int .i64 2) henv rfl (rn_extract henv rfl rfl) ?_)
  clear henv a; intro a henv
  refine seq_step rfl (op_val (v := .slice none 0 0) henv rfl (rn_assign henv rfl) ?_)
  clear henv a; intro a henv
  refine seq_step rfl (op_val (v := .int .u32 0) henv rfl (rn_assign henv rfl) ?_)
  clear henv a; intro a henv
  refine seq_step rfl (op_val (v := .int .i64 2) henv rfl (rn_assign henv rfl) ?_)
  clear henv a; intro a henv
  refine wpList_nil ?_
  refine th_n ?_
  refine wp_seq ?_
  refine wp_seq ?_
  refine region_seq ?_
  refine seq_step rfl (op_val (v := .slice A5 n0 c6) henv rfl (rn_move henv rfl) ?_)
  clear henv a; intro a henv
  refine seq_step rfl (op_val (v := .slice A0 n0 c0) henv rfl (rn_move henv rfl) ?_)
  clear henv a; intro a henv
  refine seq_step rfl (op_call henv rfl Tryd.call48 rfl (kept_true (show U32 _ A5 (n0 + 2) c6 (xs0 ++ [77, 78]) from hst.pat (k := 3) rfl) (show U32 _ A0 n0 c0 xs0 from hst.pat (k := 5) rfl) (by omega)) ?_)
  rintro e w13 ⟨rfl, hb⟩
  refine ⟨_, rfl, ?_⟩
  clear henv a; intro a henv
  replace hst := hst.call hb
  clear hb
  refine seq_step rfl (op_val (v := .bool false) henv rfl (rn_un henv rfl rfl) ?_)
  clear henv a; intro a henv
  refine seq_step rfl (op_val (v := .bool false) henv rfl (rn_move henv rfl) ?_)
  clear henv a; intro a henv
  refine seq_g rfl henv rfl rfl (op_val (v := .slice A8 n1 c9) henv rfl (rn_move henv rfl) ?_)
  clear henv a; intro a henv
  refine seq_g rfl henv rfl rfl (op_val (v := .slice A1 n1 c1) henv rfl (rn_move henv rfl) ?_)
  clear henv a; intro a henv
  refine seq_g rfl henv rfl rfl (op_call henv rfl Tryd.call48 rfl (kept_true (show U32 _ A8 (n1 + 2) c9 (xs1 ++ [77, 78]) from hst.pat (k := 1) rfl) (show U32 _ A1 n1 c1 xs1 from hst.pat (k := 4) rfl) (by omega)) ?_)
  rintro e w14 ⟨rfl, hb⟩
  refine ⟨_, rfl, ?_⟩
  clear henv a; intro a henv
  replace hst := hst.call hb
  clear hb
  refine seq_g rfl henv rfl rfl (op_val (v := .bool false) henv rfl (rn_un henv rfl rfl) ?_)
  clear henv a; intro a henv
  refine seq_step rfl (op_val (v := .bool false) henv rfl (rn_pick henv rfl rfl) ?_)
  clear henv a; intro a henv
  refine wpList_nil ?_
  refine th_n ?_
  refine if_f henv rfl (rfl) ?_
  refine wp_skip ?_
  refine th_n ?_
  refine wp_seq ?_
  refine wp_seq ?_
  refine region_seq ?_
  refine seq_step rfl (op_val (v := .int .u32 0) henv rfl (rn_move henv rfl) ?_)
  clear henv a; intro a henv
  refine seq_step rfl (op_val (v := .bool true) henv rfl (rn_bin henv rfl rfl rfl) ?_)
  clear henv a; intro a henv
  refine wpList_nil ?_
  refine th_n ?_
  refine if_t henv rfl (rfl) ?_
  refine wp_seq ?_
  refine region_seq ?_
  refine seq_step rfl (op_val (v := .slice none 0 0) henv rfl (rn_move henv rfl) ?_)
  clear henv a; intro a henv
  refine seq_step rfl (op_val (v := .bool (!none.isNone)) henv rfl (rn_nilN henv Tryd.underlying22 rfl) ?_)
  clear henv a; intro a henv
  rw [show (!none.isNone) = false from rfl] at henv
  refine seq_step rfl (op_val (v := .bool false) henv rfl (rn_move henv rfl) ?_)
  clear henv a; intro a henv
  refine seq_g rfl henv rfl rfl (op_val (v := .int .u32 0) henv rfl (rn_move henv rfl) ?_)
  clear henv a; intro a henv
  refine seq_g rfl henv rfl rfl (op_val (v := .bool false) henv rfl (rn_bin henv rfl rfl rfl) ?_)
  clear henv a; intro a henv
  refine seq_step rfl (op_val (v := .bool false) henv rfl (rn_pick henv rfl rfl) ?_)
  clear henv a; intro a henv
  refine seq_step rfl (op_val (v := .bool false) henv rfl (rn_move henv rfl) ?_)
  clear henv a; intro a henv
  refine seq_g rfl henv rfl rfl (op_val (v := .int .i64 2) henv rfl (rn_move henv rfl) ?_)
  clear henv a; intro a henv
  refine seq_g rfl henv rfl rfl (op_val (v := .bool false) henv rfl (rn_bin henv rfl rfl rfl) ?_)
  clear henv a; intro a henv
  refine seq_step rfl (op_val (v := .bool false) henv rfl (rn_pick henv rfl rfl) ?_)
  clear henv a; intro a henv
  refine wpList_nil ?_
  refine th_n ?_
  refine if_f henv rfl (rfl) ?_
  refine wp_skip ?_
  refine th_n ?_
  refine wp_seq ?_
  refine wp_seq ?_
  refine region_seq ?_
  refine seq_step rfl (op_val (v := .slice A1 n1 c1) henv rfl (rn_move henv rfl) ?_)
  clear henv a; intro a henv
  have hst0 := hst
  refine seq_step rfl (op_call henv rfl Tryd.call52 rfl (r_norm_to (R := Y) (show U32 _ A1 n1 c1 xs1 from hst.pat (k := 4) rfl) (by omega) (by simp only [hX1])) ?_)
  rintro e w17 ⟨_, rfl, ⟨A15, c16, rfl, hU, hA⟩, hb⟩
  refine ⟨_, rfl, ?_⟩
  clear henv a; intro a henv
  replace hst := hst.freshU hb hU hA
  clear hU
  have hFA15 : ∀ a, A15 = some a → w0.heap.size ≤ a.block := fun a ha => Nat.le_trans hst0.below.size (hA a ha)
  clear hA hst0
  clear hb
  refine seq_step rfl (op_val (v := .int .i64 (nl Y : Nat)) henv rfl (rn_len henv Tryd.underlying22 rfl) ?_)
  clear henv a; intro a henv
  refine seq_step rfl (op_val (v := .bool (((nl Y : Nat) : Int) == (0 : Int))) henv rfl (rn_bin henv rfl rfl rfl) ?_)
  clear henv a; intro a henv
  rw [show (((nl Y : Nat) : Int) == (0 : Int)) = true from by rw [hY0, nl_zero]; rfl] at henv
  refine wpList_nil ?_
  refine th_n ?_
  refine if_t henv rfl (rfl) ?_
  refine wp_seq ?_
  refine region_seq ?_
  refine seq_step rfl (op_val (v := .slice none 0 0) henv rfl (rn_move henv rfl) ?_)
  clear henv a; intro a henv
  refine seq_step rfl (op_val (v := .bool none.isNone) henv rfl (rn_nilS henv Tryd.underlying22 rfl) ?_)
  clear henv a; intro a henv
  rw [show none.isNone = true from rfl] at henv
  refine seq_step rfl (op_val (v := .bool true) henv rfl (rn_move henv rfl) ?_)
  clear henv a; intro a henv
  refine seq_g rfl henv rfl rfl (op_val (v := .slice none 0 0) henv rfl (rn_move henv rfl) ?_)
  clear henv a; intro a henv
  refine seq_g rfl henv rfl rfl (op_val (v := .bool none.isNone) henv rfl (rn_nilS henv Tryd.underlying22 rfl) ?_)
  clear henv a; intro a henv
  rw [show none.isNone = true from rfl] at henv
  refine seq_step rfl (op_val (v := .bool true) henv rfl (rn_pick henv rfl rfl) ?_)
  clear henv a; intro a henv
  refine seq_step rfl (op_val (v := .bool true) henv rfl (rn_move henv rfl) ?_)
  clear henv a; intro a henv
  refine seq_g rfl henv rfl rfl (op_val (v := .int .i64 2) henv rfl (rn_move henv rfl) ?_)
  clear henv a; intro a henv
  refine seq_g rfl henv rfl rfl (op_val (v := .bool true) henv rfl (rn_bin henv rfl rfl rfl) ?_)
  clear henv a; intro a henv
  refine seq_step rfl (op_val (v := .bool true) henv rfl (rn_pick henv rfl rfl) ?_)
  clear henv a; intro a henv
  refine seq_step rfl (op_val (v := .bool true) henv rfl (rn_assign henv rfl) ?_)
  clear henv a; intro a henv
  refine wpList_nil ?_
  refine th_n ?_
  refine wp_ret ?_
  refine th_r ?_
  refine leave henv (res1 Tryd.results10 (RV.tmp henv rfl)) ?_
  exact ⟨rfl, hst.below⟩

set_option maxRecDepth 100000 in
set_option maxHeartbeats 4000000 in
theorem divides_01 {A0 : Option Addr} {n0 c0 : Nat} {xs0 : List Nat} {A1 : Option Addr} {n1 c1 : Nat} {xs1 : List Nat} {w0 : World} (u0 : U32 w0 A0 n0 c0 xs0) (u1 : U32 w0 A1 n1 c1 xs1) (hn0 : n0 ≤ 160) (hn1 : n1 ≤ 160) (hY : val 4294967296 xs1 ≠ 0) :
    Calls Tryd.prog 10 #[.slice A0 n0 c0, .slice A1 n1 c1, .int .u32 0] w0 fun e w' => e = .returned (.bool true) ∧ Below w0.heap.size w0 w' := by
  obtain ⟨X, hX0⟩ : ∃ z, val 4294967296 xs0 = z := ⟨_, rfl⟩
  have hl0 : nl X ≤ n0 := hX0 ▸ nl_val u0
  have hxl0 := u0.len
  obtain ⟨Y, hX1⟩ : ∃ z, val 4294967296 xs1 = z := ⟨_, rfl⟩
  have hl1 : nl Y ≤ n1 := hX1 ▸ nl_val u1
  have hxl1 := u1.len
  have hY0 : Y ≠ 0 := hX1 ▸ hY
  refine enter Tryd.func10 rfl Tryd.ntmps10 rfl ?_
  intro a henv hst
  replace hst := ((hst.addU u0 trivial).addU u1 trivial)
  clear u0 u1
  refine wp_seq ?_
  refine region_seq ?_
  refine seq_step rfl (op_val (v := .bool false) henv rfl (rn_assign henv rfl) ?_)
  clear henv a; intro a henv
  refine wpList_nil ?_
  refine th_n ?_
  refine wp_seq ?_
  refine wp_seq ?_
  refine region_seq ?_
  refine seq_step rfl (op_call henv rfl Tryd.call32 rfl (works_true _) ?_)
  rintro e w1 ⟨rfl, hb⟩
  refine ⟨_, rfl, ?_⟩
  clear henv a; intro a henv
  replace hst := hst.call hb
  clear hb
  refine seq_step rfl (op_val (v := .bool false) henv rfl (rn_un henv rfl rfl) ?_)
  clear henv a; intro a henv
  refine wpList_nil ?_
  refine th_n ?_
  refine if_f henv rfl (rfl) ?_
  refine wp_skip ?_
  refine th_n ?_
  refine wp_seq ?_
  refine wp_seq ?_
  refine region_seq ?_
  refine seq_step rfl (op_val (v := .slice A0 n0 c0) henv rfl (rn_move henv rfl) ?_)
  clear henv a; intro a henv
  refine seq_step rfl (op_val (v := .slice A1 n1 c1) henv rfl (rn_move henv rfl) ?_)
  clear henv a; intro a henv
  refine seq_step rfl (op_buildSlice (z := 1) (pv := #[(0, .slice A0 n0 c0), (1, .slice A1 n1 c1)]) (c := #[.slice A0 n0 c0, .slice A1 n1 c1]) henv hst rfl Tryd.underlying107 (ty__uint32.size) zero__uint32 (by decide) (by decide) rfl (by kernel_rfl) ?_)
  clear henv hst a; intro a w3 g2 henv hst
  refine seq_step rfl (op_call henv rfl Tryd.call50 rfl (long_sh (q := 2) (ls := [(A0, n0, c0), (A1, n1, c1)]) (hst.oat (k := 0) rfl) rfl (by decide) (by intro p hp; simp at hp; rcases hp with rfl | rfl <;> assumption)) ?_)
  rintro e w4 ⟨rfl, hb⟩
  refine ⟨_, rfl, ?_⟩
  clear henv a; intro a henv
  replace hst := hst.call hb
  clear hb
  refine wpList_nil ?_
  refine th_n ?_
  refine if_f henv rfl (rfl) ?_
  refine wp_skip ?_
  refine th_n ?_
  refine wp_seq ?_
  refine region_seq ?_
  refine seq_step rfl (op_val (v := .slice A0 n0 c0) henv rfl (rn_move henv rfl) ?_)
  clear henv a; intro a henv
  refine seq_step rfl (op_call henv rfl Tryd.call46 rfl (room_any (show U32 _ A0 n0 c0 xs0 from hst.pat (k := 1) rfl) (by omega)) ?_)
  rintro e w7 ⟨A5, c6, rfl, hU, hA, hb⟩
  refine ⟨_, rfl, ?_⟩
  clear henv a; intro a henv
  replace hst := hst.freshU2 hb hU hA (U32.pre hU hxl0) hA
  clear hU
  clear hA
  clear hb
  refine seq_step rfl (op_val (v := .slice A1 n1 c1) henv rfl (rn_move henv rfl) ?_)
  clear henv a; intro a henv
  refine seq_step rfl (op_call henv rfl Tryd.call46 rfl (room_any (show U32 _ A1 n1 c1 xs1 from hst.pat (k := 2) rfl) (by omega)) ?_)
  rintro e w10 ⟨A8, c9, rfl, hU, hA, hb⟩
  refine ⟨_, rfl, ?_⟩
  clear henv a; intro a henv
  replace hst := hst.freshU2 hb hU hA (U32.pre hU hxl1) hA
  clear hU
  clear hA
  clear hb
  refine seq_step rfl (op_val (v := .slice A5 n0 c6) henv rfl (rn_assign henv rfl) ?_)
  clear henv a; intro a henv
  refine seq_step rfl (op_val (v := .slice A8 n1 c9) henv rfl (rn_assign henv rfl) ?_)
  clear henv a; intro a henv
  refine wpList_nil ?_
  refine th_n ?_
  refine wp_seq ?_
  refine region_seq ?_
  refine seq_step rfl (op_val (v := .slice A5 n0 c6) henv rfl (rn_move henv rfl) ?_)
  clear henv a; intro a henv
  refine seq_step rfl (op_val (v := .slice A8 n1 c9) henv rfl (rn_move henv rfl) ?_)
  clear henv a; intro a henv
  have hs11 := nl_div X Y
  have hs12 := nl_mod X Y
  refine seq_step rfl (op_call henv rfl Tryd.call33 rfl (dm_num (N := X) (M := Y) ⟨_, (show U32 _ A5 n0 c6 xs0 from hst.pat (k := 2) rfl), hX0⟩ ⟨_, (show U32 _ A8 n1 c9 xs1 from hst.pat (k := 0) rfl), hX1⟩ (by omega) (by omega)) ?_)
  rintro e w17 ⟨_, _, rfl, ⟨A13, c14, rfl, hU, hA⟩, ⟨A15, c16, rfl, hV, hB⟩, hb⟩
  refine ⟨_, rfl, ?_⟩
  clear henv a; intro a henv
  replace hst := hst.freshU2 hb hU hA hV hB
  clear hU
  clear hA hV hB
  clear hb
  refine seq_step rfl (op_val (v := .tuple #[.slice A13 (nl (X / Y)) c14, .slice A15 (nl (X % Y)) c16, .int .i64 0]) henv rfl (rn_move henv rfl) ?_)
  clear henv a; intro a henv
  refine seq_step rfl (op_val (v := .slice A13 (nl (X / Y)) c14) henv rfl (rn_extract henv rfl rfl) ?_)
  clear henv a; intro a henv
  refine seq_step rfl (op_val (v := .slice A15 (nl (X % Y)) c16) henv rfl (rn_extract henv rfl rfl) ?_)
  clear henv a; intro a henv
  refine seq_step rfl (op_val (v := .int .i64 0) henv rfl (rn_extract henv rfl rfl) ?_)
  clear henv a; intro a henv
  refine seq_step rfl (op_val (v := .slice A13 (nl (X / Y)) c14) henv rfl (rn_assign henv rfl) ?_)
  clear henv a; intro a henv
  refine seq_step rfl (op_val (v := .slice A15 (nl (X % Y)) c16) henv rfl (rn_assign henv rfl) ?_)
  clear henv a; intro a henv
  refine seq_step rfl (op_val (v := .int .i64 0) henv rfl (rn_assign henv rfl) ?_)
  clear henv a; intro a henv
  refine wpList_nil ?_
  refine th_n ?_
  refine wp_seq ?_
  refine region_seq ?_
  refine seq_step rfl (op_val (v := .slice A5 n0 c6) henv rfl (rn_move henv rfl) ?_)
  clear henv a; intro a henv
  refine seq_step rfl (op_val (v := .int .u32 0) henv rfl (rn_move henv rfl) ?_)
  clear henv a; intro a henv
  refine seq_step rfl (op_call henv rfl Tryd.call39 rfl (divs_zero) ?_)
  rintro e w18 ⟨rfl, hb⟩
  refine ⟨_, rfl, ?_⟩
  clear henv a; intro a henv
  replace hst := hst.call hb
  clear hb
  refine seq_step rfl (op_val (v := .tuple #[.slice none 0 0, .int .u32 0, .int .i64 2]) henv rfl (rn_move henv rfl) ?_)
  clear henv a; intro a henv
  refine seq_step rfl (op_val (v := .slice none 0 0) henv rfl (rn_extract henv rfl rfl) ?_)
  clear henv a; intro a henv
  refine seq_step rfl (op_val (v := .int .u32 0) henv rfl (rn_extract henv rfl rfl) ?_)
  clear henv a; intro a henv
  refine seq_step rfl (op_val (v := .int .i64 2) henv rfl (rn_extract henv rfl rfl) ?_)
  clear henv a; intro a henv
  refine seq_step rfl (op_val (v := .slice none 0 0) henv rfl (rn_assign henv rfl) ?_)
  clear henv a; intro a henv
  refine seq_step rfl (op_val (v := .int .u32 0) henv rfl (rn_assign henv rfl) ?_)
  clear henv a; intro a henv
  refine seq_step rfl (op_val (v := .int .i64 2) henv rfl (rn_assign henv rfl) ?_)
  clear henv a; intro a henv
  refine wpList_nil ?_
  refine th_n ?_
  refine wp_seq ?_
  refine wp_seq ?_
  refine region_seq ?_
  refine seq_step rfl (op_val (v := .slice A5 n0 c6) henv rfl (rn_move henv rfl) ?_)
  clear henv a; intro a henv
  refine seq_step rfl (op_val (v := .slice A0 n0 c0) henv rfl (rn_move henv rfl) ?_)
  clear henv a; intro a henv
  refine seq_step rfl (op_call henv rfl Tryd.call48 rfl (kept_true (show U32 _ A5 (n0 + 2) c6 (xs0 ++ [77, 78]) from hst.pat (k := 5) rfl) (show U32 _ A0 n0 c0 xs0 from hst.pat (k := 7) rfl) (by omega)) ?_)
  rintro e w19 ⟨rfl, hb⟩
  refine ⟨_, rfl, ?_⟩
  clear henv a; intro a henv
  replace hst := hst.call hb
  clear hb
  refine seq_step rfl (op_val (v := .bool false) henv rfl (rn_un henv rfl rfl) ?_)
  clear henv a; intro a henv
  refine seq_step rfl (op_val (v := .bool false) henv rfl (rn_move henv rfl) ?_)
  clear henv a; intro a henv
  refine seq_g rfl henv rfl rfl (op_val (v := .slice A8 n1 c9) henv rfl (rn_move henv rfl) ?_)
  clear henv a; intro a henv
  refine seq_g rfl henv rfl rfl (op_val (v := .slice A1 n1 c1) henv rfl (rn_move henv rfl) ?_)
  clear henv a; intro a henv
  refine seq_g rfl henv rfl rfl (op_call henv rfl Tryd.call48 rfl (kept_true (show U32 _ A8 (n1 + 2) c9 (xs1 ++ [77, 78]) from hst.pat (k := 3) rfl) (show U32 _ A1 n1 c1 xs1 from hst.pat (k := 6) rfl) (by omega)) ?_)
  rintro e w20 ⟨rfl, hb⟩
  refine ⟨_, rfl, ?_⟩
  clear henv a; intro a henv
  replace hst := hst.call hb
  clear hb
  refine seq_g rfl henv rfl rfl (op_val (v := .bool false) henv rfl (rn_un henv rfl rfl) ?_)
  clear henv a; intro a henv
  refine seq_step rfl (op_val (v := .bool false) henv rfl (rn_pick henv rfl rfl) ?_)
  clear henv a; intro a henv
  refine wpList_nil ?_
  refine th_n ?_
  refine if_f henv rfl (rfl) ?_
  refine wp_skip ?_
  refine th_n ?_
  refine wp_seq ?_
  refine wp_seq ?_
  refine region_seq ?_
  refine seq_step rfl (op_val (v := .int .u32 0) henv rfl (rn_move henv rfl) ?_)
  clear henv a; intro a henv
  refine seq_step rfl (op_val (v := .bool true) henv rfl (rn_bin henv rfl rfl rfl) ?_)
  clear henv a; intro a henv
  refine wpList_nil ?_
  refine th_n ?_
  refine if_t henv rfl (rfl) ?_
  refine wp_seq ?_
  refine region_seq ?_
  refine seq_step rfl (op_val (v := .slice none 0 0) henv rfl (rn_move henv rfl) ?_)
  clear henv a; intro a henv
  refine seq_step rfl (op_val (v := .bool (!none.isNone)) henv rfl (rn_nilN henv Tryd.underlying22 rfl) ?_)
  clear henv a; intro a henv
  rw [show (!none.isNone) = false from rfl] at henv
  refine seq_step rfl (op_val (v := .bool false) henv rfl (rn_move henv rfl) ?_)
  clear henv a; intro a henv
  refine seq_g rfl henv rfl rfl (op_val (v := .int .u32 0) henv rfl (rn_move henv rfl) ?_)
  clear henv a; intro a henv
  refine seq_g rfl henv rfl rfl (op_val (v := .bool false) henv rfl (rn_bin henv rfl rfl rfl) ?_)
  clear henv a; intro a henv
  refine seq_step rfl (op_val (v := .bool false) henv rfl (rn_pick henv rfl rfl) ?_)
  clear henv a; intro a henv
  refine seq_step rfl (op_val (v := .bool false) henv rfl (rn_move henv rfl) ?_)
  clear henv a; intro a henv
  refine seq_g rfl henv rfl rfl (op_val (v := .int .i64 2) henv rfl (rn_move henv rfl) ?_)
  clear henv a; intro a henv
  refine seq_g rfl henv rfl rfl (op_val (v := .bool false) henv rfl (rn_bin henv rfl rfl rfl) ?_)
  clear henv a; intro a henv
  refine seq_step rfl (op_val (v := .bool false) henv rfl (rn_pick henv rfl rfl) ?_)
  clear henv a; intro a henv
  refine wpList_nil ?_
  refine th_n ?_
  refine if_f henv rfl (rfl) ?_
  refine wp_skip ?_
  refine th_n ?_
  refine wp_seq ?_
  refine wp_seq ?_
  refine region_seq ?_
  refine seq_step rfl (op_val (v := .slice A1 n1 c1) henv rfl (rn_move henv rfl) ?_)
  clear henv a; intro a henv
  have hst0 := hst
  refine seq_step rfl (op_call henv rfl Tryd.call52 rfl (r_norm_to (R := Y) (show U32 _ A1 n1 c1 xs1 from hst.pat (k := 6) rfl) (by omega) (by simp only [hX1])) ?_)
  rintro e w23 ⟨_, rfl, ⟨A21, c22, rfl, hU, hA⟩, hb⟩
  refine ⟨_, rfl, ?_⟩
  clear henv a; intro a henv
  replace hst := hst.freshU hb hU hA
  clear hU
  have hFA21 : ∀ a, A21 = some a → w0.heap.size ≤ a.block := fun a ha => Nat.le_trans hst0.below.size (hA a ha)
  clear hA hst0
  clear hb
  refine seq_step rfl (op_val (v := .int .i64 (nl Y : Nat)) henv rfl (rn_len henv Tryd.underlying22 rfl) ?_)
  clear henv a; intro a henv
  refine seq_step rfl (op_val (v := .bool (((nl Y : Nat) : Int) == (0 : Int))) henv rfl (rn_bin henv rfl rfl rfl) ?_)
  clear henv a; intro a henv
  rw [show (((nl Y : Nat) : Int) == (0 : Int)) = false from by have := nl_pos (N := Y) (by omega); simp; omega] at henv
  refine wpList_nil ?_
  refine th_n ?_
  refine if_f henv rfl (rfl) ?_
  refine wp_skip ?_
  refine th_n ?_
  refine wp_seq ?_
  refine region_seq ?_
  refine seq_step rfl (op_val (v := .slice A0 n0 c0) henv rfl (rn_move henv rfl) ?_)
  clear henv a; intro a henv
  refine seq_step rfl (op_val (v := .slice A1 n1 c1) henv rfl (rn_move henv rfl) ?_)
  clear henv a; intro a henv
  have hs24 := nl_div X Y
  have hs25 := nl_mod X Y
  refine seq_step rfl (op_call henv rfl Tryd.call51 rfl (r_dm (N := X) (M := Y) (show U32 _ A0 n0 c0 xs0 from hst.pat (k := 8) rfl) (show U32 _ A1 n1 c1 xs1 from hst.pat (k := 7) rfl) hX0 hX1 (by omega) (by omega) (by omega)) ?_)
  rintro e w30 ⟨_, _, rfl, ⟨A26, c27, rfl, hU, hA⟩, ⟨A28, c29, rfl, hV, hB⟩, hb⟩
  refine ⟨_, rfl, ?_⟩
  clear henv a; intro a henv
  replace hst := hst.freshU2 hb hU hA hV hB
  clear hU
  clear hA hV hB
  clear hb
  refine seq_step rfl (op_val (v := .tuple #[.slice A26 (nl (X / Y)) c27, .slice A28 (nl (X % Y)) c29]) henv rfl (rn_move henv rfl) ?_)
  clear henv a; intro a henv
  refine seq_step rfl (op_val (v := .slice A26 (nl (X / Y)) c27) henv rfl (rn_extract henv rfl rfl) ?_)
  clear henv a; intro a henv
  refine seq_step rfl (op_val (v := .slice A28 (nl (X % Y)) c29) henv rfl (rn_extract henv rfl rfl) ?_)
  clear henv a; intro a henv
  refine seq_step rfl (op_val (v := .slice A26 (nl (X / Y)) c27) henv rfl (rn_assign henv rfl) ?_)
  clear henv a; intro a henv
  refine seq_step rfl (op_val (v := .slice A28 (nl (X % Y)) c29) henv rfl (rn_assign henv rfl) ?_)
  clear henv a; intro a henv
  refine wpList_nil ?_
  refine th_n ?_
  refine wp_seq ?_
  refine region_seq ?_
  refine seq_step rfl (op_val (v := .slice A13 (nl (X / Y)) c14) henv rfl (rn_move henv rfl) ?_)
  clear henv a; intro a henv
  refine seq_step rfl (op_val (v := .slice A26 (nl (X / Y)) c27) henv rfl (rn_move henv rfl) ?_)
  clear henv a; intro a henv
  refine seq_step rfl (op_call henv rfl Tryd.call36 rfl (equal_u (show U32 _ A13 (nl (X / Y)) c14 (L (X / Y)) from hst.pat (k := 4) rfl) (show U32 _ A26 (nl (X / Y)) c27 (L (X / Y)) from hst.pat (k := 1) rfl)) ?_)
  rintro e w31 ⟨rfl, hb⟩
  refine ⟨_, rfl, ?_⟩
  clear henv a; intro a henv
  replace hst := hst.call hb
  clear hb
  rw [show (decide ((L (X / Y)) = (L (X / Y)))) = true from by rw [L_dec]; exact decide_eq_true (by first | rfl | omega | exact Nat.add_comm _ _ | exact Nat.mul_comm _ _ | exact Nat.add_assoc _ _ _ | exact (Nat.add_assoc _ _ _).symm | exact Nat.mul_assoc _ _ _ | exact (Nat.mul_assoc _ _ _).symm | exact Nat.mul_add _ _ _)] at henv
  refine seq_step rfl (op_val (v := .bool true) henv rfl (rn_move henv rfl) ?_)
  clear henv a; intro a henv
  refine seq_g rfl henv rfl rfl (op_val (v := .slice A15 (nl (X % Y)) c16) henv rfl (rn_move henv rfl) ?_)
  clear henv a; intro a henv
  refine seq_g rfl henv rfl rfl (op_val (v := .slice A28 (nl (X % Y)) c29) henv rfl (rn_move henv rfl) ?_)
  clear henv a; intro a henv
  refine seq_g rfl henv rfl rfl (op_call henv rfl Tryd.call36 rfl (equal_u (show U32 _ A15 (nl (X % Y)) c16 (L (X % Y)) from hst.pat (k := 3) rfl) (show U32 _ A28 (nl (X % Y)) c29 (L (X % Y)) from hst.pat (k := 0) rfl)) ?_)
  rintro e w32 ⟨rfl, hb⟩
  refine ⟨_, rfl, ?_⟩
  clear henv a; intro a henv
  replace hst := hst.call hb
  clear hb
  rw [show (decide ((L (X % Y)) = (L (X % Y)))) = true from by rw [L_dec]; exact decide_eq_true (by first | rfl | omega | exact Nat.add_comm _ _ | exact Nat.mul_comm _ _ | exact Nat.add_assoc _ _ _ | exact (Nat.add_assoc _ _ _).symm | exact Nat.mul_assoc _ _ _ | exact (Nat.mul_assoc _ _ _).symm | exact Nat.mul_add _ _ _)] at henv
  refine seq_step rfl (op_val (v := .bool true) henv rfl (rn_pick henv rfl rfl) ?_)
  clear henv a; intro a henv
  refine seq_step rfl (op_val (v := .bool true) henv rfl (rn_move henv rfl) ?_)
  clear henv a; intro a henv
  refine seq_g rfl henv rfl rfl (op_val (v := .int .i64 0) henv rfl (rn_move henv rfl) ?_)
  clear henv a; intro a henv
  refine seq_g rfl henv rfl rfl (op_val (v := .bool true) henv rfl (rn_bin henv rfl rfl rfl) ?_)
  clear henv a; intro a henv
  refine seq_step rfl (op_val (v := .bool true) henv rfl (rn_pick henv rfl rfl) ?_)
  clear henv a; intro a henv
  refine seq_step rfl (op_val (v := .bool true) henv rfl (rn_assign henv rfl) ?_)
  clear henv a; intro a henv
  refine wpList_nil ?_
  refine th_n ?_
  refine wp_ret ?_
  refine leave henv (res1 Tryd.results10 (RV.tmp henv rfl)) ?_
  exact ⟨rfl, hst.below⟩

set_option maxRecDepth 100000 in
set_option maxHeartbeats 4000000 in
theorem divides_10 {A0 : Option Addr} {n0 c0 : Nat} {xs0 : List Nat} {A1 : Option Addr} {n1 c1 : Nat} {xs1 : List Nat} {q : Nat} {w0 : World} (u0 : U32 w0 A0 n0 c0 xs0) (u1 : U32 w0 A1 n1 c1 xs1) (hn0 : n0 ≤ 160) (hn1 : n1 ≤ 160) (hq : q < 4294967296) (hq0 : q ≠ 0) (hY : val 4294967296 xs1 = 0) :
    Calls Tryd.prog 10 #[.slice A0 n0 c0, .slice A1 n1 c1, .int .u32 (q : Nat)] w0 fun e w' => e = .returned (.bool true) ∧ Below w0.heap.size w0 w' := by
  obtain ⟨X, hX0⟩ : ∃ z, val 4294967296 xs0 = z := ⟨_, rfl⟩
  have hl0 : nl X ≤ n0 := hX0 ▸ nl_val u0
  have hxl0 := u0.len
  obtain ⟨Y, hX1⟩ : ∃ z, val 4294967296 xs1 = z := ⟨_, rfl⟩
  have hl1 : nl Y ≤ n1 := hX1 ▸ nl_val u1
  have hxl1 := u1.len
  have hY0 : Y = 0 := hX1 ▸ hY
  have hm := Nat.mod_lt X (show 0 < q by omega)
  have hnm : nl (X % q) ≤ 1 := nl_le_of_lt (by omega)
  have hnq : nl q ≤ 1 := nl_le_of_lt (by omega)
  refine enter Tryd.func10 rfl Tryd.ntmps10 rfl ?_
  intro a henv hst
  replace hst := ((hst.addU u0 trivial).addU u1 trivial)
  clear u0 u1
  refine wp_seq ?_
  refine region_seq ?_
  refine seq_step rfl (op_val (v := .bool false) henv rfl (rn_assign henv rfl) ?_)
  clear henv a; intro a henv
  refine wpList_nil ?_
  refine th_n ?_
  refine wp_seq ?_
  refine wp_seq ?_
  refine region_seq ?_
  refine seq_step rfl (op_call henv rfl Tryd.call32 rfl (works_true _) ?_)
  rintro e w1 ⟨rfl, hb⟩
  refine ⟨_, rfl, ?_⟩
  clear henv a; intro a henv
  replace hst := hst.call hb
  clear hb
  refine seq_step rfl (op_val (v := .bool false) henv rfl (rn_un henv rfl rfl) ?_)
  clear henv a; intro a henv
  refine wpList_nil ?_
  refine th_n ?_
  refine if_f henv rfl (rfl) ?_
  refine wp_skip ?_
  refine th_n ?_
  refine wp_seq ?_
  refine wp_seq ?_
  refine region_seq ?_
  refine seq_step rfl (op_val (v := .slice A0 n0 c0) henv rfl (rn_move henv rfl) ?_)
  clear henv a; intro a henv
  refine seq_step rfl (op_val (v := .slice A1 n1 c1) henv rfl (rn_move henv rfl) ?_)
  clear henv a; intro a henv
  refine seq_step rfl (op_buildSlice (z := 1) (pv := #[(0, .slice A0 n0 c0), (1, .slice A1 n1 c1)]) (c := #[.slice A0 n0 c0, .slice A1 n1 c1]) henv hst rfl Tryd.underlying107 (ty__uint32.size) zero__uint32 (by decide) (by decide) rfl (by kernel_rfl) ?_)
  clear henv hst a; intro a w3 g2 henv hst
  refine seq_step rfl (op_call henv rfl Tryd.call50 rfl (long_sh (q := 2) (ls := [(A0, n0, c0), (A1, n1, c1)]) (hst.oat (k := 0) rfl) rfl (by decide) (by intro p hp; simp at hp; rcases hp with rfl | rfl <;> assumption)) ?_)
  rintro e w4 ⟨rfl, hb⟩
  refine ⟨_, rfl, ?_⟩
  clear henv a; intro a henv
  replace hst := hst.call hb
  clear hb
  refine wpList_nil ?_
  refine th_n ?_
  refine if_f henv rfl (rfl) ?_
  refine wp_skip ?_
  refine th_n ?_
  refine wp_seq ?_
  refine region_seq ?_
  refine seq_step rfl (op_val (v := .slice A0 n0 c0) henv rfl (rn_move henv rfl) ?_)
  clear henv a; intro a henv
  refine seq_step rfl (op_call henv rfl Tryd.call46 rfl (room_any (show U32 _ A0 n0 c0 xs0 from hst.pat (k := 1) rfl) (by omega)) ?_)
  rintro e w7 ⟨A5, c6, rfl, hU, hA, hb⟩
  refine ⟨_, rfl, ?_⟩
  clear henv a; intro a henv
  replace hst := hst.freshU2 hb hU hA (U32.pre hU hxl0) hA
  clear hU
  clear hA
  clear hb
  refine seq_step rfl (op_val (v := .slice A1 n1 c1) henv rfl (rn_move henv rfl) ?_)
  clear henv a; intro a henv
  refine seq_step rfl (op_call henv rfl Tryd.call46 rfl (room_any (show U32 _ A1 n1 c1 xs1 from hst.pat (k := 2) rfl) (by omega)) ?_)
  rintro e w10 ⟨A8, c9, rfl, hU, hA, hb⟩
  refine ⟨_, rfl, ?_⟩
  clear henv a; intro a henv
  replace hst := hst.freshU2 hb hU hA (U32.pre hU hxl1) hA
  clear hU
  clear hA
  clear hb
  refine seq_step rfl (op_val (v := .slice A5 n0 c6) henv rfl (rn_assign henv rfl) ?_)
  clear henv a; intro a henv
  refine seq_step rfl (op_val (v := .slice A8 n1 c9) henv rfl (rn_assign henv rfl) ?_)
  clear henv a; intro a henv
  refine wpList_nil ?_
  refine th_n ?_
  refine wp_seq ?_
  refine region_seq ?_
  refine seq_step rfl (op_val (v := .slice A5 n0 c6) henv rfl (rn_move henv rfl) ?_)
  clear henv a; intro a henv
  refine seq_step rfl (op_val (v := .slice A8 n1 c9) henv rfl (rn_move henv rfl) ?_)
  clear henv a; intro a henv
  refine seq_step rfl (op_call henv rfl Tryd.call33 rfl (dm_zero ⟨_, (show U32 _ A8 n1 c9 xs1 from hst.pat (k := 0) rfl), (hX1.trans hY0)⟩) ?_)
  rintro e w11 ⟨rfl, hb⟩
  refine ⟨_, rfl, ?_⟩
  clear henv a; intro a henv
  replace hst := hst.call hb
  clear hb
  refine seq_step rfl (op_val (v := .tuple #[.slice none 0 0, .slice none 0 0, .int .i64 2]) henv rfl (rn_move henv rfl) ?_)
  clear henv a; intro a henv
  refine seq_step rfl (op_val (v := .slice none 0 0) henv rfl (rn_extract henv rfl rfl) ?_)
  clear henv a; intro a henv
  refine seq_step rfl (op_val (v := .slice none 0 0) henv rfl (rn_extract henv rfl rfl) ?_)
  clear henv a; intro a henv
  refine seq_step rfl (op_val (v := .int .i64 2) henv rfl (rn_extract henv rfl rfl) ?_)
  clear henv a; intro a henv
  refine seq_step rfl (op_val (v := .slice none 0 0) henv rfl (rn_assign henv rfl) ?_)
  clear henv a; intro a henv
  refine seq_step rfl (op_val (v := .slice none 0 0) henv rfl (rn_assign henv rfl) ?_)
  clear henv a; intro a henv
  refine seq_step rfl (op_val (v := .int .i64 2) henv rfl (rn_assign henv rfl) ?_)
  clear henv a; intro a henv
  refine wpList_nil ?_
  refine th_n ?_
  refine wp_seq ?_
  refine region_seq ?_
  refine seq_step rfl (op_val (v := .slice A5 n0 c6) henv rfl (rn_move henv rfl) ?_)
  clear henv a; intro a henv
  refine seq_step rfl (op_val (v := .int .u32 (q : Nat)) henv rfl (rn_move henv rfl) ?_)
  clear henv a; intro a henv
  have hs12 := nl_div X q
  refine seq_step rfl (op_call henv rfl Tryd.call39 rfl (divs_num (N := X) (q := q) ⟨_, (show U32 _ A5 n0 c6 xs0 from hst.pat (k := 2) rfl), hX0⟩ (by omega) (by omega) (by omega)) ?_)
  rintro e w15 ⟨_, rfl, ⟨A13, c14, rfl, hU, hA⟩, hb⟩
  refine ⟨_, rfl, ?_⟩
  clear henv a; intro a henv
  replace hst := hst.freshU hb hU hA
  clear hU
  clear hA
  clear hb
  refine seq_step rfl (op_val (v := .tuple #[.slice A13 (nl (X / q)) c14, .int .u32 (X % q : Nat), .int .i64 0]) henv rfl (rn_move henv rfl) ?_)
  clear henv a; intro a henv
  refine seq_step rfl (op_val (v := .slice A13 (nl (X / q)) c14) henv rfl (rn_extract henv rfl rfl) ?_)
  clear henv a; intro a henv
  refine seq_step rfl (op_val (v := .int .u32 (X % q : Nat)) henv rfl (rn_extract henv rfl rfl) ?_)
  clear henv a; intro a henv
  refine seq_step rfl (op_val (v := .int .i64 0) henv rfl (rn_extract henv rfl rfl) ?_)
  clear henv a; intro a henv
  refine seq_step rfl (op_val (v := .slice A13 (nl (X / q)) c14) henv rfl (rn_assign henv rfl) ?_)
  clear henv a; intro a henv
  refine seq_step rfl (op_val (v := .int .u32 (X % q : Nat)) henv rfl (rn_assign henv rfl) ?_)
  clear henv a; intro a henv
  refine seq_step rfl (op_val (v := .int .i64 0) henv rfl (rn_assign henv rfl) ?_)
  clear henv a; intro a henv
  refine wpList_nil ?_
  refine th_n ?_
  refine wp_seq ?_
  refine wp_seq ?_
  refine region_seq ?_
  refine seq_step rfl (op_val (v := .slice A5 n0 c6) henv rfl (rn_move henv rfl) ?_)
  clear henv a; intro a henv
  refine seq_step rfl (op_val (v := .slice A0 n0 c0) henv rfl (rn_move henv rfl) ?_)
  clear henv a; intro a henv
  refine seq_step rfl (op_call henv rfl Tryd.call48 rfl (kept_true (show U32 _ A5 (n0 + 2) c6 (xs0 ++ [77, 78]) from hst.pat (k := 4) rfl) (show U32 _ A0 n0 c0 xs0 from hst.pat (k := 6) rfl) (by omega)) ?_)
  rintro e w16 ⟨rfl, hb⟩
  refine ⟨_, rfl, ?_⟩
  clear henv a; intro a henv
  replace hst := hst.call hb
  clear hb
  refine seq_step rfl (op_val (v := .bool false) henv rfl (rn_un henv rfl rfl) ?_)
  clear henv a; intro a henv
  refine seq_step rfl (op_val (v := .bool false) henv rfl (rn_move henv rfl) ?_)
  clear henv a; intro a henv
  refine seq_g rfl henv rfl rfl (op_val (v := .slice A8 n1 c9) henv rfl (rn_move henv rfl) ?_)
  clear henv a; intro a henv
  refine seq_g rfl henv rfl rfl (op_val (v := .slice A1 n1 c1) henv rfl (rn_move henv rfl) ?_)
  clear henv a; intro a henv
  refine seq_g rfl henv rfl rfl (op_call henv rfl Tryd.call48 rfl (kept_true (show U32 _ A8 (n1 + 2) c9 (xs1 ++ [77, 78]) from hst.pat (k := 2) rfl) (show U32 _ A1 n1 c1 xs1 from hst.pat (k := 5) rfl) (by omega)) ?_)
  rintro e w17 ⟨rfl, hb⟩
  refine ⟨_, rfl, ?_⟩
  clear henv a; intro a henv
  replace hst := hst.call hb
  clear hb
  refine seq_g rfl henv rfl rfl (op_val (v := .bool false) henv rfl (rn_un henv rfl rfl) ?_)
  clear henv a; intro a henv
  refine seq_step rfl (op_val (v := .bool false) henv rfl (rn_pick henv rfl rfl) ?_)
  clear henv a; intro a henv
  refine wpList_nil ?_
  refine th_n ?_
  refine if_f henv rfl (rfl) ?_
  refine wp_skip ?_
  refine th_n ?_
  refine wp_seq ?_
  refine wp_seq ?_
  refine region_seq ?_
  refine seq_step rfl (op_val (v := .int .u32 (q : Nat)) henv rfl (rn_move henv rfl) ?_)
  clear henv a; intro a henv
  refine seq_step rfl (op_val (v := .bool (((q : Nat) : Int) == (0 : Int))) henv rfl (rn_bin henv rfl rfl rfl) ?_)
  clear henv a; intro a henv
  rw [show (((q : Nat) : Int) == (0 : Int)) = false from by simp; omega] at henv
  refine wpList_nil ?_
  refine th_n ?_
  refine if_f henv rfl (rfl) ?_
  refine wp_seq ?_
  refine region_seq ?_
  refine seq_step rfl (op_val (v := .slice A0 n0 c0) henv rfl (rn_move henv rfl) ?_)
  clear henv a; intro a henv
  refine seq_step rfl (op_val (v := .int .u32 (q : Nat)) henv rfl (rn_move henv rfl) ?_)
  clear henv a; intro a henv
  refine seq_step rfl (op_buildSlice (z := 1) (pv := #[(0, .int .u32 (q : Nat))]) (c := #[.int .u32 (q : Nat)]) henv hst rfl Tryd.underlying22 (ty_uint32.size) zero_uint32 (by decide) (by decide) rfl (by kernel_rfl) ?_)
  clear henv hst a; intro a w19 g18 henv hst
  replace hst := hst.giveU (k := 0) (n := 1) (xs := [q]) rfl (by intro x hx; simp at hx; omega) rfl (by decide)
  have hs20 := nl_div X q
  have hs21 := nl_mod X q
  refine seq_step rfl (op_call henv rfl Tryd.call51 rfl (r_dm (N := X) (M := q) (show U32 _ A0 n0 c0 xs0 from hst.pat (k := 7) rfl) (show U32 _ (some ⟨g18, 0, none⟩) 1 1 ([q]) from hst.pat (k := 0) rfl) hX0 L_one (by omega) (by omega) (by omega)) ?_)
  rintro e w26 ⟨_, _, rfl, ⟨A22, c23, rfl, hU, hA⟩, ⟨A24, c25, rfl, hV, hB⟩, hb⟩
  refine ⟨_, rfl, ?_⟩
  clear henv a; intro a henv
  replace hst := hst.freshU2 hb hU hA hV hB
  clear hU
  clear hA hV hB
  clear hb
  refine seq_step rfl (op_val (v := .tuple #[.slice A22 (nl (X / q)) c23, .slice A24 (nl (X % q)) c25]) henv rfl (rn_move henv rfl) ?_)
  clear henv a; intro a henv
  refine seq_step rfl (op_val (v := .slice A22 (nl (X / q)) c23) henv rfl (rn_extract henv rfl rfl) ?_)
  clear henv a; intro a henv
  refine seq_step rfl (op_val (v := .slice A24 (nl (X % q)) c25) henv rfl (rn_extract henv rfl rfl) ?_)
  clear henv a; intro a henv
  refine seq_step rfl (op_val (v := .slice A22 (nl (X / q)) c23) henv rfl (rn_assign henv rfl) ?_)
  clear henv a; intro a henv
  refine seq_step rfl (op_val (v := .slice A24 (nl (X % q)) c25) henv rfl (rn_assign henv rfl) ?_)
  clear henv a; intro a henv
  refine wpList_nil ?_
  refine th_n ?_
  refine wp_seq ?_
  refine region_seq ?_
  refine seq_step rfl (op_val (v := .slice A13 (nl (X / q)) c14) henv rfl (rn_move henv rfl) ?_)
  clear henv a; intro a henv
  refine seq_step rfl (op_val (v := .slice A22 (nl (X / q)) c23) henv rfl (rn_move henv rfl) ?_)
  clear henv a; intro a henv
  refine seq_step rfl (op_call henv rfl Tryd.call36 rfl (equal_u (show U32 _ A13 (nl (X / q)) c14 (L (X / q)) from hst.pat (k := 3) rfl) (show U32 _ A22 (nl (X / q)) c23 (L (X / q)) from hst.pat (k := 1) rfl)) ?_)
  rintro e w27 ⟨rfl, hb⟩
  refine ⟨_, rfl, ?_⟩
  clear henv a; intro a henv
  replace hst := hst.call hb
  clear hb
  rw [show (decide ((L (X / q)) = (L (X / q)))) = true from by rw [L_dec]; exact decide_eq_true (by first | rfl | omega | exact Nat.add_comm _ _ | exact Nat.mul_comm _ _ | exact Nat.add_assoc _ _ _ | exact (Nat.add_assoc _ _ _).symm | exact Nat.mul_assoc _ _ _ | exact (Nat.mul_assoc _ _ _).symm | exact Nat.mul_add _ _ _)] at henv
  refine seq_step rfl (op_val (v := .bool false) henv rfl (rn_un henv rfl rfl) ?_)
  clear henv a; intro a henv
  refine seq_step rfl (op_val (v := .bool false) henv rfl (rn_move henv rfl) ?_)
  clear henv a; intro a henv
  refine seq_g rfl henv rfl rfl (op_val (v := .int .i64 0) henv rfl (rn_move henv rfl) ?_)
  clear henv a; intro a henv
  refine seq_g rfl henv rfl rfl (op_val (v := .bool false) henv rfl (rn_bin henv rfl rfl rfl) ?_)
  clear henv a; intro a henv
  refine seq_step rfl (op_val (v := .bool false) henv rfl (rn_pick henv rfl rfl) ?_)
  clear henv a; intro a henv
  refine seq_step rfl (op_val (v := .bool false) henv rfl (rn_move henv rfl) ?_)
  clear henv a; intro a henv
  refine seq_g rfl henv rfl rfl (op_val (v := .int .u32 (X % q : Nat)) henv rfl (rn_move henv rfl) ?_)
  clear henv a; intro a henv
  refine seq_g rfl henv rfl rfl (op_buildSlice (z := 1) (pv := #[(0, .int .u32 (X % q : Nat))]) (c := #[.int .u32 (X % q : Nat)]) henv hst rfl Tryd.underlying22 (ty_uint32.size) zero_uint32 (by decide) (by decide) rfl (by kernel_rfl) ?_)
  clear henv hst a; intro a w29 g28 henv hst
  replace hst := hst.giveU (k := 0) (n := 1) (xs := [X % q]) rfl (by intro x hx; simp at hx; omega) rfl (by decide)
  have hst0 := hst
  refine seq_g rfl henv rfl rfl (op_call henv rfl Tryd.call52 rfl (r_norm_to (R := X % q) (show U32 _ (some ⟨g28, 0, none⟩) 1 1 ([X % q]) from hst.pat (k := 0) rfl) (by omega) (by simp only [L_one])) ?_)
  rintro e w32 ⟨_, rfl, ⟨A30, c31, rfl, hU, hA⟩, hb⟩
  refine ⟨_, rfl, ?_⟩
  clear henv a; intro a henv
  replace hst := hst.freshU hb hU hA
  clear hU
  have hFA30 : ∀ a, A30 = some a → w0.heap.size ≤ a.block := fun a ha => Nat.le_trans hst0.below.size (hA a ha)
  clear hA hst0
  clear hb
  refine seq_g rfl henv rfl rfl (op_val (v := .slice A24 (nl (X % q)) c25) henv rfl (rn_move henv rfl) ?_)
  clear henv a; intro a henv
  refine seq_g rfl henv rfl rfl (op_call henv rfl Tryd.call36 rfl (equal_u (show U32 _ A30 (nl (X % q)) c31 (L (X % q)) from hst.pat (k := 0) rfl) (show U32 _ A24 (nl (X % q)) c25 (L (X % q)) from hst.pat (k := 2) rfl)) ?_)
  rintro e w33 ⟨rfl, hb⟩
  refine ⟨_, rfl, ?_⟩
  clear henv a; intro a henv
  replace hst := hst.call hb
  clear hb
  rw [show (decide ((L (X % q)) = (L (X % q)))) = true from by rw [L_dec]; exact decide_eq_true (by first | rfl | omega | exact Nat.add_comm _ _ | exact Nat.mul_comm _ _ | exact Nat.add_assoc _ _ _ | exact (Nat.add_assoc _ _ _).symm | exact Nat.mul_assoc _ _ _ | exact (Nat.mul_assoc _ _ _).symm | exact Nat.mul_add _ _ _)] at henv
  refine seq_g rfl henv rfl rfl (op_val (v := .bool false) henv rfl (rn_un henv rfl rfl) ?_)
  clear henv a; intro a henv
  refine seq_step rfl (op_val (v := .bool false) henv rfl (rn_pick henv rfl rfl) ?_)
  clear henv a; intro a henv
  refine wpList_nil ?_
  refine th_n ?_
  refine if_f henv rfl (rfl) ?_
  refine wp_skip ?_
  refine th_n ?_
  refine wp_seq ?_
  refine wp_seq ?_
  refine region_seq ?_
  refine seq_step rfl (op_val (v := .slice A1 n1 c1) henv rfl (rn_move henv rfl) ?_)
  clear henv a; intro a henv
  have hst0 := hst
  refine seq_step rfl (op_call henv rfl Tryd.call52 rfl (r_norm_to (R := Y) (show U32 _ A1 n1 c1 xs1 from hst.pat (k := 10) rfl) (by omega) (by simp only [hX1])) ?_)
  rintro e w36 ⟨_, rfl, ⟨A34, c35, rfl, hU, hA⟩, hb⟩
  refine ⟨_, rfl, ?_⟩
  clear henv a; intro a henv
  replace hst := hst.freshU hb hU hA
  clear hU
  have hFA34 : ∀ a, A34 = some a → w0.heap.size ≤ a.block := fun a ha => Nat.le_trans hst0.below.size (hA a ha)
  clear hA hst0
  clear hb
  refine seq_step rfl (op_val (v := .int .i64 (nl Y : Nat)) henv rfl (rn_len henv Tryd.underlying22 rfl) ?_)
  clear henv a; intro a henv
  refine seq_step rfl (op_val (v := .bool (((nl Y : Nat) : Int) == (0 : Int))) henv rfl (rn_bin henv rfl rfl rfl) ?_)
  clear henv a; intro a henv
  rw [show (((nl Y : Nat) : Int) == (0 : Int)) = true from by rw [hY0, nl_zero]; rfl] at henv
  refine wpList_nil ?_
  refine th_n ?_
  refine if_t henv rfl (rfl) ?_
  refine wp_seq ?_
  refine region_seq ?_
  refine seq_step rfl (op_val (v := .slice none 0 0) henv rfl (rn_move henv rfl) ?_)
  clear henv a; intro a henv
  refine seq_step rfl (op_val (v := .bool none.isNone) henv rfl (rn_nilS henv Tryd.underlying22 rfl) ?_)
  clear henv a; intro a henv
  rw [show none.isNone = true from rfl] at henv
  refine seq_step rfl (op_val (v := .bool true) henv rfl (rn_move henv rfl) ?_)
  clear henv a; intro a henv
  refine seq_g rfl henv rfl rfl (op_val (v := .slice none 0 0) henv rfl (rn_move henv rfl) ?_)
  clear henv a; intro a henv
  refine seq_g rfl henv rfl rfl (op_val (v := .bool none.isNone) henv rfl (rn_nilS henv Tryd.underlying22 rfl) ?_)
  clear henv a; intro a henv
  rw [show none.isNone = true from rfl] at henv
  refine seq_step rfl (op_val (v := .bool true) henv rfl (rn_pick henv rfl rfl) ?_)
  clear henv a; intro a henv
  refine seq_step rfl (op_val (v := .bool true) henv rfl (rn_move henv rfl) ?_)
  clear henv a; intro a henv
  refine seq_g rfl henv rfl rfl (op_val (v := .int .i64 2) henv rfl (rn_move henv rfl) ?_)
  clear henv a; intro a henv
  refine seq_g rfl henv rfl rfl (op_val (v := .bool true) henv rfl (rn_bin henv rfl rfl rfl) ?_)
  clear henv a; intro a henv
  refine seq_step rfl (op_val (v := .bool true) henv rfl (rn_pick henv rfl rfl) ?_)
  clear henv a; intro a henv
  refine seq_step rfl (op_val (v := .bool true) henv rfl (rn_assign henv rfl) ?_)
  clear henv a; intro a henv
  refine wpList_nil ?_
  refine th_n ?_
  refine wp_ret ?_
  refine th_r ?_
  refine leave henv (res1 Tryd.results10 (RV.tmp henv rfl)) ?_
  exact ⟨rfl, hst.below⟩

set_option maxRecDepth 100000 in
set_option maxHeartbeats 4000000 in
theorem divides_00 {A0 : Option Addr} {n0 c0 : Nat} {xs0 : List Nat} {A1 : Option Addr} {n1 c1 : Nat} {xs1 : List Nat} {q : Nat} {w0 : World} (u0 : U32 w0 A0 n0 c0 xs0) (u1 : U32 w0 A1 n1 c1 xs1) (hn0 : n0 ≤ 160) (hn1 : n1 ≤ 160) (hq : q < 4294967296) (hq0 : q ≠ 0) (hY : val 4294967296 xs1 ≠ 0) :
    Calls Tryd.prog 10 #[.slice A0 n0 c0, .slice A1 n1 c1, .int .u32 (q : Nat)] w0 fun e w' => e = .returned (.bool true) ∧ Below w0.heap.size w0 w' := by
  obtain ⟨X, hX0⟩ : ∃ z, val 4294967296 xs0 = z := ⟨_, rfl⟩
  have hl0 : nl X ≤ n0 := hX0 ▸ nl_val u0
  have hxl0 := u0.len
  obtain ⟨Y, hX1⟩ : ∃ z, val 4294967296 xs1 = z := ⟨_, rfl⟩
  have hl1 : nl Y ≤ n1 := hX1 ▸ nl_val u1
  have hxl1 := u1.len
  have hY0 : Y ≠ 0 := hX1 ▸ hY
  have hm := Nat.mod_lt X (show 0 < q by omega)
  have hnm : nl (X % q) ≤ 1 := nl_le_of_lt (by omega)
  have hnq : nl q ≤ 1 := nl_le_of_lt (by omega)
  refine enter Tryd.func10 rfl Tryd.ntmps10 rfl ?_
  intro a henv hst
  replace hst := ((hst.addU u0 trivial).addU u1 trivial)
  clear u0 u1
  refine wp_seq ?_
  refine region_seq ?_
  refine seq_step rfl (op_val (v := .bool false) henv rfl (rn_assign henv rfl) ?_)
  clear henv a; intro a henv
  refine wpList_nil ?_
  refine th_n ?_
  refine wp_seq ?_
  refine wp_seq ?_
  refine region_seq ?_
  refine seq_step rfl (op_call henv rfl Tryd.call32 rfl (works_true _) ?_)
  rintro e w1 ⟨rfl, hb⟩
  refine ⟨_, rfl, ?_⟩
  clear henv a; intro a henv
  replace hst := hst.call hb
  clear hb
  refine seq_step rfl (op_val (v := .bool false) henv rfl (rn_un henv rfl rfl) ?_)
  clear henv a; intro a henv
  refine wpList_nil ?_
  refine th_n ?_
  refine if_f henv rfl (rfl) ?_
  refine wp_skip ?_
  refine th_n ?_
  refine wp_seq ?_
  refine wp_seq ?_
  refine region_seq ?_
  refine seq_step rfl (op_val (v := .slice A0 n0 c0) henv rfl (rn_move henv rfl) ?_)
  clear henv a; intro a henv
  refine seq_step rfl (op_val (v := .slice A1 n1 c1) henv rfl (rn_move henv rfl) ?_)
  clear henv a; intro a henv
  refine seq_step rfl (op_buildSlice (z := 1) (pv := #[(0, .slice A0 n0 c0), (1, .slice A1 n1 c1)]) (c := #[.slice A0 n0 c0, .slice A1 n1 c1]) henv hst rfl Tryd.underlying107 (ty__uint32.size) zero__uint32 (by decide) (by decide) rfl (by kernel_rfl) ?_)
  clear henv hst a; intro a w3 g2 henv hst
  refine seq_step rfl (op_call henv rfl Tryd.call50 rfl (long_sh (q := 2) (ls := [(A0, n0, c0), (A1, n1, c1)]) (hst.oat (k := 0) rfl) rfl (by decide) (by intro p hp; simp at hp; rcases hp with rfl | rfl <;> assumption)) ?_)
  rintro e w4 ⟨rfl, hb⟩
  refine ⟨_, rfl, ?_⟩
  clear henv a; intro a henv
  replace hst := hst.call hb
  clear hb
  refine wpList_nil ?_
  refine th_n ?_
  refine if_f henv rfl (rfl) ?_
  refine wp_skip ?_
  refine th_n ?_
  refine wp_seq ?_
  refine region_seq ?_
  refine seq_step rfl (op_val (v := .slice A0 n0 c0) henv rfl (rn_move henv rfl) ?_)
  clear henv a; intro a henv
  refine seq_step rfl (op_call henv rfl Tryd.call46 rfl (room_any (show U32 _ A0 n0 c0 xs0 from hst.pat (k := 1) rfl) (by omega)) ?_)
  rintro e w7 ⟨A5, c6, rfl, hU, hA, hb⟩
  refine ⟨_, rfl, ?_⟩
  clear henv a; intro a henv
  replace hst := hst.freshU2 hb hU hA (U32.pre hU hxl0) hA
  clear hU
  clear hA
  clear hb
  refine seq_step rfl (op_val (v := .slice A1 n1 c1) henv rfl (rn_move henv rfl) ?_)
  clear henv a; intro a henv
  refine seq_step rfl (op_call henv rfl Tryd.call46 rfl (room_any (show U32 _ A1 n1 c1 xs1 from hst.pat (k := 2) rfl) (by omega)) ?_)
  rintro e w10 ⟨A8, c9, rfl, hU, hA, hb⟩
  refine ⟨_, rfl, ?_⟩
  clear henv a; intro a henv
  replace hst := hst.freshU2 hb hU hA (U32.pre hU hxl1) hA
  clear hU
  clear hA
  clear hb
  refine seq_step rfl (op_val (v := .slice A5 n0 c6) henv rfl (rn_assign henv rfl) ?_)
  clear henv a; intro a henv
  refine seq_step rfl (op_val (v := .slice A8 n1 c9) henv rfl (rn_assign henv rfl) ?_)
  clear henv a; intro a henv
  refine wpList_nil ?_
  refine th_n ?_
  refine wp_seq ?_
  refine region_seq ?_
  refine seq_step rfl (op_val (v := .slice A5 n0 c6) henv rfl (rn_move henv rfl) ?_)
  clear henv a; intro a henv
  refine seq_step rfl (op_val (v := .slice A8 n1 c9) henv rfl (rn_move henv rfl) ?_)
  clear henv a; intro a henv
  have hs11 := nl_div X Y
  have hs12 := nl_mod X Y
  refine seq_step rfl (op_call henv rfl Tryd.call33 rfl (dm_num (N := X) (M := Y) ⟨_, (show U32 _ A5 n0 c6 xs0 from hst.pat (k := 2) rfl), hX0⟩ ⟨_, (show U32 _ A8 n1 c9 xs1 from hst.pat (k := 0) rfl), hX1⟩ (by omega) (by omega)) ?_)
  rintro e w17 ⟨_, _, rfl, ⟨A13, c14, rfl, hU, hA⟩, ⟨A15, c16, rfl, hV, hB⟩, hb⟩
  refine ⟨_, rfl, ?_⟩
  clear henv a; intro a henv
  replace hst := hst.freshU2 hb hU hA hV hB
  clear hU
  clear hA hV hB
  clear hb
  refine seq_step rfl (op_val (v := .tuple #[.slice A13 (nl (X / Y)) c14, .slice A15 (nl (X % Y)) c16, .int .i64 0]) henv rfl (rn_move henv rfl) ?_)
  clear henv a; intro a henv
  refine seq_step rfl (op_val (v := .slice A13 (nl (X / Y)) c14) henv rfl (rn_extract henv rfl rfl) ?_)
  clear henv a; intro a henv
  refine seq_step rfl (op_val (v := .slice A15 (nl (X % Y)) c16) henv rfl (rn_extract henv rfl rfl) ?_)
  clear henv a; intro a henv
  refine seq_step rfl (op_val (v := .int .i64 0) henv rfl (rn_extract henv rfl rfl) ?_)
  clear henv a; intro a henv
  refine seq_step rfl (op_val (v := .slice A13 (nl (X / Y)) c14) henv rfl (rn_assign henv rfl) ?_)
  clear henv a; intro a henv
  refine seq_step rfl (op_val (v := .slice A15 (nl (X % Y)) c16) henv rfl (rn_assign henv rfl) ?_)
  clear henv a; intro a henv
  refine seq_step rfl (op_val (v := .int .i64 0) henv rfl (rn_assign henv rfl) ?_)
  clear henv a; intro a henv
  refine wpList_nil ?_
  refine th_n ?_
  refine wp_seq ?_
  refine region_seq ?_
  refine seq_step rfl (op_val (v := .slice A5 n0 c6) henv rfl (rn_move henv rfl) ?_)
  clear henv a; intro a henv
  refine seq_step rfl (op_val (v := .int .u32 (q : Nat)) henv rfl (rn_move henv rfl) ?_)
  clear henv a; intro a henv
  have hs18 := nl_div X q
  refine seq_step rfl (op_call henv rfl Tryd.call39 rfl (divs_num (N := X) (q := q) ⟨_, (show U32 _ A5 n0 c6 xs0 from hst.pat (k := 4) rfl), hX0⟩ (by omega) (by omega) (by omega)) ?_)
  rintro e w21 ⟨_, rfl, ⟨A19, c20, rfl, hU, hA⟩, hb⟩
  refine ⟨_, rfl, ?_⟩
  clear henv a; intro a henv
  replace hst := hst.freshU hb hU hA
  clear hU
  clear hA
  clear hb
  refine seq_step rfl (op_val (v := .tuple #[.slice A19 (nl (X / q)) c20, .int .u32 (X % q : Nat), .int .i64 0]) henv rfl (rn_move henv rfl) ?_)
  clear henv a; intro a henv
  refine seq_step rfl (op_val (v := .slice A19 (nl (X / q)) c20) henv rfl (rn_extract henv rfl rfl) ?_)
  clear henv a; intro a henv
  refine seq_step rfl (op_val (v := .int .u32 (X % q : Nat)) henv rfl (rn_extract henv rfl rfl) ?_)
  clear henv a; intro a henv
  refine seq_step rfl (op_val (v := .int .i64 0) henv rfl (rn_extract henv rfl rfl) ?_)
  clear henv a; intro a henv
  refine seq_step rfl (op_val (v := .slice A19 (nl (X / q)) c20) henv rfl (rn_assign henv rfl) ?_)
  clear henv a; intro a henv
  refine seq_step rfl (op_val (v := .int .u32 (X % q : Nat)) henv rfl (rn_assign henv rfl) ?_)
  clear henv a; intro a henv
  refine seq_step rfl (op_val (v := .int .i64 0) henv rfl (rn_assign henv rfl) ?_)
  clear henv a; intro a henv
  refine wpList_nil ?_
  refine th_n ?_
  refine wp_seq ?_
  refine wp_seq ?_
  refine region_seq ?_
  refine seq_step rfl (op_val (v := .slice A5 n0 c6) henv rfl (rn_move henv rfl) ?_)
  clear henv a; intro a henv
  refine seq_step rfl (op_val (v := .slice A0 n0 c0) henv rfl (rn_move henv rfl) ?_)
  clear henv a; intro a henv
  refine seq_step rfl (op_call henv rfl Tryd.call48 rfl (kept_true (show U32 _ A5 (n0 + 2) c6 (xs0 ++ [77, 78]) from hst.pat (k := 6) rfl) (show U32 _ A0 n0 c0 xs0 from hst.pat (k := 8) rfl) (by omega)) ?_)
  rintro e w22 ⟨rfl, hb⟩
  refine ⟨_, rfl, ?_⟩
  clear henv a; intro a henv
  replace hst := hst.call hb
  clear hb
  refine seq_step rfl (op_val (v := .bool false) henv rfl (rn_un henv rfl rfl) ?_)
  clear henv a; intro a henv
  refine seq_step rfl (op_val (v := .bool false) henv rfl (rn_move henv rfl) ?_)
  clear henv a; intro a henv
  refine seq_g rfl henv rfl rfl (op_val (v := .slice A8 n1 c9) henv rfl (rn_move henv rfl) ?_)
  clear henv a; intro a henv
  refine seq_g rfl henv rfl rfl (op_val (v := .slice A1 n1 c1) henv rfl (rn_move henv rfl) ?_)
  clear henv a; intro a henv
  refine seq_g rfl henv rfl rfl (op_call henv rfl Tryd.call48 rfl (kept_true (show U32 _ A8 (n1 + 2) c9 (xs1 ++ [77, 78]) from hst.pat (k := 4) rfl) (show U32 _ A1 n1 c1 xs1 from hst.pat (k := 7) rfl) (by omega)) ?_)
  rintro e w23 ⟨rfl, hb⟩
  refine ⟨_, rfl, ?_⟩
  clear henv a; intro a henv
  replace hst := hst.call hb
  clear hb
  refine seq_g rfl henv rfl rfl (op_val (v := .bool false) henv rfl (rn_un henv rfl rfl) ?_)
  clear henv a; intro a henv
  refine seq_step rfl (op_val (v := .bool false) henv rfl (rn_pick henv rfl rfl) ?_)
  clear henv a; intro a henv
  refine wpList_nil ?_
  refine th_n ?_
  refine if_f henv rfl (rfl) ?_
  refine wp_skip ?_
  refine th_n ?_
  refine wp_seq ?_
  refine wp_seq ?_
  refine region_seq ?_
  refine seq_step rfl (op_val (v := .int .u32 (q : Nat)) henv rfl (rn_move henv rfl) ?_)
  clear henv a; intro a henv
  refine seq_step rfl (op_val (v := .bool (((q : Nat) : Int) == (0 : Int))) henv rfl (rn_bin henv rfl rfl rfl) ?_)
  clear henv a; intro a henv
  rw [show (((q : Nat) : Int) == (0 : Int)) = false from by simp; omega] at henv
  refine wpList_nil ?_
  refine th_n ?_
  refine if_f henv rfl (rfl) ?_
  refine wp_seq ?_
  refine region_seq ?_
  refine seq_step rfl (op_val (v := .slice A0 n0 c0) henv rfl (rn_move henv rfl) ?_)
  clear henv a; intro a henv
  refine seq_step rfl (op_val (v := .int .u32 (q : Nat)) henv rfl (rn_move henv rfl) ?_)
  clear henv a; intro a henv
  refine seq_step rfl (op_buildSlice (z := 1) (pv := #[(0, .int .u32 (q : Nat))]) (c := #[.int .u32 (q : Nat)]) henv hst rfl Tryd.underlying22 (ty_uint32.size) zero_uint32 (by decide) (by decide) rfl (by kernel_rfl) ?_)
  clear henv hst a; intro a w25 g24 henv hst
  replace hst := hst.giveU (k := 0) (n := 1) (xs := [q]) rfl (by intro x hx; simp at hx; omega) rfl (by decide)
  have hs26 := nl_div X q
  have hs27 := nl_mod X q
  refine seq_step rfl (op_call henv rfl Tryd.call51 rfl (r_dm (N := X) (M := q) (show U32 _ A0 n0 c0 xs0 from hst.pat (k := 9) rfl) (show U32 _ (some ⟨g24, 0, none⟩) 1 1 ([q]) from hst.pat (k := 0) rfl) hX0 L_one (by omega) (by omega) (by omega)) ?_)
  rintro e w32 ⟨_, _, rfl, ⟨A28, c29, rfl, hU, hA⟩, ⟨A30, c31, rfl, hV, hB⟩, hb⟩
  refine ⟨_, rfl, ?_⟩
  clear henv a; intro a henv
  replace hst := hst.freshU2 hb hU hA hV hB
  clear hU
  clear hA hV hB
  clear hb
  refine seq_step rfl (op_val (v := .tuple #[.slice A28 (nl (X / q)) c29, .slice A30 (nl (X % q)) c31]) henv rfl (rn_move henv rfl) ?_)
  clear henv a; intro a henv
  refine seq_step rfl (op_val (v := .slice A28 (nl (X / q)) c29) henv rfl (rn_extract henv rfl rfl) ?_)
  clear henv a; intro a henv
  refine seq_step rfl (op_val (v := .slice A30 (nl (X % q)) c31) henv rfl (rn_extract henv rfl rfl) ?_)
  clear henv a; intro a henv
  refine seq_step rfl (op_val (v := .slice A28 (nl (X / q)) c29) henv rfl (rn_assign henv rfl) ?_)
  clear henv a; intro a henv
  refine seq_step rfl (op_val (v := .slice A30 (nl (X % q)) c31) henv rfl (rn_assign henv rfl) ?_)
  clear henv a; intro a henv
  refine wpList_nil ?_
  refine th_n ?_
  refine wp_seq ?_
  refine region_seq ?_
  refine seq_step rfl (op_val (v := .slice A19 (nl (X / q)) c20) henv rfl (rn_move henv rfl) ?_)
  clear henv a; intro a henv
  refine seq_step rfl (op_val (v := .slice A28 (nl (X / q)) c29) henv rfl (rn_move henv rfl) ?_)
  clear henv a; intro a henv
  refine seq_step rfl (op_call henv rfl Tryd.call36 rfl (equal_u (show U32 _ A19 (nl (X / q)) c20 (L (X / q)) from hst.pat (k := 3) rfl) (show U32 _ A28 (nl (X / q)) c29 (L (X / q)) from hst.pat (k := 1) rfl)) ?_)
  rintro e w33 ⟨rfl, hb⟩
  refine ⟨_, rfl, ?_⟩
  clear henv a; intro a henv
  replace hst := hst.call hb
  clear hb
  rw [show (decide ((L (X / q)) = (L (X / q)))) = true from by rw [L_dec]; exact decide_eq_true (by first | rfl | omega | exact Nat.add_comm _ _ | exact Nat.mul_comm _ _ | exact Nat.add_assoc _ _ _ | exact (Nat.add_assoc _ _ _).symm | exact Nat.mul_assoc _ _ _ | exact (Nat.mul_assoc _ _ _).symm | exact Nat.mul_add _ _ _)] at henv
  refine seq_step rfl (op_val (v := .bool false) henv rfl (rn_un henv rfl rfl) ?_)
  clear henv a; intro a henv
  refine seq_step rfl (op_val (v := .bool false) henv rfl (rn_move henv rfl) ?_)
  clear henv a; intro a henv
  refine seq_g rfl henv rfl rfl (op_val (v := .int .i64 0) henv rfl (rn_move henv rfl) ?_)
  clear henv a; intro a henv
  refine seq_g rfl henv rfl rfl (op_val (v := .bool false) henv rfl (rn_bin henv rfl rfl rfl) ?_)
  clear henv a; intro a henv
  refine seq_step rfl (op_val (v := .bool false) henv rfl (rn_pick henv rfl rfl) ?_)
  clear henv a; intro a henv
  refine seq_step rfl (op_val (v := .bool false) henv rfl (rn_move henv rfl) ?_)
  clear henv a; intro a henv
  refine seq_g rfl henv rfl rfl (op_val (v := .int .u32 (X % q : Nat)) henv rfl (rn_move henv rfl) ?_)
  clear henv a; intro a henv
  refine seq_g rfl henv rfl rfl (op_buildSlice (z := 1) (pv := #[(0, .int .u32 (X % q : Nat))]) (c := #[.int .u32 (X % q : Nat)]) henv hst rfl Tryd.underlying22 (ty_uint32.size) zero_uint32 (by decide) (by decide) rfl (by kernel_rfl) ?_)
  clear henv hst a; intro a w35 g34 henv hst
  replace hst := hst.giveU (k := 0) (n := 1) (xs := [X % q]) rfl (by intro x hx; simp at hx; omega) rfl (by decide)
  have hst0 := hst
  refine seq_g rfl henv rfl rfl (op_call henv rfl Tryd.call52 rfl (r_norm_to (R := X % q) (show U32 _ (some ⟨g34, 0, none⟩) 1 1 ([X % q]) from hst.pat (k := 0) rfl) (by omega) (by simp only [L_one])) ?_)
  rintro e w38 ⟨_, rfl, ⟨A36, c37, rfl, hU, hA⟩, hb⟩
  refine ⟨_, rfl, ?_⟩
  clear henv a; intro a henv
  replace hst := hst.freshU hb hU hA
  clear hU
  have hFA36 : ∀ a, A36 = some a → w0.heap.size ≤ a.block := fun a ha => Nat.le_trans hst0.below.size (hA a ha)
  clear hA hst0
  clear hb
  refine seq_g rfl henv rfl rfl (op_val (v := .slice A30 (nl (X % q)) c31) henv rfl (rn_move henv rfl) ?_)
  clear henv a; intro a henv
  refine seq_g rfl henv rfl rfl (op_call henv rfl Tryd.call36 rfl (equal_u (show U32 _ A36 (nl (X % q)) c37 (L (X % q)) from hst.pat (k := 0) rfl) (show U32 _ A30 (nl (X % q)) c31 (L (X % q)) from hst.pat (k := 2) rfl)) ?_)
  rintro e w39 ⟨rfl, hb⟩
  refine ⟨_, rfl, ?_⟩
  clear henv a; intro a henv
  replace hst := hst.call hb
  clear hb
  rw [show (decide ((L (X % q)) = (L (X % q)))) = true from by rw [L_dec]; exact decide_eq_true (by first | rfl | omega | exact Nat.add_comm _ _ | exact Nat.mul_comm _ _ | exact Nat.add_assoc _ _ _ | exact (Nat.add_assoc _ _ _).symm | exact Nat.mul_assoc _ _ _ | exact (Nat.mul_assoc _ _ _).symm | exact Nat.mul_add _ _ _)] at henv
  refine seq_g rfl henv rfl rfl (op_val (v := .bool false) henv rfl (rn_un henv rfl rfl) ?_)
  clear henv a; intro a henv
  refine seq_step rfl (op_val (v := .bool false) henv rfl (rn_pick henv rfl rfl) ?_)
  clear henv a; intro a henv
  refine wpList_nil ?_
  refine th_n ?_
  refine if_f henv rfl (rfl) ?_
  refine wp_skip ?_
  refine th_n ?_
  refine wp_seq ?_
  refine wp_seq ?_
  refine region_seq ?_
  refine seq_step rfl (op_val (v := .slice A1 n1 c1) henv rfl (rn_move henv rfl) ?_)
  clear henv a; intro a henv
  have hst0 := hst
  refine seq_step rfl (op_call henv rfl Tryd.call52 rfl (r_norm_to (R := Y) (show U32 _ A1 n1 c1 xs1 from hst.pat (k := 12) rfl) (by omega) (by simp only [hX1])) ?_)
  rintro e w42 ⟨_, rfl, ⟨A40, c41, rfl, hU, hA⟩, hb⟩
  refine ⟨_, rfl, ?_⟩
  clear henv a; intro a henv
  replace hst := hst.freshU hb hU hA
  clear hU
  have hFA40 : ∀ a, A40 = some a → w0.heap.size ≤ a.block := fun a ha => Nat.le_trans hst0.below.size (hA a ha)
  clear hA hst0
  clear hb
  refine seq_step rfl (op_val (v := .int .i64 (nl Y : Nat)) henv rfl (rn_len henv Tryd.underlying22 rfl) ?_)
  clear henv a; intro a henv
  refine seq_step rfl (op_val (v := .bool (((nl Y : Nat) : Int) == (0 : Int))) henv rfl (rn_bin henv rfl rfl rfl) ?_)
  clear henv a; intro a henv
  rw [show (((nl Y : Nat) : Int) == (0 : Int)) = false from by have := nl_pos (N := Y) (by omega); simp; omega] at henv
  refine wpList_nil ?_
  refine th_n ?_
  refine if_f henv rfl (rfl) ?_
  refine wp_skip ?_
  refine th_n ?_
  refine wp_seq ?_
  refine region_seq ?_
  refine seq_step rfl (op_val (v := .slice A0 n0 c0) henv rfl (rn_move henv rfl) ?_)
  clear henv a; intro a henv
  refine seq_step rfl (op_val (v := .slice A1 n1 c1) henv rfl (rn_move henv rfl) ?_)
  clear henv a; intro a henv
  have hs43 := nl_div X Y
  have hs44 := nl_mod X Y
  refine seq_step rfl (op_call henv rfl Tryd.call51 rfl (r_dm (N := X) (M := Y) (show U32 _ A0 n0 c0 xs0 from hst.pat (k := 14) rfl) (show U32 _ A1 n1 c1 xs1 from hst.pat (k := 13) rfl) hX0 hX1 (by omega) (by omega) (by omega)) ?_)
  rintro e w49 ⟨_, _, rfl, ⟨A45, c46, rfl, hU, hA⟩, ⟨A47, c48, rfl, hV, hB⟩, hb⟩
  refine ⟨_, rfl, ?_⟩
  clear henv a; intro a henv
  replace hst := hst.freshU2 hb hU hA hV hB
  clear hU
  clear hA hV hB
  clear hb
  refine seq_step rfl (op_val (v := .tuple #[.slice A45 (nl (X / Y)) c46, .slice A47 (nl (X % Y)) c48]) henv rfl (rn_move henv rfl) ?_)
  clear henv a; intro a henv
  refine seq_step rfl (op_val (v := .slice A45 (nl (X / Y)) c46) henv rfl (rn_extract henv rfl rfl) ?_)
  clear henv a; intro a henv
  refine seq_step rfl (op_val (v := .slice A47 (nl (X % Y)) c48) henv rfl (rn_extract henv rfl rfl) ?_)
  clear henv a; intro a henv
  refine seq_step rfl (op_val (v := .slice A45 (nl (X / Y)) c46) henv rfl (rn_assign henv rfl) ?_)
  clear henv a; intro a henv
  refine seq_step rfl (op_val (v := .slice A47 (nl (X % Y)) c48) henv rfl (rn_assign henv rfl) ?_)
  clear henv a; intro a henv
  refine wpList_nil ?_
  refine th_n ?_
  refine wp_seq ?_
  refine region_seq ?_
  refine seq_step rfl (op_val (v := .slice A13 (nl (X / Y)) c14) henv rfl (rn_move henv rfl) ?_)
  clear henv a; intro a henv
  refine seq_step rfl (op_val (v := .slice A45 (nl (X / Y)) c46) henv rfl (rn_move henv rfl) ?_)
  clear henv a; intro a henv
  refine seq_step rfl (op_call henv rfl Tryd.call36 rfl (equal_u (show U32 _ A13 (nl (X / Y)) c14 (L (X / Y)) from hst.pat (k := 10) rfl) (show U32 _ A45 (nl (X / Y)) c46 (L (X / Y)) from hst.pat (k := 1) rfl)) ?_)
  rintro e w50 ⟨rfl, hb⟩
  refine ⟨_, rfl, ?_⟩
  clear henv a; intro a henv
  replace hst := hst.call hb
  clear hb
  rw [show (decide ((L (X / Y)) = (L (X / Y)))) = true from by rw [L_dec]; exact decide_eq_true (by first | rfl | omega | exact Nat.add_comm _ _ | exact Nat.mul_comm _ _ | exact Nat.add_assoc _ _ _ | exact (Nat.add_assoc _ _ _).symm | exact Nat.mul_assoc _ _ _ | exact (Nat.mul_assoc _ _ _).symm | exact Nat.mul_add _ _ _)] at henv
  refine seq_step rfl (op_val (v := .bool true) henv rfl (rn_move henv rfl) ?_)
  clear henv a; intro a henv
  refine seq_g rfl henv rfl rfl (op_val (v := .slice A15 (nl (X % Y)) c16) henv rfl (rn_move henv rfl) ?_)
  clear henv a; intro a henv
  refine seq_g rfl henv rfl rfl (op_val (v := .slice A47 (nl (X % Y)) c48) henv rfl (rn_move henv rfl) ?_)
  clear henv a; intro a henv
  refine seq_g rfl henv rfl rfl (op_call henv rfl Tryd.call36 rfl (equal_u (show U32 _ A15 (nl (X % Y)) c16 (L (X % Y)) from hst.pat (k := 9) rfl) (show U32 _ A47 (nl (X % Y)) c48 (L (X % Y)) from hst.pat (k := 0) rfl)) ?_)
  rintro e w51 ⟨rfl, hb⟩
  refine ⟨_, rfl, ?_⟩
  clear henv a; intro a henv
  replace hst := hst.call hb
  clear hb
  rw [show (decide ((L (X % Y)) = (L (X % Y)))) = true from by rw [L_dec]; exact decide_eq_true (by first | rfl | omega | exact Nat.add_comm _ _ | exact Nat.mul_comm _ _ | exact Nat.add_assoc _ _ _ | exact (Nat.add_assoc _ _ _).symm | exact Nat.mul_assoc _ _ _ | exact (Nat.mul_assoc _ _ _).symm | exact Nat.mul_add _ _ _)] at henv
  refine seq_step rfl (op_val (v := .bool true) henv rfl (rn_pick henv rfl rfl) ?_)
  clear henv a; intro a henv
  refine seq_step rfl (op_val (v := .bool true) henv rfl (rn_move henv rfl) ?_)
  clear henv a; intro a henv
  refine seq_g rfl henv rfl rfl (op_val (v := .int .i64 0) henv rfl (rn_move henv rfl) ?_)
  clear henv a; intro a henv
  refine seq_g rfl henv rfl rfl (op_val (v := .bool true) henv rfl (rn_bin henv rfl rfl rfl) ?_)
  clear henv a; intro a henv
  refine seq_step rfl (op_val (v := .bool true) henv rfl (rn_pick henv rfl rfl) ?_)
  clear henv a; intro a henv
  refine seq_step rfl (op_val (v := .bool true) henv rfl (rn_assign henv rfl) ?_)
  clear henv a; intro a henv
  refine wpList_nil ?_
  refine th_n ?_
  refine wp_ret ?_
  refine leave henv (res1 Tryd.results10 (RV.tmp henv rfl)) ?_
  exact ⟨rfl, hst.below⟩

theorem divides_law {A0 : Option Addr} {n0 c0 : Nat} {xs0 : List Nat} {A1 : Option Addr} {n1 c1 : Nat} {xs1 : List Nat} {q : Nat} {w0 : World} (u0 : U32 w0 A0 n0 c0 xs0) (u1 : U32 w0 A1 n1 c1 xs1) (hq : q < 4294967296) :
    Calls Tryd.prog 10 #[.slice A0 n0 c0, .slice A1 n1 c1, .int .u32 (q : Nat)] w0 fun e w' => e = .returned (.bool true) ∧ Below w0.heap.size w0 w' := by
  rcases Nat.lt_or_ge 160 n0 with hb | hn0
  · exact divides_long0 u0 u1  hb
  rcases Nat.lt_or_ge 160 n1 with hb | hn1
  · exact divides_long1 u0 u1  hb
  by_cases hY : val 4294967296 xs1 = 0 <;> by_cases hq0 : q = 0
  · subst hq0; exact divides_11 u0 u1 hn0 hn1 hY
  · exact divides_10 u0 u1 hn0 hn1 hq hq0 hY
  · subst hq0; exact divides_01 u0 u1 hn0 hn1 hY
  · exact divides_00 u0 u1 hn0 hn1 hq hq0 hY

end Go.Proofs.YtnldopjbiacbfaaDoor.W
