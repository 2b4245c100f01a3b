/- Shifts of numbers; powers of two. Printed by pv/gen_twos2.py. No condition. -/
import Derived.Test.YtnldopjbiacbfaaDoorM34
import Derived.Test.YtnldopjbiacbfaaDoorM8
import Derived.Test.YtnldopjbiacbfaaDoorM6
import Derived.Test.YtnldopjbiacbfaaDoorM7
import Derived.Test.YtnldopjbiacbfaaDoorM36

namespace Go.Proofs.YtnldopjbiacbfaaDoor
open Go.RowKit Anv

theorem made_given {b : Bool} {A : Option Addr} {c N : Nat} {z : Int} {w : World} (h : U32 w A (nl N) c (L N)) (hz : sg b N = z) :
    Calls Tryd.prog 82 #[.bool b, .slice A (nl N) c] w fun e w' => ∃ v, e = .returned v ∧ ZAt w' v z ∧ Below w.heap.size w w' := by
  subst hz
  exact (made_num h).mono fun _ _ ⟨he, hz, hb⟩ => ⟨_, he, ⟨_, _, rfl, hz⟩, hb⟩
theorem sg_shl (x : Int) (n : Nat) : sg (neg x) (x.natAbs * 2 ^ n) = x * 2 ^ n := by
  have h : ((x.natAbs * 2 ^ n : Nat) : Int) = (x.natAbs : Int) * 2 ^ n := by rw [Int.natCast_mul, Int.natCast_pow]; rfl
  unfold sg neg
  by_cases hx : x < 0
  · simp only [hx, decide_true, if_true]; rw [h, ← Int.neg_mul]; congr 1; omega
  · simp only [hx, decide_false, Bool.false_eq_true, if_false]; rw [h]; congr 1; omega
theorem sg_shr {x : Int} {n : Nat} (h : (2 : Int) ^ n ∣ x) : sg (neg x) (x.natAbs / 2 ^ n) = x / 2 ^ n := by
  obtain ⟨m, rfl⟩ := h
  have hp : (2 : Int) ^ n = ((2 ^ n : Nat) : Int) := by rw [Int.natCast_pow]; rfl
  have h0 : 0 < 2 ^ n := Nat.two_pow_pos n
  rw [hp, Int.natAbs_mul, Int.natAbs_natCast, Nat.mul_div_cancel_left _ h0, Int.mul_ediv_cancel_left _ (by omega)]
  unfold sg neg
  by_cases hm : m < 0
  · have : ((2 ^ n : Nat) : Int) * m < 0 := Int.mul_neg_of_pos_of_neg (by omega) hm
    simp only [this, decide_true, if_true]; omega
  · have : ¬ ((2 ^ n : Nat) : Int) * m < 0 := by have := Int.mul_nonneg (show (0 : Int) ≤ ((2 ^ n : Nat) : Int) by omega) (show 0 ≤ m by omega); omega
    simp only [this, decide_false, Bool.false_eq_true, if_false]; omega
theorem tz_ge {x : Int} {n k : Nat} (h : IsTz x.natAbs k) (hd : (2 : Int) ^ n ∣ x) : n ≤ k := by
  refine (h.dvd n).1 ?_
  have := Int.natAbs_dvd_natAbs.2 hd
  rwa [Int.natAbs_pow] at this
theorem pow_lt (n : Nat) : AllLt 4294967296 ((List.replicate (n / 16 + 1) 0).set (n / 16) (2 ^ (n % 16))) := fun x hx => by
  have h1 : 2 ^ (n % 16) < 65536 := Nat.pow_lt_pow_right (n := 16) (by omega) (by omega)
  rcases List.mem_or_eq_of_mem_set hx with h | h
  · rw [List.eq_of_mem_replicate h]; omega
  · omega
theorem pow_lt16 (n : Nat) : AllLt 65536 ((List.replicate (n / 16 + 1) 0).set (n / 16) (2 ^ (n % 16))) := fun x hx => by
  have h1 : 2 ^ (n % 16) < 65536 := Nat.pow_lt_pow_right (n := 16) (by omega) (by omega)
  rcases List.mem_or_eq_of_mem_set hx with h | h
  · rw [List.eq_of_mem_replicate h]; omega
  · omega
theorem pow_u32 (n : Nat) : IntKind.u32.wrap (1 * 2 ^ (n % 16)) = ((2 ^ (n % 16) : Nat) : Int) := by
  have h1 : 2 ^ (n % 16) < 65536 := Nat.pow_lt_pow_right (n := 16) (by omega) (by omega)
  have h2 : ((2 ^ (n % 16) : Nat) : Int) = 2 ^ (n % 16) := by rw [Int.natCast_pow]; rfl
  have key : ∀ q : Nat, q < 65536 → IntKind.u32.wrap (q : Int) = q := fun q hq => IntWalk.u32_in _ (by omega)
  rw [Int.one_mul, ← h2]
  exact key _ h1
theorem val_pow (n : Nat) : val 65536 ((List.replicate (n / 16 + 1) 0).set (n / 16) (2 ^ (n % 16))) = 2 ^ n := by
  rw [val_set_zero 65536 _ _ _ (by simp) (by simp), Anv.val_zeros, Nat.zero_add, show (65536 : Nat) = 2 ^ 16 from rfl, ← Nat.pow_mul, ← Nat.pow_add]
  congr 1; omega
theorem norm_pow {A : Option Addr} {n c : Nat} {w : World} (h : U32 w A (n / 16 + 1) c ((List.replicate (n / 16 + 1) 0).set (n / 16) (2 ^ (n % 16)))) :
    Calls Tryd.prog 84 #[.bool false, .slice A (n / 16 + 1) c] w fun e w' => ∃ v, e = .returned v ∧ RAt w' v (2 ^ n) ∧ Below w.heap.size w w' := by
  refine (norm_ref h (pow_lt16 n)).mono ?_
  rintro e w' ⟨he, hr, hb⟩
  rw [val_pow] at he hr
  have e2 : sg false (2 ^ n) = (2 : Int) ^ n := by unfold sg; rw [if_neg (by decide), Int.natCast_pow]; rfl
  rw [e2] at he hr
  exact ⟨_, he, ⟨_, _, rfl, hr⟩, hb⟩

set_option maxRecDepth 100000 in
theorem shl_neg {A : Option Addr} {n c : Nat} {i : Int} {w0 : World} (hi : i < 0) :
    Calls Tryd.prog 55 #[.slice A n c, .int .i64 i] w0 fun e w' => e = .returned (.tuple #[.slice none 0 0, .int .i64 2]) ∧ Below w0.heap.size w0 w' := by
  refine enter Tryd.func55 rfl Tryd.ntmps55 rfl ?_
  intro a henv hst
  refine wp_seq ?_
  refine region_seq ?_
  refine seq_step rfl (op_val (v := .slice none 0 0) henv rfl (rn_assign henv rfl) ?_)
  clear henv a; intro a henv
  refine seq_step rfl (op_val (v := .int .i64 0) henv rfl (rn_assign henv rfl) ?_)
  clear henv a; intro a henv
  refine wpList_nil ?_
  refine th_n ?_
  refine wp_seq ?_
  refine wp_seq ?_
  refine region_seq ?_
  refine seq_step rfl (op_val (v := .int .i64 i) henv rfl (rn_move henv rfl) ?_)
  clear henv a; intro a henv
  refine seq_step rfl (op_val (v := .bool (decide (i < (0 : Int)))) henv rfl (rn_bin henv rfl rfl rfl) ?_)
  clear henv a; intro a henv
  refine wpList_nil ?_
  refine th_n ?_
  refine if_t henv rfl ((decide_eq_true hi)) ?_
  refine wp_seq ?_
  refine region_seq ?_
  refine seq_step rfl (op_val (v := .slice none 0 0) henv rfl (rn_assign henv rfl) ?_)
  clear henv a; intro a henv
  refine seq_step rfl (op_val (v := .int .i64 2) henv rfl (rn_assign henv rfl) ?_)
  clear henv a; intro a henv
  refine wpList_nil ?_
  refine th_n ?_
  refine wp_ret ?_
  refine th_r ?_
  refine leave henv (res2 Tryd.results55 (RV.tmp henv rfl) (RV.tmp henv rfl)) ?_
  exact ⟨rfl, hst.below⟩

set_option maxRecDepth 100000 in
theorem shl_far {A : Option Addr} {n c : Nat} {i : Int} {w0 : World} (hi : 65536 < i) :
    Calls Tryd.prog 55 #[.slice A n c, .int .i64 i] w0 fun e w' => e = .returned (.tuple #[.slice none 0 0, .int .i64 3]) ∧ Below w0.heap.size w0 w' := by
  refine enter Tryd.func55 rfl Tryd.ntmps55 rfl ?_
  intro a henv hst
  refine wp_seq ?_
  refine region_seq ?_
  refine seq_step rfl (op_val (v := .slice none 0 0) henv rfl (rn_assign henv rfl) ?_)
  clear henv a; intro a henv
  refine seq_step rfl (op_val (v := .int .i64 0) henv rfl (rn_assign henv rfl) ?_)
  clear henv a; intro a henv
  refine wpList_nil ?_
  refine th_n ?_
  refine wp_seq ?_
  refine wp_seq ?_
  refine region_seq ?_
  refine seq_step rfl (op_val (v := .int .i64 i) henv rfl (rn_move henv rfl) ?_)
  clear henv a; intro a henv
  refine seq_step rfl (op_val (v := .bool (decide (i < (0 : Int)))) henv rfl (rn_bin henv rfl rfl rfl) ?_)
  clear henv a; intro a henv
  refine wpList_nil ?_
  refine th_n ?_
  refine if_f henv rfl ((decide_eq_false (by omega))) ?_
  refine wp_skip ?_
  refine th_n ?_
  refine wp_seq ?_
  refine wp_seq ?_
  refine region_seq ?_
  refine seq_step rfl (op_val (v := .int .i64 i) henv rfl (rn_move henv rfl) ?_)
  clear henv a; intro a henv
  refine seq_step rfl (op_val (v := .bool (decide (i > (65536 : Int)))) henv rfl (rn_bin henv rfl rfl rfl) ?_)
  clear henv a; intro a henv
  refine wpList_nil ?_
  refine th_n ?_
  refine if_t henv rfl ((decide_eq_true (by omega))) ?_
  refine wp_seq ?_
  refine region_seq ?_
  refine seq_step rfl (op_val (v := .slice none 0 0) henv rfl (rn_assign henv rfl) ?_)
  clear henv a; intro a henv
  refine seq_step rfl (op_val (v := .int .i64 3) henv rfl (rn_assign henv rfl) ?_)
  clear henv a; intro a henv
  refine wpList_nil ?_
  refine th_n ?_
  refine wp_ret ?_
  refine th_r ?_
  refine leave henv (res2 Tryd.results55 (RV.tmp henv rfl) (RV.tmp henv rfl)) ?_
  exact ⟨rfl, hst.below⟩

set_option maxRecDepth 100000 in
theorem zshl_neg {A : Option Addr} {c : Nat} {x : Int} {i : Int} {w0 : World} (hx : ZIn w0 A c x) (hi : i < 0) :
    Calls Tryd.prog 24 #[.agg #[.bool (neg x), .slice A (zl x) c], .int .i64 i] w0 fun e w' => e = .returned (.tuple #[.agg #[.bool (neg 0), .slice none (zl 0) 0], .int .i64 2]) ∧ Below w0.heap.size w0 w' := by
  refine enter Tryd.func24 rfl Tryd.ntmps24 rfl ?_
  intro a henv hst
  replace hst := hst.addZ (zin_none _) rfl
  replace hst := hst.addZ hx rfl
  clear hx
  refine wp_seq ?_
  refine region_seq ?_
  refine seq_step rfl (op_box (c := #[.bool (neg x), .slice A (zl x) c]) henv hst rfl rfl rfl ?_)
  clear henv hst a; intro a w2 g1 henv hst
  refine seq_step rfl (op_alloc (c := #[.bool (neg 0), .slice none (zl 0) 0]) henv hst rfl zero_anvil_integer_Int zcells ?_)
  clear henv hst a; intro a w4 g3 henv hst
  refine seq_step rfl (op_val (v := .int .i64 0) henv rfl (rn_assign henv rfl) ?_)
  clear henv a; intro a henv
  refine wpList_nil ?_
  refine th_n ?_
  refine wp_seq ?_
  refine region_seq ?_
  refine seq_step rfl (op_val (v := .pointer (some ⟨g1, 1, none⟩)) henv rfl (rn_fieldAddr henv fd_anvil_integer_Int_1 (ty__uint32.size) (by decide) rfl) ?_)
  clear henv a; intro a henv
  refine seq_step rfl (op_val (v := .slice A (zl x) c) henv rfl (rn_load1 henv ty__uint32 rfl (hst.oat (k := 1) rfl) rfl) ?_)
  clear henv a; intro a henv
  refine seq_step rfl (op_val (v := .int .i64 i) henv rfl (rn_move henv rfl) ?_)
  clear henv a; intro a henv
  refine seq_step rfl (op_call henv rfl Tryd.call55 rfl (shl_neg (i := i) hi) ?_)
  rintro e w5 ⟨rfl, hb⟩
  refine ⟨_, rfl, ?_⟩
  clear henv a; intro a henv
  replace hst := hst.call hb
  clear hb
  refine seq_step rfl (op_val (v := .tuple #[.slice none 0 0, .int .i64 2]) henv rfl (rn_move henv rfl) ?_)
  clear henv a; intro a henv
  refine seq_step rfl (op_val (v := .slice none 0 0) henv rfl (rn_extract henv rfl rfl) ?_)
  clear henv a; intro a henv
  refine seq_step rfl (op_val (v := .int .i64 2) henv rfl (rn_extract henv rfl rfl) ?_)
  clear henv a; intro a henv
  refine seq_step rfl (op_val (v := .slice none 0 0) henv rfl (rn_assign henv rfl) ?_)
  clear henv a; intro a henv
  refine seq_step rfl (op_val (v := .int .i64 2) henv rfl (rn_assign henv rfl) ?_)
  clear henv a; intro a henv
  refine wpList_nil ?_
  refine th_n ?_
  refine wp_seq ?_
  refine wp_seq ?_
  refine region_seq ?_
  refine seq_step rfl (op_val (v := .int .i64 2) henv rfl (rn_move henv rfl) ?_)
  clear henv a; intro a henv
  refine seq_step rfl (op_val (v := .bool true) henv rfl (rn_bin henv rfl rfl rfl) ?_)
  clear henv a; intro a henv
  refine wpList_nil ?_
  refine th_n ?_
  refine if_t henv rfl (rfl) ?_
  refine wp_seq ?_
  refine region_seq ?_
  refine seq_step rfl (op_val (v := .agg #[.bool (neg 0), .slice none (zl 0) 0]) henv rfl (rn_zint Tryd.underlying28 zero_anvil_integer_Int (by intro f hf; simp at hf; rcases hf with rfl | rfl <;> exact ⟨_, rfl⟩)) ?_)
  clear henv a; intro a henv
  refine seq_step rfl (op_val (v := .int .i64 2) henv rfl (rn_move henv rfl) ?_)
  clear henv a; intro a henv
  refine seq_step rfl (op_store (k := 0) (c' := #[.bool (neg 0), .slice none (zl 0) 0]) henv hst (ty_anvil_integer_Int.size) rfl rfl rfl rfl (by simp) rfl rfl ?_)
  clear henv hst a; intro a w6 henv hst
  refine seq_step rfl (op_val (v := .int .i64 2) henv rfl (rn_assign henv rfl) ?_)
  clear henv a; intro a henv
  refine wpList_nil ?_
  refine th_n ?_
  refine wp_ret ?_
  refine th_r ?_
  refine leave henv (res2 Tryd.results24 (RV.cell henv ty_anvil_integer_Int rfl (hst.oat (k := 0) rfl) rfl) (RV.tmp henv rfl)) ?_
  exact ⟨rfl, hst.below⟩

set_option maxRecDepth 100000 in
theorem zshl_far {A : Option Addr} {c : Nat} {x : Int} {i : Int} {w0 : World} (hx : ZIn w0 A c x) (hi : 65536 < i) :
    Calls Tryd.prog 24 #[.agg #[.bool (neg x), .slice A (zl x) c], .int .i64 i] w0 fun e w' => e = .returned (.tuple #[.agg #[.bool (neg 0), .slice none (zl 0) 0], .int .i64 3]) ∧ Below w0.heap.size w0 w' := by
  refine enter Tryd.func24 rfl Tryd.ntmps24 rfl ?_
  intro a henv hst
  replace hst := hst.addZ (zin_none _) rfl
  replace hst := hst.addZ hx rfl
  clear hx
  refine wp_seq ?_
  refine region_seq ?_
  refine seq_step rfl (op_box (c := #[.bool (neg x), .slice A (zl x) c]) henv hst rfl rfl rfl ?_)
  clear henv hst a; intro a w2 g1 henv hst
  refine seq_step rfl (op_alloc (c := #[.bool (neg 0), .slice none (zl 0) 0]) henv hst rfl zero_anvil_integer_Int zcells ?_)
  clear henv hst a; intro a w4 g3 henv hst
  refine seq_step rfl (op_val (v := .int .i64 0) henv rfl (rn_assign henv rfl) ?_)
  clear henv a; intro a henv
  refine wpList_nil ?_
  refine th_n ?_
  refine wp_seq ?_
  refine region_seq ?_
  refine seq_step rfl (op_val (v := .pointer (some ⟨g1, 1, none⟩)) henv rfl (rn_fieldAddr henv fd_anvil_integer_Int_1 (ty__uint32.size) (by decide) rfl) ?_)
  clear henv a; intro a henv
  refine seq_step rfl (op_val (v := .slice A (zl x) c) henv rfl (rn_load1 henv ty__uint32 rfl (hst.oat (k := 1) rfl) rfl) ?_)
  clear henv a; intro a henv
  refine seq_step rfl (op_val (v := .int .i64 i) henv rfl (rn_move henv rfl) ?_)
  clear henv a; intro a henv
  refine seq_step rfl (op_call henv rfl Tryd.call55 rfl (shl_far (i := i) hi) ?_)
  rintro e w5 ⟨rfl, hb⟩
  refine ⟨_, rfl, ?_⟩
  clear henv a; intro a henv
  replace hst := hst.call hb
  clear hb
  refine seq_step rfl (op_val (v := .tuple #[.slice none 0 0, .int .i64 3]) henv rfl (rn_move henv rfl) ?_)
  clear henv a; intro a henv
  refine seq_step rfl (op_val (v := .slice none 0 0) henv rfl (rn_extract henv rfl rfl) ?_)
  clear henv a; intro a henv
  refine seq_step rfl (op_val (v := .int .i64 3) henv rfl (rn_extract henv rfl rfl) ?_)
  clear henv a; intro a henv
  refine seq_step rfl (op_val (v := .slice none 0 0) henv rfl (rn_assign henv rfl) ?_)
  clear henv a; intro a henv
  refine seq_step rfl (op_val (v := .int .i64 3) henv rfl (rn_assign henv rfl) ?_)
  clear henv a; intro a henv
  refine wpList_nil ?_
  refine th_n ?_
  refine wp_seq ?_
  refine wp_seq ?_
  refine region_seq ?_
  refine seq_step rfl (op_val (v := .int .i64 3) henv rfl (rn_move henv rfl) ?_)
  clear henv a; intro a henv
  refine seq_step rfl (op_val (v := .bool true) henv rfl (rn_bin henv rfl rfl rfl) ?_)
  clear henv a; intro a henv
  refine wpList_nil ?_
  refine th_n ?_
  refine if_t henv rfl (rfl) ?_
  refine wp_seq ?_
  refine region_seq ?_
  refine seq_step rfl (op_val (v := .agg #[.bool (neg 0), .slice none (zl 0) 0]) henv rfl (rn_zint Tryd.underlying28 zero_anvil_integer_Int (by intro f hf; simp at hf; rcases hf with rfl | rfl <;> exact ⟨_, rfl⟩)) ?_)
  clear henv a; intro a henv
  refine seq_step rfl (op_val (v := .int .i64 3) henv rfl (rn_move henv rfl) ?_)
  clear henv a; intro a henv
  refine seq_step rfl (op_store (k := 0) (c' := #[.bool (neg 0), .slice none (zl 0) 0]) henv hst (ty_anvil_integer_Int.size) rfl rfl rfl rfl (by simp) rfl rfl ?_)
  clear henv hst a; intro a w6 henv hst
  refine seq_step rfl (op_val (v := .int .i64 3) henv rfl (rn_assign henv rfl) ?_)
  clear henv a; intro a henv
  refine wpList_nil ?_
  refine th_n ?_
  refine wp_ret ?_
  refine th_r ?_
  refine leave henv (res2 Tryd.results24 (RV.cell henv ty_anvil_integer_Int rfl (hst.oat (k := 0) rfl) rfl) (RV.tmp henv rfl)) ?_
  exact ⟨rfl, hst.below⟩

set_option maxRecDepth 100000 in
theorem zshl_ok {A : Option Addr} {c : Nat} {x : Int} {n : Nat} {w0 : World} (hx : ZIn w0 A c x) (hn : zl x ≤ 1000000) (hs : n ≤ 65536) :
    Calls Tryd.prog 24 #[.agg #[.bool (neg x), .slice A (zl x) c], .int .i64 (n : Nat)] w0 fun e w' => ∃ v, e = .returned (.tuple #[v, .int .i64 0]) ∧ ZAt w' v (x * 2 ^ n) ∧ Below w0.heap.size w0 w' := by
  refine enter Tryd.func24 rfl Tryd.ntmps24 rfl ?_
  intro a henv hst
  replace hst := hst.addZ (zin_none _) rfl
  replace hst := hst.addZ hx rfl
  clear hx
  refine wp_seq ?_
  refine region_seq ?_
  refine seq_step rfl (op_box (c := #[.bool (neg x), .slice A (zl x) c]) henv hst rfl rfl rfl ?_)
  clear henv hst a; intro a w2 g1 henv hst
  refine seq_step rfl (op_alloc (c := #[.bool (neg 0), .slice none (zl 0) 0]) henv hst rfl zero_anvil_integer_Int zcells ?_)
  clear henv hst a; intro a w4 g3 henv hst
  refine seq_step rfl (op_val (v := .int .i64 0) henv rfl (rn_assign henv rfl) ?_)
  clear henv a; intro a henv
  refine wpList_nil ?_
  refine th_n ?_
  refine wp_seq ?_
  refine region_seq ?_
  refine seq_step rfl (op_val (v := .pointer (some ⟨g1, 1, none⟩)) henv rfl (rn_fieldAddr henv fd_anvil_integer_Int_1 (ty__uint32.size) (by decide) rfl) ?_)
  clear henv a; intro a henv
  refine seq_step rfl (op_val (v := .slice A (zl x) c) henv rfl (rn_load1 henv ty__uint32 rfl (hst.oat (k := 1) rfl) rfl) ?_)
  clear henv a; intro a henv
  refine seq_step rfl (op_val (v := .int .i64 (n : Nat)) henv rfl (rn_move henv rfl) ?_)
  clear henv a; intro a henv
  refine seq_step rfl (op_call henv rfl Tryd.call55 rfl (shl_num (s := n) (show ZIn _ A c x from hst.pat (k := 0) rfl).num hn hs) ?_)
  rintro e w8 ⟨_, rfl, ⟨A5, c6, rfl, hu7, -⟩, hb⟩
  refine ⟨_, rfl, ?_⟩
  clear henv a; intro a henv
  replace hst := (hst.call hb).addU hu7 rfl
  clear hu7
  clear hb
  refine seq_step rfl (op_val (v := .tuple #[.slice A5 (nl (x.natAbs * 2 ^ n)) c6, .int .i64 0]) henv rfl (rn_move henv rfl) ?_)
  clear henv a; intro a henv
  refine seq_step rfl (op_val (v := .slice A5 (nl (x.natAbs * 2 ^ n)) c6) henv rfl (rn_extract henv rfl rfl) ?_)
  clear henv a; intro a henv
  refine seq_step rfl (op_val (v := .int .i64 0) henv rfl (rn_extract henv rfl rfl) ?_)
  clear henv a; intro a henv
  refine seq_step rfl (op_val (v := .slice A5 (nl (x.natAbs * 2 ^ n)) c6) henv rfl (rn_assign henv rfl) ?_)
  clear henv a; intro a henv
  refine seq_step rfl (op_val (v := .int .i64 0) henv rfl (rn_assign henv rfl) ?_)
  clear henv a; intro a henv
  refine wpList_nil ?_
  refine th_n ?_
  refine wp_seq ?_
  refine wp_seq ?_
  refine region_seq ?_
  refine seq_step rfl (op_val (v := .int .i64 0) henv rfl (rn_move henv rfl) ?_)
  clear henv a; intro a henv
  refine seq_step rfl (op_val (v := .bool false) henv rfl (rn_bin henv rfl rfl rfl) ?_)
  clear henv a; intro a henv
  refine wpList_nil ?_
  refine th_n ?_
  refine if_f henv rfl (rfl) ?_
  refine wp_skip ?_
  refine th_n ?_
  refine wp_seq ?_
  refine region_seq ?_
  refine seq_step rfl (op_val (v := .pointer (some ⟨g1, 0, none⟩)) henv rfl (rn_fieldAddr henv fd_anvil_integer_Int_0 (ty_bool.size) (by decide) rfl) ?_)
  clear henv a; intro a henv
  refine seq_step rfl (op_val (v := .bool (neg x)) henv rfl (rn_load1 henv ty_bool rfl (hst.oat (k := 1) rfl) rfl) ?_)
  clear henv a; intro a henv
  refine seq_step rfl (op_val (v := .slice A5 (nl (x.natAbs * 2 ^ n)) c6) henv rfl (rn_move henv rfl) ?_)
  clear henv a; intro a henv
  refine seq_step rfl (op_call henv rfl Tryd.call82 rfl (made_given (b := neg x) (N := (x.natAbs * 2 ^ n)) (z := x * 2 ^ n) (show U32 _ A5 (nl (x.natAbs * 2 ^ n)) c6 (L (x.natAbs * 2 ^ n)) from hst.pat (k := 0) rfl) (sg_shl x n)) ?_)
  rintro e w12 ⟨_, rfl, ⟨A9, c10, rfl, hz11⟩, hb⟩
  refine ⟨_, rfl, ?_⟩
  clear henv a; intro a henv
  replace hst := (hst.call hb).addZ hz11 rfl
  clear hz11
  clear hb
  refine seq_step rfl (op_store (k := 0) (c' := #[.bool (neg (x * 2 ^ n)), .slice A9 (zl (x * 2 ^ n)) c10]) henv hst (ty_anvil_integer_Int.size) rfl rfl rfl rfl (by simp) rfl rfl ?_)
  clear henv hst a; intro a w13 henv hst
  refine seq_step rfl (op_val (v := .int .i64 0) henv rfl (rn_assign henv rfl) ?_)
  clear henv a; intro a henv
  refine wpList_nil ?_
  refine th_n ?_
  refine wp_ret ?_
  refine leave henv (res2 Tryd.results24 (RV.cell henv ty_anvil_integer_Int rfl (hst.oat (k := 0) rfl) rfl) (RV.tmp henv rfl)) ?_
  exact ⟨_, rfl, ⟨_, _, rfl, hst.pat (k := 0) rfl⟩, hst.below⟩

set_option maxRecDepth 100000 in
theorem zshr_neg {A : Option Addr} {c : Nat} {x : Int} {i : Int} {w0 : World} (hx : ZIn w0 A c x) (hi : i < 0) :
    Calls Tryd.prog 25 #[.agg #[.bool (neg x), .slice A (zl x) c], .int .i64 i] w0 fun e w' => e = .returned (.tuple #[.agg #[.bool (neg 0), .slice none (zl 0) 0], .int .i64 2]) ∧ Below w0.heap.size w0 w' := by
  refine enter Tryd.func25 rfl Tryd.ntmps25 rfl ?_
  intro a henv hst
  replace hst := hst.addZ (zin_none _) rfl
  replace hst := hst.addZ hx rfl
  clear hx
  refine wp_seq ?_
  refine region_seq ?_
  refine seq_step rfl (op_box (c := #[.bool (neg x), .slice A (zl x) c]) henv hst rfl rfl rfl ?_)
  clear henv hst a; intro a w2 g1 henv hst
  refine seq_step rfl (op_alloc (c := #[.bool (neg 0), .slice none (zl 0) 0]) henv hst rfl zero_anvil_integer_Int zcells ?_)
  clear henv hst a; intro a w4 g3 henv hst
  refine seq_step rfl (op_val (v := .int .i64 0) henv rfl (rn_assign henv rfl) ?_)
  clear henv a; intro a henv
  refine wpList_nil ?_
  refine th_n ?_
  refine wp_seq ?_
  refine wp_block ?_
  refine wp_seq ?_
  refine region_seq ?_
  refine seq_step rfl (op_val (v := .int .i64 i) henv rfl (rn_move henv rfl) ?_)
  clear henv a; intro a henv
  refine seq_step rfl (op_val (v := .bool (decide (i < (0 : Int)))) henv rfl (rn_bin henv rfl rfl rfl) ?_)
  clear henv a; intro a henv
  refine seq_step rfl (op_val (v := .bool (decide (i < (0 : Int)))) henv rfl (rn_assign henv rfl) ?_)
  clear henv a; intro a henv
  refine wpList_nil ?_
  refine th_n ?_
  refine if_t henv rfl ((decide_eq_true hi)) ?_
  refine wp_seq ?_
  refine region_seq ?_
  refine seq_step rfl (op_val (v := .agg #[.bool (neg 0), .slice none (zl 0) 0]) henv rfl (rn_zint Tryd.underlying28 zero_anvil_integer_Int (by intro f hf; simp at hf; rcases hf with rfl | rfl <;> exact ⟨_, rfl⟩)) ?_)
  clear henv a; intro a henv
  refine seq_step rfl (op_store (k := 0) (c' := #[.bool (neg 0), .slice none (zl 0) 0]) henv hst (ty_anvil_integer_Int.size) rfl rfl rfl rfl (by simp) rfl rfl ?_)
  clear henv hst a; intro a w5 henv hst
  refine seq_step rfl (op_val (v := .int .i64 2) henv rfl (rn_assign henv rfl) ?_)
  clear henv a; intro a henv
  refine wpList_nil ?_
  refine th_n ?_
  refine wp_ret ?_
  refine bl_r (th_r ?_)
  refine leave henv (res2 Tryd.results25 (RV.cell henv ty_anvil_integer_Int rfl (hst.oat (k := 0) rfl) rfl) (RV.tmp henv rfl)) ?_
  exact ⟨rfl, hst.below⟩

set_option maxRecDepth 100000 in
theorem zshr_zero {A : Option Addr} {c : Nat} {i : Int} {w0 : World} (hx : ZIn w0 A c 0) (hi : 0 ≤ i) :
    Calls Tryd.prog 25 #[.agg #[.bool (neg 0), .slice A (zl 0) c], .int .i64 i] w0 fun e w' => e = .returned (.tuple #[.agg #[.bool (neg 0), .slice none (zl 0) 0], .int .i64 0]) ∧ Below w0.heap.size w0 w' := by
  refine enter Tryd.func25 rfl Tryd.ntmps25 rfl ?_
  intro a henv hst
  replace hst := hst.addZ (zin_none _) rfl
  replace hst := hst.addZ hx rfl
  clear hx
  refine wp_seq ?_
  refine region_seq ?_
  refine seq_step rfl (op_box (c := #[.bool (neg 0), .slice A (zl 0) c]) henv hst rfl rfl rfl ?_)
  clear henv hst a; intro a w2 g1 henv hst
  refine seq_step rfl (op_alloc (c := #[.bool (neg 0), .slice none (zl 0) 0]) henv hst rfl zero_anvil_integer_Int zcells ?_)
  clear henv hst a; intro a w4 g3 henv hst
  refine seq_step rfl (op_val (v := .int .i64 0) henv rfl (rn_assign henv rfl) ?_)
  clear henv a; intro a henv
  refine wpList_nil ?_
  refine th_n ?_
  refine wp_seq ?_
  refine wp_block ?_
  refine wp_seq ?_
  refine region_seq ?_
  refine seq_step rfl (op_val (v := .int .i64 i) henv rfl (rn_move henv rfl) ?_)
  clear henv a; intro a henv
  refine seq_step rfl (op_val (v := .bool (decide (i < (0 : Int)))) henv rfl (rn_bin henv rfl rfl rfl) ?_)
  clear henv a; intro a henv
  refine seq_step rfl (op_val (v := .bool (decide (i < (0 : Int)))) henv rfl (rn_assign henv rfl) ?_)
  clear henv a; intro a henv
  refine wpList_nil ?_
  refine th_n ?_
  refine if_f henv rfl ((decide_eq_false (by omega))) ?_
  refine wp_seq ?_
  refine region_seq ?_
  refine seq_step rfl (op_val (v := .agg #[.bool (neg 0), .slice A (zl 0) c]) henv rfl (rn_load0 henv ty_anvil_integer_Int rfl (hst.oat (k := 1) rfl) rfl) ?_)
  clear henv a; intro a henv
  refine seq_step rfl (op_call henv rfl Tryd.call74 rfl (sign_z (z := 0)) ?_)
  rintro e w5 ⟨rfl, hb⟩
  refine ⟨_, rfl, ?_⟩
  clear henv a; intro a henv
  replace hst := hst.call hb
  clear hb
  refine seq_step rfl (op_val (v := .bool ((0 : Int).sign == (0 : Int))) henv rfl (rn_bin henv rfl rfl rfl) ?_)
  clear henv a; intro a henv
  refine seq_step rfl (op_val (v := .bool ((0 : Int).sign == (0 : Int))) henv rfl (rn_assign henv rfl) ?_)
  clear henv a; intro a henv
  refine wpList_nil ?_
  refine th_n ?_
  refine if_t henv rfl (rfl) ?_
  refine wp_seq ?_
  refine region_seq ?_
  refine seq_step rfl (op_val (v := .agg #[.bool (neg 0), .slice none (zl 0) 0]) henv rfl (rn_zint Tryd.underlying28 zero_anvil_integer_Int (by intro f hf; simp at hf; rcases hf with rfl | rfl <;> exact ⟨_, rfl⟩)) ?_)
  clear henv a; intro a henv
  refine seq_step rfl (op_store (k := 0) (c' := #[.bool (neg 0), .slice none (zl 0) 0]) henv hst (ty_anvil_integer_Int.size) rfl rfl rfl rfl (by simp) rfl rfl ?_)
  clear henv hst a; intro a w6 henv hst
  refine seq_step rfl (op_val (v := .int .i64 0) henv rfl (rn_assign henv rfl) ?_)
  clear henv a; intro a henv
  refine wpList_nil ?_
  refine th_n ?_
  refine wp_ret ?_
  refine bl_r (th_r ?_)
  refine leave henv (res2 Tryd.results25 (RV.cell henv ty_anvil_integer_Int rfl (hst.oat (k := 0) rfl) rfl) (RV.tmp henv rfl)) ?_
  exact ⟨rfl, hst.below⟩

set_option maxRecDepth 100000 in
theorem zshr_no {A : Option Addr} {c : Nat} {x : Int} {i : Int} {w0 : World} (hx : ZIn w0 A c x) (hn : zl x ≤ 1000000) (hi : 0 ≤ i) (hx0 : x ≠ 0) (hd : ∀ k, IsTz x.natAbs k → (k : Int) < i) (hT : Deb w0) :
    Calls Tryd.prog 25 #[.agg #[.bool (neg x), .slice A (zl x) c], .int .i64 i] w0 fun e w' => e = .returned (.tuple #[.agg #[.bool (neg 0), .slice none (zl 0) 0], .int .i64 20]) ∧ Below w0.heap.size w0 w' := by
  refine enter Tryd.func25 rfl Tryd.ntmps25 rfl ?_
  intro a henv hst
  replace hst := hst.addZ (zin_none _) rfl
  replace hst := hst.addZ hx rfl
  replace hst := hst.addT hT hT
  clear hx
  refine wp_seq ?_
  refine region_seq ?_
  refine seq_step rfl (op_box (c := #[.bool (neg x), .slice A (zl x) c]) henv hst rfl rfl rfl ?_)
  clear henv hst a; intro a w2 g1 henv hst
  refine seq_step rfl (op_alloc (c := #[.bool (neg 0), .slice none (zl 0) 0]) henv hst rfl zero_anvil_integer_Int zcells ?_)
  clear henv hst a; intro a w4 g3 henv hst
  refine seq_step rfl (op_val (v := .int .i64 0) henv rfl (rn_assign henv rfl) ?_)
  clear henv a; intro a henv
  refine wpList_nil ?_
  refine th_n ?_
  refine wp_seq ?_
  refine wp_block ?_
  refine wp_seq ?_
  refine region_seq ?_
  refine seq_step rfl (op_val (v := .int .i64 i) henv rfl (rn_move henv rfl) ?_)
  clear henv a; intro a henv
  refine seq_step rfl (op_val (v := .bool (decide (i < (0 : Int)))) henv rfl (rn_bin henv rfl rfl rfl) ?_)
  clear henv a; intro a henv
  refine seq_step rfl (op_val (v := .bool (decide (i < (0 : Int)))) henv rfl (rn_assign henv rfl) ?_)
  clear henv a; intro a henv
  refine wpList_nil ?_
  refine th_n ?_
  refine if_f henv rfl ((decide_eq_false (by omega))) ?_
  refine wp_seq ?_
  refine region_seq ?_
  refine seq_step rfl (op_val (v := .agg #[.bool (neg x), .slice A (zl x) c]) henv rfl (rn_load0 henv ty_anvil_integer_Int rfl (hst.oat (k := 1) rfl) rfl) ?_)
  clear henv a; intro a henv
  refine seq_step rfl (op_call henv rfl Tryd.call74 rfl (sign_z (z := x)) ?_)
  rintro e w5 ⟨rfl, hb⟩
  refine ⟨_, rfl, ?_⟩
  clear henv a; intro a henv
  replace hst := hst.call hb
  clear hb
  refine seq_step rfl (op_val (v := .bool (x.sign == (0 : Int))) henv rfl (rn_bin henv rfl rfl rfl) ?_)
  clear henv a; intro a henv
  refine seq_step rfl (op_val (v := .bool (x.sign == (0 : Int))) henv rfl (rn_assign henv rfl) ?_)
  clear henv a; intro a henv
  refine wpList_nil ?_
  refine th_n ?_
  refine if_f henv rfl ((by simpa using hx0)) ?_
  refine wp_seq ?_
  refine region_seq ?_
  refine seq_step rfl (op_val (v := .agg #[.bool (neg x), .slice A (zl x) c]) henv rfl (rn_load0 henv ty_anvil_integer_Int rfl (hst.oat (k := 1) rfl) rfl) ?_)
  clear henv a; intro a henv
  refine seq_step rfl (op_call henv rfl Tryd.call20 rfl (twos_z (x := x) (show ZIn _ A c x from hst.pat (k := 1) rfl) hn hx0 (show Deb _ from hst.pat (k := 0) rfl)) ?_)
  rintro e w7 ⟨k6, rfl, htz, hb⟩
  refine ⟨_, rfl, ?_⟩
  clear henv a; intro a henv
  replace hst := hst.call hb
  clear hb
  refine seq_step rfl (op_val (v := .int .i64 i) henv rfl (rn_move henv rfl) ?_)
  clear henv a; intro a henv
  refine seq_step rfl (op_val (v := .bool (decide (((k6 : Nat) : Int) < i))) henv rfl (rn_bin henv rfl rfl rfl) ?_)
  clear henv a; intro a henv
  refine seq_step rfl (op_val (v := .bool (decide (((k6 : Nat) : Int) < i))) henv rfl (rn_assign henv rfl) ?_)
  clear henv a; intro a henv
  refine wpList_nil ?_
  refine th_n ?_
  refine if_t henv rfl ((decide_eq_true (hd _ htz))) ?_
  refine wp_seq ?_
  refine region_seq ?_
  refine seq_step rfl (op_val (v := .agg #[.bool (neg 0), .slice none (zl 0) 0]) henv rfl (rn_zint Tryd.underlying28 zero_anvil_integer_Int (by intro f hf; simp at hf; rcases hf with rfl | rfl <;> exact ⟨_, rfl⟩)) ?_)
  clear henv a; intro a henv
  refine seq_step rfl (op_store (k := 0) (c' := #[.bool (neg 0), .slice none (zl 0) 0]) henv hst (ty_anvil_integer_Int.size) rfl rfl rfl rfl (by simp) rfl rfl ?_)
  clear henv hst a; intro a w8 henv hst
  refine seq_step rfl (op_val (v := .int .i64 20) henv rfl (rn_assign henv rfl) ?_)
  clear henv a; intro a henv
  refine wpList_nil ?_
  refine th_n ?_
  refine wp_ret ?_
  refine bl_r (th_r ?_)
  refine leave henv (res2 Tryd.results25 (RV.cell henv ty_anvil_integer_Int rfl (hst.oat (k := 0) rfl) rfl) (RV.tmp henv rfl)) ?_
  exact ⟨rfl, hst.below⟩

set_option maxRecDepth 100000 in
theorem zshr_ok {A : Option Addr} {c : Nat} {x : Int} {n : Nat} {w0 : World} (hx : ZIn w0 A c x) (hn : zl x ≤ 1000000) (hs : n ≤ 65536) (hx0 : x ≠ 0) (hd : (2 : Int) ^ n ∣ x) (hT : Deb w0) :
    Calls Tryd.prog 25 #[.agg #[.bool (neg x), .slice A (zl x) c], .int .i64 (n : Nat)] w0 fun e w' => ∃ v, e = .returned (.tuple #[v, .int .i64 0]) ∧ ZAt w' v (x / 2 ^ n) ∧ Below w0.heap.size w0 w' := by
  refine enter Tryd.func25 rfl Tryd.ntmps25 rfl ?_
  intro a henv hst
  replace hst := hst.addZ (zin_none _) rfl
  replace hst := hst.addZ hx rfl
  replace hst := hst.addT hT hT
  clear hx
  refine wp_seq ?_
  refine region_seq ?_
  refine seq_step rfl (op_box (c := #[.bool (neg x), .slice A (zl x) c]) henv hst rfl rfl rfl ?_)
  clear henv hst a; intro a w2 g1 henv hst
  refine seq_step rfl (op_alloc (c := #[.bool (neg 0), .slice none (zl 0) 0]) henv hst rfl zero_anvil_integer_Int zcells ?_)
  clear henv hst a; intro a w4 g3 henv hst
  refine seq_step rfl (op_val (v := .int .i64 0) henv rfl (rn_assign henv rfl) ?_)
  clear henv a; intro a henv
  refine wpList_nil ?_
  refine th_n ?_
  refine wp_seq ?_
  refine wp_block ?_
  refine wp_seq ?_
  refine region_seq ?_
  refine seq_step rfl (op_val (v := .int .i64 (n : Nat)) henv rfl (rn_move henv rfl) ?_)
  clear henv a; intro a henv
  refine seq_step rfl (op_val (v := .bool (decide (((n : Nat) : Int) < (0 : Int)))) henv rfl (rn_bin henv rfl rfl rfl) ?_)
  clear henv a; intro a henv
  refine seq_step rfl (op_val (v := .bool (decide (((n : Nat) : Int) < (0 : Int)))) henv rfl (rn_assign henv rfl) ?_)
  clear henv a; intro a henv
  refine wpList_nil ?_
  refine th_n ?_
  refine if_f henv rfl ((decide_eq_false (by omega))) ?_
  refine wp_seq ?_
  refine region_seq ?_
  refine seq_step rfl (op_val (v := .agg #[.bool (neg x), .slice A (zl x) c]) henv rfl (rn_load0 henv ty_anvil_integer_Int rfl (hst.oat (k := 1) rfl) rfl) ?_)
  clear henv a; intro a henv
  refine seq_step rfl (op_call henv rfl Tryd.call74 rfl (sign_z (z := x)) ?_)
  rintro e w5 ⟨rfl, hb⟩
  refine ⟨_, rfl, ?_⟩
  clear henv a; intro a henv
  replace hst := hst.call hb
  clear hb
  refine seq_step rfl (op_val (v := .bool (x.sign == (0 : Int))) henv rfl (rn_bin henv rfl rfl rfl) ?_)
  clear henv a; intro a henv
  refine seq_step rfl (op_val (v := .bool (x.sign == (0 : Int))) henv rfl (rn_assign henv rfl) ?_)
  clear henv a; intro a henv
  refine wpList_nil ?_
  refine th_n ?_
  refine if_f henv rfl ((by simpa using hx0)) ?_
  refine wp_seq ?_
  refine region_seq ?_
  refine seq_step rfl (op_val (v := .agg #[.bool (neg x), .slice A (zl x) c]) henv rfl (rn_load0 henv ty_anvil_integer_Int rfl (hst.oat (k := 1) rfl) rfl) ?_)
  clear henv a; intro a henv
  refine seq_step rfl (op_call henv rfl Tryd.call20 rfl (twos_z (x := x) (show ZIn _ A c x from hst.pat (k := 1) rfl) hn hx0 (show Deb _ from hst.pat (k := 0) rfl)) ?_)
  rintro e w7 ⟨k6, rfl, htz, hb⟩
  refine ⟨_, rfl, ?_⟩
  clear henv a; intro a henv
  replace hst := hst.call hb
  clear hb
  refine seq_step rfl (op_val (v := .int .i64 (n : Nat)) henv rfl (rn_move henv rfl) ?_)
  clear henv a; intro a henv
  refine seq_step rfl (op_val (v := .bool (decide (((k6 : Nat) : Int) < ((n : Nat) : Int)))) henv rfl (rn_bin henv rfl rfl rfl) ?_)
  clear henv a; intro a henv
  refine seq_step rfl (op_val (v := .bool (decide (((k6 : Nat) : Int) < ((n : Nat) : Int)))) henv rfl (rn_assign henv rfl) ?_)
  clear henv a; intro a henv
  refine wpList_nil ?_
  refine th_n ?_
  refine if_f henv rfl ((decide_eq_false (by have := tz_ge htz hd; omega))) ?_
  refine wp_skip ?_
  refine bl_n (th_n ?_)
  refine wp_seq ?_
  refine region_seq ?_
  refine seq_step rfl (op_val (v := .pointer (some ⟨g1, 1, none⟩)) henv rfl (rn_fieldAddr henv fd_anvil_integer_Int_1 (ty__uint32.size) (by decide) rfl) ?_)
  clear henv a; intro a henv
  refine seq_step rfl (op_val (v := .slice A (zl x) c) henv rfl (rn_load1 henv ty__uint32 rfl (hst.oat (k := 1) rfl) rfl) ?_)
  clear henv a; intro a henv
  refine seq_step rfl (op_val (v := .int .i64 (n : Nat)) henv rfl (rn_move henv rfl) ?_)
  clear henv a; intro a henv
  refine seq_step rfl (op_call henv rfl Tryd.call56 rfl (shr_num (s := n) (show ZIn _ A c x from hst.pat (k := 1) rfl).num hn (by omega)) ?_)
  rintro e w11 ⟨_, rfl, ⟨A8, c9, rfl, hu10, -⟩, hb⟩
  refine ⟨_, rfl, ?_⟩
  clear henv a; intro a henv
  replace hst := (hst.call hb).addU hu10 rfl
  clear hu10
  clear hb
  refine seq_step rfl (op_val (v := .tuple #[.slice A8 (nl (x.natAbs / 2 ^ n)) c9, .int .i64 0]) henv rfl (rn_move henv rfl) ?_)
  clear henv a; intro a henv
  refine seq_step rfl (op_val (v := .slice A8 (nl (x.natAbs / 2 ^ n)) c9) henv rfl (rn_extract henv rfl rfl) ?_)
  clear henv a; intro a henv
  refine seq_step rfl (op_val (v := .int .i64 0) henv rfl (rn_extract henv rfl rfl) ?_)
  clear henv a; intro a henv
  refine seq_step rfl (op_val (v := .slice A8 (nl (x.natAbs / 2 ^ n)) c9) henv rfl (rn_assign henv rfl) ?_)
  clear henv a; intro a henv
  refine seq_step rfl (op_val (v := .int .i64 0) henv rfl (rn_assign henv rfl) ?_)
  clear henv a; intro a henv
  refine wpList_nil ?_
  refine th_n ?_
  refine wp_seq ?_
  refine region_seq ?_
  refine seq_step rfl (op_val (v := .pointer (some ⟨g1, 0, none⟩)) henv rfl (rn_fieldAddr henv fd_anvil_integer_Int_0 (ty_bool.size) (by decide) rfl) ?_)
  clear henv a; intro a henv
  refine seq_step rfl (op_val (v := .bool (neg x)) henv rfl (rn_load1 henv ty_bool rfl (hst.oat (k := 1) rfl) rfl) ?_)
  clear henv a; intro a henv
  refine seq_step rfl (op_val (v := .slice A8 (nl (x.natAbs / 2 ^ n)) c9) henv rfl (rn_move henv rfl) ?_)
  clear henv a; intro a henv
  refine seq_step rfl (op_call henv rfl Tryd.call82 rfl (made_given (b := neg x) (N := (x.natAbs / 2 ^ n)) (z := x / 2 ^ n) (show U32 _ A8 (nl (x.natAbs / 2 ^ n)) c9 (L (x.natAbs / 2 ^ n)) from hst.pat (k := 0) rfl) (sg_shr hd)) ?_)
  rintro e w15 ⟨_, rfl, ⟨A12, c13, rfl, hz14⟩, hb⟩
  refine ⟨_, rfl, ?_⟩
  clear henv a; intro a henv
  replace hst := (hst.call hb).addZ hz14 rfl
  clear hz14
  clear hb
  refine seq_step rfl (op_store (k := 0) (c' := #[.bool (neg (x / 2 ^ n)), .slice A12 (zl (x / 2 ^ n)) c13]) henv hst (ty_anvil_integer_Int.size) rfl rfl rfl rfl (by simp) rfl rfl ?_)
  clear henv hst a; intro a w16 henv hst
  refine seq_step rfl (op_val (v := .int .i64 0) henv rfl (rn_assign henv rfl) ?_)
  clear henv a; intro a henv
  refine wpList_nil ?_
  refine th_n ?_
  refine wp_ret ?_
  refine leave henv (res2 Tryd.results25 (RV.cell henv ty_anvil_integer_Int rfl (hst.oat (k := 0) rfl) rfl) (RV.tmp henv rfl)) ?_
  exact ⟨_, rfl, ⟨_, _, rfl, hst.pat (k := 0) rfl⟩, hst.below⟩

set_option maxRecDepth 100000 in
theorem power_r {n : Nat} {w0 : World} (hs : n ≤ 65536) :
    Calls Tryd.prog 30 #[.int .i64 (n : Nat)] w0 fun e w' => ∃ v, e = .returned v ∧ RAt w' v (2 ^ n) ∧ Below w0.heap.size w0 w' := by
  refine enter Tryd.func30 rfl Tryd.ntmps30 rfl ?_
  intro a henv hst
  refine wp_seq ?_
  refine region_seq ?_
  refine seq_step rfl (op_alloc (c := #[.bool (neg 0), .slice none (dl 0) 0]) henv hst rfl zero_anvil_anvilref02_Int rcells ?_)
  clear henv hst a; intro a w2 g1 henv hst
  refine wpList_nil ?_
  refine th_n ?_
  refine wp_seq ?_
  refine region_seq ?_
  refine seq_step rfl (op_val (v := .int .i64 (n : Nat)) henv rfl (rn_move henv rfl) ?_)
  clear henv a; intro a henv
  refine seq_step rfl (op_val (v := .int .i64 (n / 16 : Nat)) henv rfl (rn_quo henv rfl rfl (by decide) (by rw [show (n : Int).tdiv 16 = ((n / 16 : Nat) : Int) from rfl]; exact IntWalk.i64_in _ (by omega))) ?_)
  clear henv a; intro a henv
  refine seq_step rfl (op_val (v := .int .i64 ((n / 16) + 1 : Nat)) henv rfl (rn_add henv rfl rfl (by rw [IntWalk.i64_in _ (by omega)]; omega)) ?_)
  clear henv a; intro a henv
  refine seq_step rfl (op_makeN (n := (n / 16) + 1) (k := .u32) (bytes := 4) henv hst rfl Tryd.underlying22 info_u32 rfl rfl (by omega) (by omega) ?_)
  clear henv hst a; intro a w4 g3 henv hst
  refine seq_step rfl (op_val (v := .slice (some ⟨g3, 0, none⟩) ((n / 16) + 1) ((n / 16) + 1)) henv rfl (rn_assign henv rfl) ?_)
  clear henv a; intro a henv
  refine wpList_nil ?_
  refine th_n ?_
  refine wp_seq ?_
  refine region_seq ?_
  refine seq_step rfl (op_val (v := .slice (some ⟨g3, 0, none⟩) ((n / 16) + 1) ((n / 16) + 1)) henv rfl (rn_move henv rfl) ?_)
  clear henv a; intro a henv
  refine seq_step rfl (op_val (v := .int .i64 (n : Nat)) henv rfl (rn_move henv rfl) ?_)
  clear henv a; intro a henv
  refine seq_step rfl (op_val (v := .int .i64 (n / 16 : Nat)) henv rfl (rn_quo henv rfl rfl (by decide) (by rw [show (n : Int).tdiv 16 = ((n / 16 : Nat) : Int) from rfl]; exact IntWalk.i64_in _ (by omega))) ?_)
  clear henv a; intro a henv
  refine seq_step rfl (op_val (v := .int .i64 (n : Nat)) henv rfl (rn_move henv rfl) ?_)
  clear henv a; intro a henv
  refine seq_step rfl (op_val (v := .int .i64 (n % 16 : Nat)) henv rfl (rn_rem henv rfl rfl (by decide) rfl) ?_)
  clear henv a; intro a henv
  refine seq_step rfl (op_val (v := .int .u32 (2 ^ (n % 16) : Nat)) henv rfl (rn_shl (s := n % 16) henv rfl rfl (by show n % 16 ≤ 32; omega) (pow_u32 n)) ?_)
  clear henv a; intro a henv
  refine seq_step rfl (op_val (v := .pointer (some ⟨g3, n / 16, none⟩)) henv rfl (rn_idxO (i := n / 16) henv Tryd.underlying22 (ty_uint32.size) rfl rfl (by omega) (by omega)) ?_)
  clear henv a; intro a henv
  refine seq_step rfl (op_storeN (k := 0) henv hst (ty_uint32.size) rfl rfl rfl (by simp) ?_)
  clear henv hst a; intro a w5 henv hst
  refine wpList_nil ?_
  refine th_n ?_
  refine wp_seq ?_
  refine region_seq ?_
  refine seq_step rfl (op_val (v := .slice (some ⟨g3, 0, none⟩) ((n / 16) + 1) ((n / 16) + 1)) henv rfl (rn_move henv rfl) ?_)
  clear henv a; intro a henv
  replace hst := hst.giveU (k := 0) (n := n / 16 + 1) rfl (pow_lt n) (by simp) (by unfold maxLen; omega)
  refine seq_step rfl (op_call henv rfl Tryd.call84 rfl (norm_pow (show U32 _ (some ⟨g3, 0, none⟩) (n / 16 + 1) (n / 16 + 1) ((List.replicate (n / 16 + 1) 0).set (n / 16) (2 ^ (n % 16))) from hst.pat (k := 0) rfl)) ?_)
  rintro e w9 ⟨_, rfl, ⟨A6, c7, rfl, hz8⟩, hb⟩
  refine ⟨_, rfl, ?_⟩
  clear henv a; intro a henv
  replace hst := (hst.call hb).addR hz8 rfl
  clear hz8
  clear hb
  refine seq_step rfl (op_store (k := 0) (c' := #[.bool (neg (2 ^ n)), .slice A6 (dl (2 ^ n)) c7]) henv hst (ty_anvil_anvilref02_Int.size) rfl rfl rfl rfl (by simp) rfl rfl ?_)
  clear henv hst a; intro a w10 henv hst
  refine wpList_nil ?_
  refine th_n ?_
  refine wp_ret ?_
  refine leave henv (res1 Tryd.results30 (RV.cell henv ty_anvil_anvilref02_Int rfl (hst.oat (k := 0) rfl) rfl)) ?_
  exact ⟨_, rfl, ⟨_, _, rfl, hst.pat (k := 0) rfl⟩, hst.below⟩

end Go.Proofs.YtnldopjbiacbfaaDoor
