/- Shifts of numbers; powers of two. Printed by pv/gen_twos2.py. No condition. -/
import Derived.Test.YtnldopjbiacbfaaDoorM17
import Derived.Test.YtnldopjbiacbfaaDoorM8
import Derived.Test.YtnldopjbiacbfaaDoorM6
import Derived.Test.YtnldopjbiacbfaaDoorM7
import Derived.Test.YtnldopjbiacbfaaDoorM21

namespace Go.Proofs.YtnldopjbiacbfaaDoor
open Go.RowKit Anv

theorem made_given {b : Bool} {A : Option Addr} {c N : Nat} {z : Int} {w : World} (h : U32 w A (nl N) c (L N)) (hz : sg b N = z) :
    Calls Tryd.prog 82 #[.bool b, .slice A (nl N) c] w fun e w' => ∃ v, e = .returned v ∧ ZAt w' v z ∧ Below w.heap.size w w' := by
  subst hz
  exact (made_num h).mono fun _ _ ⟨he, hz, hb⟩ => ⟨_, he, ⟨_, _, rfl, hz⟩, hb⟩
theorem sg_shl (x : Int) (n : Nat) : sg (neg x) (x.natAbs * 2 ^ n) = x * 2 ^ n := by
  have h : ((x.natAbs * 2 ^ n : Nat) : Int) = (x.natAbs : Int) * 2 ^ n := by rw [Int.natCast_mul, Int.natCast_pow]; rfl
  unfold sg neg
  by_cases hx : x < 0
  · simp only [hx, decide_true, if_true]; rw [h, ← Int.neg_mul]; congr 1; omega
  · simp only [hx, decide_false, Bool.false_eq_true, if_false]; rw [h]; congr 1; omega
theorem sg_shr {x : Int} {n : Nat} (h : (2 : Int) ^ n ∣ x) : sg (neg x) (x.natAbs / 2 ^ n) = x / 2 ^ n := by
  obtain ⟨m, rfl⟩ := h
  have hp : (2 : Int) ^ n = ((2 ^ n : Nat) : Int) := by rw [Int.natCast_pow]; rfl
  have h0 : 0 < 2 ^ n := Nat.two_pow_pos n
  rw [hp, Int.natAbs_mul, Int.natAbs_natCast, Nat.mul_div_cancel_left _ h0, Int.mul_ediv_cancel_left _ (by omega)]
  unfold sg neg
  by_cases hm : m < 0
  · have : ((2 ^ n : Nat) : Int) * m < 0 := Int.mul_neg_of_pos_of_neg (by omega) hm
    simp only [this, decide_true, if_true]; omega
  · have : ¬ ((2 ^ n : Nat) : Int) * m < 0 := by have := Int.mul_nonneg (show (0 : Int) ≤ ((2 ^ n : Nat) : Int) by omega) (show 0 ≤ m by omega); omega
    simp only [this, decide_false, Bool.false_eq_true, if_false]; omega
theorem tz_ge {x : Int} {n k : Nat} (h : IsTz x.natAbs k) (hd : (2 : Int) ^ n ∣ x) : n ≤ k := by
  refine (h.dvd n).1 ?_
  have := Int.natAbs_dvd_natAbs.2 hd
  rwa [Int.natAbs_pow] at this
theorem pow_lt (n : Nat) : AllLt 4294967296 ((List.replicate (n / 16 + 1) 0).set (n / 16) (2 ^ (n % 16))) := fun x hx => by
  have h1 : 2 ^ (n % 16) < 65536 := Nat.pow_lt_pow_right (n := 16) (by omega) (by omega)
  rcases List.mem_or_eq_of_mem_set hx with h | h
  · rw [List.eq_of_mem_replicate h]; omega
  · omega
theorem pow_lt16 (n : Nat) : AllLt 65536 ((List.replicate (n / 16 + 1) 0).set (n / 16) (2 ^ (n % 16))) := fun x hx => by
  have h1 : 2 ^ (n % 16) < 65536 := Nat.pow_lt_pow_right (n := 16) (by omega) (by omega)
  rcases List.mem_or_eq_of_mem_set hx with h | h
  · rw [List.eq_of_mem_replicate h]; omega
  · omega
theorem pow_u32 (n : Nat) : IntKind.u32.wrap (1 * 2 ^ (n % 16)) = ((2 ^ (n % 16) : Nat) : Int) := by
  have h1 : 2 ^ (n % 16) < 65536 := Nat.pow_lt_pow_right (n := 16) (by omega) (by omega)
  have h2 : ((2 ^ (n % 16) : Nat) : Int) = 2 ^ (n % 16) := by rw [Int.natCast_pow]; rfl
  have key : ∀ q : Nat, q < 65536 → IntKind.u32.wrap (q : Int) = q := fun q hq => IntWalk.u32_in _ (by omega)
  rw [Int.one_mul, ← h2]
  exact key _ h1
theorem val_pow (n : Nat) : val 65536 ((List.replicate (n / 16 + 1) 0).set (n / 16) (2 ^ (n % 16))) = 2 ^ n := by
  rw [val_set_zero 65536 _ _ _ (by simp) (by simp), Anv.val_zeros, Nat.zero_add, show (65536 : Nat) = 2 ^ 16 from rfl, ← Nat.pow_mul, ← Nat.pow_add]
  congr 1; omega
theorem norm_pow {A : Option Addr} {n c : Nat} {w : World} (h : U32 w A (n / 16 + 1) c ((List.replicate (n / 16 + 1) 0).set (n / 16) (2 ^ (n % 16)))) :
    Calls Tryd.prog 84 #[.bool false, .slice A (n / 16 + 1) c] w fun e w' => ∃ v, e = .returned v ∧ RAt w' v (2 ^ n) ∧ Below w.heap.size w w' := by
  refine (norm_ref h (pow_lt16 n)).mono ?_
  rintro e w' ⟨he, hr, hb⟩
  rw [val_pow] at he hr
  have e2 : sg false (2 ^ n) = (2 : Int) ^ n := by unfold sg; rw [if_neg (by decide), Int.natCast_pow]; rfl
  rw [e2] at he hr
  exact ⟨_, he, ⟨_, _, rfl, hr⟩, hb⟩

set_option maxRecDepth 100000 in
theorem shl_neg {A : Option Addr} {n c : Nat} {i : Int} {w0 : World} (hi : i < 0) :
    Calls Tryd.prog 55 #[.slice A n c, .int .i64 i] w0 fun e w' => e = .returned (.tuple #[.slice none 0 0, .int .i64 2]) ∧ Below w0.heap.size w0 w' := by
  refine enter Tryd.func55 rfl Tryd.ntmps55 rfl ?_
  intro a henv hst
  refine wp_seq ?_
  refine region_seq ?_
  refine seq_step rfl (op_val (v := .slice none 0 0) henv rfl (rn_assign henv rfl) ?_)
  clear henv a; intro a henv
  refine seq_step rfl (op_val (v := .int .i64 0) henv rfl (rn_assign henv rfl) ?_)
  clear henv a; intro a henv
  refine wpList_nil ?_
  refine th_n ?_
  refine wp_seq ?_
  refine wp_seq ?_
  refine region_seq ?_
  refine seq_step rfl (op_val (v := .int .i64 i) henv rfl (rn_move henv rfl) ?_)
  clear henv a; intro a henv
  refine seq_step rfl (op_val (v := .bool (decide (i < (0 : Int)))) henv rfl (rn_bin henv rfl rfl rfl) ?_)
  clear henv a; intro a henv
  refine wpList_nil ?_
  refine th_n ?_
  refine if_t henv rfl ((decide_eq_true hi)) ?_
  refine wp_seq ?_
  refine region_seq ?_
  refine seq_step rfl (op_val (v := .slice none 0 0) henv rfl (rn_assign henv rfl) ?_)
  clear henv a; intro a henv
  refine seq_step rfl (op_val (v := .int .i64 2) henv rfl (rn_assign henv rfl) ?_)
  clear henv a; intro a henv
  refine wpList_nil ?_
  refine th_n ?_
  refine wp_ret ?_
  refine th_r ?_
  refine leave henv (res2 Tryd.results55 (RV.tmp henv rfl) (RV.tmp henv rfl)) ?_
  exact ⟨rfl, hst.below⟩

set_option maxRecDepth 100000 in
theorem shl_far {A : Option Addr} {n c : Nat} {i : Int} {w0 : World} (hi : 65536 < i) :
    Calls Tryd.prog 55 #[.slice A n c, .int .i64 i] w0 fun e w' => e = .returned (.tuple #[.slice none 0 0, .int .i64 3]) ∧ Below w0.heap.size w0 w' := by
  refine enter Tryd.func55 rfl Tryd.ntmps55 rfl ?_
  intro a henv hst
  refine wp_seq ?_
  refine region_seq ?_
  refine seq_step rfl (op_val (v := .slice none 0 0) henv rfl (rn_assign henv rfl) ?_)
  clear henv a; intro a henv
  refine seq_step rfl (op_val (v := .int .i64 0) henv rfl (rn_assign henv rfl) ?_)
  clear henv a; intro a henv
  refine wpList_nil ?_
  refine th_n ?_
  refine wp_seq ?_
  refine wp_seq ?_
  refine region_seq ?_
  refine seq_step rfl (op_val (v := .int .i64 i) henv rfl (rn_move henv rfl) ?_)
  clear henv a; intro a henv
  refine seq_step rfl (op_val (v := .bool (decide (i < (0 : Int)))) henv rfl (rn_bin henv rfl rfl rfl) ?_)
  clear henv a; intro a henv
  refine wpList_nil ?_
  refine th_n ?_
  refine if_f henv rfl ((decide_eq_false (by omega))) ?_
  refine wp_skip ?_
  refine th_n ?_
  refine wp_seq ?_
  refine wp_seq ?_
  refine region_seq ?_
  refine seq_step rfl (op_val (v := .int .i64 i) henv rfl (rn_move henv rfl) ?_)
  clear henv a; intro a henv
  refine seq_step rfl (op_val (v := .bool (decide (i > (65536 : Int)))) henv rfl (rn_bin henv rfl rfl rfl) ?_)
  clear henv a; intro a henv
  refine wpList_nil ?_
  refine th_n ?_
  refine if_t henv rfl ((decide_eq_true (by omega))) ?_
  refine wp_seq ?_
  refine region_seq ?_
  refine seq_step rfl (op_val (v := .slice none 0 0) henv rfl (rn_assign henv rfl) ?_)
  clear henv a; intro a henv
  refine seq_step rfl (op_val (v := .int .i64 3) henv rfl (rn_assign henv rfl) ?_)
  clear henv a; intro a henv
  refine wpList_nil ?_
  refine th_n ?_
  refine wp_ret ?_
  refine th_r ?_
  refine leave henv (res2 Tryd.results55 (RV.tmp henv rfl) (RV.tmp henv rfl)) ?_
  exact ⟨rfl, hst.below⟩

set_option maxRecDepth 100000 in
theorem zshl_neg {A : Option Addr} {c : Nat} {x : Int} {i : Int} {w0 : World} (hx : ZIn w0 A c x) (hi : i < 0) :
    Calls Tryd.prog 24 #[.agg #[.bool (neg x), .slice A (zl x) c], .int .i64 i] w0 fun e w' => e = .returned (.tuple #[.agg #[.bool (neg 0), .slice none (zl 0) 0], .int .i64 2]) ∧ Below w0.heap.size w0 w' := by
  refine enter Tryd.func24 rfl Tryd.ntmps24 rfl ?_
  intro a henv hst
  replace hst := hst.addZ (zin_none _) rfl
  replace hst := hst.addZ hx rfl
  clear hx
  refine wp_seq ?_
  refine region_seq ?_
  refine seq_step rfl (op_box (c := #[.bool (neg x), .slice A (zl x) c]) henv hst rfl rfl rfl ?_)
  clear henv hst a; intro a w2 g1 henv hst
  refine seq_step rfl (op_alloc (c := #[.bool (neg 0), .slice none (zl 0) 0]) henv hst rfl zero_anvil_integer_Int zcells ?_)
  clear henv hst a; intro a w4 g3 henv hst
  refine seq_step rfl (op_val (v := .int .i64 0) henv rfl (rn_assign henv rfl) ?_)
  clear henv a; intro a henv
  refine wpList_nil ?_
  refine th_n ?_
  refine wp_seq ?_
  refine region_seq ?_
  refine seq_step rfl (op_val (v := .pointer (some ⟨g1, 1, none⟩)) henv rfl (rn_fieldAddr henv fd_anvil_integer_Int_1 (ty__uint32.size) (by decide) rfl) ?_)
  clear henv a; intro a henv
  refine seq_step rfl (op_val (v := .slice A (zl x) c) henv rfl (rn_load1 henv ty__uint32 rfl (hst.oat (k := 1) rfl) rfl) ?_)
  clear henv a; intro a henv
  refine seq_step rfl (op_val (v := .int .i64 i) henv rfl (rn_move henv rfl) ?_)
  clear henv a; intro a henv
  refine seq_step rfl (op_call henv rfl Tryd.call55 rfl (shl_neg (i := i) hi) ?_)
  rintro e w5 ⟨rfl, hb⟩
  refine ⟨_, rfl, ?_⟩
  clear henv a; intro a henv
  replace hst := hst.call hb
  clear hb
  refine seq_step rfl (op_val (v := .tuple #[.slice none 0 0, .int .i64 2]) henv rfl (rn_move henv rfl) ?_)
  clear henv a; intro a henv
  refine seq_step rfl (op_val (v := .slice none 0 0) henv rfl (rn_extract henv rfl rfl) ?_)
  clear henv a; intro a henv
  refine seq_step rfl (op_val (v := .int .i64 2) henv rfl (rn_extract henv rfl rfl) ?_)
  clear henv a; intro a henv
  refine seq_step rfl (op_val (v := .slice none 0 0) henv rfl (rn_assign henv rfl) ?_)
  clear henv a; intro a henv
  refine seq_step rfl (op_val (v := .int .i64 2) henv rfl (rn_assign henv rfl) ?_)
  clear henv a; intro a henv
  refine wpList_nil ?_
  refine th_n ?_
  refine wp_seq ?_
  refine wp_seq ?_
  refine region_seq ?_
  refine seq_step rfl (op_val (v := .int .i64 2) henv rfl (rn_move henv rfl) ?_)
  clear henv a; intro a henv
  refine seq_step rfl (op_val (v := .bool true) henv rfl (rn_bin henv rfl rfl rfl) ?_)
  clear henv a; intro a henv
  refine wpList_nil ?_
  refine th_n ?_
  refine if_t henv rfl (rfl) ?_
  refine wp_seq ?_
  refine region_seq ?_
  refine seq_step rfl (op_val (v := .agg #[.bool (neg 0), .slice none (zl 0) 0]) henv rfl (rn_zint Tryd.underlying28 zero_anvil_integer_Int (by intro f hf; simp at hf; rcases hf with rfl | rfl <;> exact ⟨_, rfl⟩)) ?_)
  clear henv a; intro a henv
  refine seq_step rfl (op_val (v := .int .i64 2) henv rfl (rn_move henv rfl) ?_)
  clear henv a; intro a henv
  refine seq_step rfl (op_store (k := 0) (c' := #[.bool (neg 0), .slice none (zl 0) 0]) henv hst (ty_anvil_integer_Int.size) rfl rfl rfl rfl (by simp) rfl rfl ?_)
  clear henv hst a; intro a w6 henv hst
  refine seq_step rfl (op_val (v := .int .i64 2) henv rfl (rn_assign henv rfl) ?_)
  clear henv a; intro a henv
  refine wpList_nil ?_
  refine th_n ?_
  refine wp_ret ?_
  refine th_r ?_
  refine leave henv (res2 Tryd.results24 (RV.cell henv ty_anvil_integer_Int rfl (hst.oat (k := 0) rfl) rfl) (RV.tmp henv rfl)) ?_
  exact ⟨rfl, hst.below⟩

set_option maxRecDepth 100000 in
theorem zshl_far {A : Option Addr} {c : Nat} {x : Int} {i : Int} {w0 : World} (hx : ZIn w0 A c x) (hi : 65536 < i) :
    Calls Tryd.prog 24 #[.agg #[.bool (neg x), .slice A (zl x) c], .int .i64 i] w0 fun e w' => e = .returned (.tuple #[.agg #[.bool (neg 0), .slice none (zl 0) 0], .int .i64 3]) ∧ Below w0.heap.size w0 w' := by
  refine enter Tryd.func24 rfl Tryd.ntmps24 rfl ?_
  intro a henv hst
  replace hst := hst.addZ (zin_none _) rfl
  replace hst := hst.addZ hx rfl
  clear hx
  refine wp_seq ?_
  refine region_seq ?_
  refine seq_step rfl (op_box (c := #[.bool (neg x), .slice A (zl x) c]) henv hst rfl rfl rfl ?_)
  clear henv hst a; intro a w2 g1 henv hst
  refine seq_step rfl (op_alloc (c := #[.bool (neg 0), .slice none (zl 0) 0]) henv hst rfl zero_anvil_integer_Int zcells ?_)
  clear henv hst a; intro a w4 g3 henv hst
  refine seq_step rfl (op_val (v := .int .i64 0) henv rfl (rn_assign henv rfl) ?_)
  clear henv a; intro a henv
  refine wpList_nil ?_
  refine th_n ?_
  refine wp_seq ?_
  refine region_seq ?_
  refine seq_step rfl (op_val (v := .pointer (some ⟨g1, 1, none⟩)) henv rfl (rn_fieldAddr henv fd_anvil_integer_Int_1 (ty__uint32.size) (by decide) rfl) ?_)
  clear henv a; intro a henv
  refine seq_step rfl (op_val (v := .slice A (zl x) c) henv rfl (rn_load1 henv ty__uint32 rfl (hst.oat (k := 1) rfl) rfl) ?_)
  clear henv a; intro a henv
  refine seq_step rfl (op_val (v := .int .i64 i) henv rfl (rn_move henv rfl) ?_)
  clear henv a; intro a henv
  refine seq_step rfl (op_call henv rfl Tryd.call55 rfl (shl_far (i := i) hi) ?_)
  rintro e w5 ⟨rfl, hb⟩
  refine ⟨_, rfl, ?_⟩
  clear henv a; intro a henv
  replace hst := hst.call hb
  clear hb
  refine seq_step rfl (op_val (v := .tuple #[.slice none 0 0, .int .i64 3]) henv rfl (rn_move henv rfl) ?_)
  clear henv a; intro a henv
  refine seq_step rfl (op_val (v := .slice none 0 0) henv rfl (rn_extract henv rfl rfl) ?_)
  clear henv a; intro a henv
  refine seq_step rfl (op_val (v := .int .i64 3) henv rfl (rn_extract henv rfl rfl) ?_)
  clear henv a; intro a henv
  refine seq_step rfl (op_val (v := .slice none 0 0) henv rfl (rn_assign henv rfl) ?_)
  clear henv a; intro a henv
  refine seq_step rfl (op_val (v := .int .i64 3) henv rfl (rn_assign henv rfl) ?_)
  clear henv a; intro a henv
  refine wpList_nil ?_
  refine th_n ?_
  refine wp_seq ?_
  refine wp_seq ?_
  refine region_seq ?_
  refine seq_step rfl (op_val (v := .int .i64 3) henv rfl (rn_move henv rfl) ?_)
  clear henv a; intro a henv
  refine seq_step rfl (op_val (v := .bool true) henv rfl (rn_bin henv rfl rfl rfl) ?_)
  clear henv a; intro a henv
  refine wpList_nil ?_
  refine th_n ?_
  refine if_t henv rfl (rfl) ?_
  refine wp_seq ?_
  refine region_seq ?_
  refine seq_step rfl (op_val (v := .agg #[.bool (neg 0), .slice none (zl 0) 0]) henv rfl (rn_zint Tryd.underlying28 zero_anvil_integer_Int (by intro f hf; simp at hf; rcases hf with rfl | rfl <;> exact ⟨_, rfl⟩)) ?_)
  clear henv a; intro a henv
  refine seq_step rfl (op_val (v := .int .i64 3) henv rfl (rn_move henv rfl) ?_)
  clear henv a; intro a henv
  refine seq_step rfl (op_store (k := 0) (c' := #[.bool (neg 0), .slice none (zl 0) 0]) henv hst (ty_anvil_integer_Int.size) rfl rfl rfl rfl (by simp) rfl rfl ?_)
  clear henv hst a; intro a w6 henv hst
  refine seq_step rfl (op_val (v := .int .i64 3) henv rfl (rn_assign henv rfl) ?_)
  clear henv a; intro a henv
  refine wpList_nil ?_
  refine th_n ?_
  refine wp_ret ?_
  refine th_r ?_
  refine leave henv (res2 Tryd.results24 (RV.cell henv ty_anvil_integer_Int rfl (hst.oat (k := 0) rfl) rfl) (RV.tmp henv rfl)) ?_
  exact ⟨rfl, hst.below⟩

set_option maxRecDepth 100000 in
theorem zshl_ok {A : Option Addr} {c : Nat} {x : Int} {n : Nat} {w0 : World} (hx : ZIn w0 A c x) (hn : zl x ≤ 1000000) (hs : n ≤ 65536) :
    Calls Tryd.prog 24 #[.agg #[.bool (neg x), .slice A (zl x) c], .int .i64 (n : Nat)] w0 fun e w' => ∃ v, e = .returned (.tuple #[v, .int .i64 0]) ∧ ZAt w' v (x * 2 ^ n) ∧ Below w0.heap.size w0 w' := by
  refine enter Tryd.func24 rfl Tryd.ntmps24 rfl ?_
  intro a henv hst
  replace hst := hst.addZ (zin_none _) rfl
  replace hst := hst.addZ hx rfl
  clear hx
  refine wp_seq ?_
  refine region_seq ?_
  refine seq_step rfl (op_box (c := #[.bool (neg x), .slice A (zl x) c]) henv hst rfl rfl rfl ?_)
  clear henv hst a; intro a w2 g1 henv hst
  refine seq_step rfl (op_alloc (c := #[.bool (neg 0), .slice none (zl 0) 0]) henv hst rfl zero_anvil_integer_Int zcells ?_)
  clear henv hst a; intro a w4 g3 henv hst
  refine seq_step rfl (op_val (v := .int .i64 0) henv rfl (rn_assign henv rfl) ?_)
  clear henv a; intro a henv
  refine wpList_nil ?_
  refine th_n ?_
  refine wp_seq ?_
  refine region_seq ?_
  refine seq_step rfl (op_val (v := .pointer (some ⟨g1, 1, none⟩)) henv rfl (rn_fieldAddr henv fd_anvil_integer_Int_1 (ty__uint32.size) (by decide) rfl) ?_)
  clear henv a; intro a henv
  refine seq_step rfl (op_val (v := .slice A (zl x) c) henv rfl (rn_load1 henv ty__uint32 rfl (hst.oat (k := 1) rfl) rfl) ?_)
  clear henv a; intro a henv
  refine seq_step rfl (op_val (v := .int .i64 (n : Nat)) henv rfl (rn_move henv rfl) ?_)
  clear henv a; intro a henv
  refine seq_step rfl (op_call henv rfl Tryd.call55 rfl (shl_num (s := n) (show ZIn _ A c x from hst.pat (k := 0) rfl).num hn hs) ?_)
  rintro e w8 ⟨_, rfl, ⟨A5, c6, rfl, hu7, -⟩, hb⟩
  refine ⟨_, rfl, ?_⟩
  clear henv a; intro a henv
  replace hst := (hst.call hb).addU hu7 rfl
  clear hu7
  clear hb
  refine seq_step rfl (op_val (v := .tuple #[.slice A5 (nl (x.natAbs * 2 ^ n)) c6, .int .i64 0]) henv rfl (rn_move henv rfl) ?_)
  clear henv a; intro a henv
  refine seq_step rfl (op_val (v := .slice A5 (nl (x.natAbs * 2 ^ n)) c6) henv rfl (rn_extract henv rfl rfl) ?_)
  clear henv a; intro a henv
  refine seq_step rfl (op_val (v := .int .i64 0) henv rfl (rn_extract henv rfl rfl) ?_)
  clear henv a; intro a henv
  refine seq_step rfl (op_val (v := .slice A5 (nl (x.natAbs * 2 ^ n)) c6) henv rfl (rn_assign henv rfl) ?_)
  clear henv a; intro a henv
  refine seq_step rfl (op_val (v := .int .i64 0) henv rfl (rn_assign henv rfl) ?_)
  clear henv a; intro a henv
  refine wpList_nil ?_
  refine th_n ?_
  refine wp_seq ?_
  refine wp_seq ?_
  refine region_seq ?_
  refine seq_step rfl (op_val (v := .int .i64 0) henv rfl (rn_move henv rfl) ?_)
  clear henv a; intro a henv
  refine seq_step rfl (op_val (v := .bool false) henv rfl (rn_bin henv rfl rfl rfl) ?_)
  clear henv a; intro a henv
  refine wpList_nil ?_
  refine th_n ?_
  refine if_f henv rfl (rfl) ?_
  refine wp_skip ?_
  refine th_n ?_
  refine wp_seq ?_
  refine region_seq ?_
  refine seq_step rfl (op_val (v := .pointer (some ⟨g1, 0, none⟩)) henv rfl (rn_fieldAddr henv fd_anvil_integer_Int_0 (ty_bool.size) (by decide) rfl) ?_)
  clear henv a; intro a henv
  refine seq_step rfl (op_val (v := .bool (neg x)) henv rfl (rn_load1 henv ty_bool rfl (hst.oat (k := 1) rfl) rfl) ?_)
  clear henv a; intro a henv
  refine seq_step rfl (op_val (v := .slice A5 (nl (x.natAbs * 2 ^ n)) c6) henv rfl (rn_move henv rfl) ?_)
  clear henv a; intro a henv
  refine seq_step rfl (op_call henv rfl Tryd.call82 rfl (made_given (b := neg x) (N := (x.natAbs * 2 ^ n)) (z := x * 2 ^ n) (show U32 _ A5 (nl (x.natAbs * 2 ^ n)) c6 (L (x.natAbs * 2 ^ n)) from hst.pat (k := 0) rfl) (sg_shl x n)) ?_)
  rintro e w12 ⟨_, rfl, ⟨A9, c10, rfl, hz11⟩, hb⟩
  refine ⟨_, rfl, ?_⟩
  clear henv a; intro a henv
  replace hst := (hst.call hb).addZ hz11 rfl
  clear hz11
  clear hb
  refine seq_step rfl (op_store (k := 0) (c' := #[.bool (neg (x * 2 ^ n)), .slice A9 (zl (x * 2 ^ n)) c10]) henv hst (ty_anvil_integer_Int.size) rfl rfl rfl rfl (by simp) rfl rfl ?_)
  clear henv hst a; intro a w13 henv hst
  refine seq_step rfl (op_val (v := .int .i64 0) henv rfl (rn_assign henv rfl) ?_)
  clear henv a; intro a henv
  refine wpList_nil ?_
  refine th_n ?_
  refine wp_ret ?_
  refine leave henv (res2 Tryd.results24 (RV.cell henv ty_anvil_integer_Int rfl (hst.oat (k := 0) rfl) rfl) (RV.tmp henv rfl)) ?_
  exact ⟨_, rfl, ⟨_, _, rfl, hst.pat (k := 0) rfl⟩, hst.below⟩

set_option maxRecDepth 100000 in
theorem zshr_neg {A : Option Addr} {c : Nat} {x : Int} {i : Int} {w0 : World} (hx : ZIn w0 A c x) (hi : i < 0) :
    Calls Tryd.prog 25 #[.agg #[.bool (neg x), .slice A (zl x) c], .int .i64 i] w0 fun e w' => e = .returned (.tuple #[.agg #[.bool (neg 0), .slice none (zl 0) 0], .int .i64 2]) ∧ Below w0.heap.size w0 w' := by
  refine enter Tryd.func25 rfl Tryd.ntmps25 rfl ?_
  intro a henv hst
  replace hst := hst.addZ (zin_none _) rfl
  replace hst := hst.addZ hx rfl
  clear hx
  refine wp_seq ?_
  refine region_seq ?_
  refine seq_step rfl (op_box (c := #[.bool (neg x), .slice A (zl x) c]) henv hst rfl rfl rfl ?_)
  clear henv hst a; intro a w2 g1 henv hst
  refine seq_step rfl (op_alloc (c := #[.bool (neg 0), .slice none (zl 0) 0]) henv hst rfl zero_anvil_integer_Int zcells ?_)
  clear henv hst a; intro a w4 g3 henv hst
  refine seq_step rfl (op_val (v := .int .i64 0) henv rfl (rn_assign henv rfl) ?_)
  clear henv a; intro a henv
  refine wpList_nil ?_
  refine th_n ?_
  refine wp_seq ?_
  refine wp_block ?_
  refine wp_seq ?_
  refine region_seq ?_
  refine seq_step rfl (op_val (v := .int .i64 i) henv rfl (rn_move henv rfl) ?_)
  clear henv a; intro a henv
  refine seq_step rfl (op_val (v := .bool (decide (i < (0 : Int)))) henv rfl (rn_bin henv rfl rfl rfl) ?_)
  clear henv a; intro a henv
  refine seq_step rfl (op_val (v := .bool (decide (i < (0 : Int)))) henv rfl (rn_assign henv rfl) ?_)
  clear henv a; intro a henv
  refine wpList_nil ?_
  refine th_n ?_
  refine if_t henv rfl ((decide_eq_true hi)) ?_
  refine wp_seq ?_
  refine region_seq ?_
  refine seq_step rfl (op_val (v := .agg #[.bool (neg 0), .slice none (zl 0) 0]) henv rfl (rn_zint Tryd.underlying28 zero_anvil_integer_Int (by intro f hf; simp at hf; rcases hf with rfl | rfl <;> exact ⟨_, rfl⟩)) ?_)
  clear henv a; intro a henv
  refine seq_step rfl (op_store (k := 0) (c' := #[.bool (neg 0), .slice none (zl 0) 0]) henv hst (ty_anvil_integer_Int.size) rfl rfl rfl rfl (by simp) rfl rfl ?_)
  clear henv hst a; intro a w5 henv hst
  refine seq_step rfl (op_val (v := .int .i64 2) henv rfl (rn_assign henv rfl) ?_)
  clear henv a; intro a henv
  refine wpList_nil ?_
  refine th_n ?_
  refine wp_ret ?_
  refine bl_r (th_r ?_)
  refine leave henv (res2 Tryd.results25 (RV.cell henv ty_anvil_integer_Int rfl (hst.oat (k := 0) rfl) rfl) (RV.tmp henv rfl)) ?_
  exact ⟨rfl, hst.below⟩

set_option maxRecDepth 100000 in
theorem zshr_zero {A : Option Addr} {c : Nat} {i : Int} {w0 : World} (hx : ZIn w0 A c 0) (hi : 0 ≤ i) :
    Calls Tryd.prog 25 #[.agg #[.bool (neg 0), .slice A (zl 0) c], .int .i64 i] w0 fun e w' => e = .returned (.tuple #[.agg #[.bool (neg 0), .slice none (zl 0) 0], .int .i64 0]) ∧ Below w0.heap.size w0 w' := by
  refine enter Tryd.func25 rfl Tryd.ntmps25 rfl ?_
  intro a henv hst
  replace hst := hst.addZ (zin_none _) rfl
  replace hst := hst.addZ hx rfl
  clear hx
  refine wp_seq ?_
  refine region_seq ?_
  refine seq_step rfl (op_box (c := #[.bool (neg 0), .slice A (zl 0) c]) henv hst rfl rfl rfl ?_)
  clear henv hst a; intro a w2 g1 henv hst
  refine seq_step rfl (op_alloc (c := #[.bool (neg 0), .slice none (zl 0) 0]) henv hst rfl zero_anvil_integer_Int zcells ?_)
  clear henv hst a; intro a w4 g3 henv hst
  refine seq_step rfl (op_val (v := .int .i64 0) henv rfl (rn_assign henv rfl) ?_)
  clear henv a; intro a henv
  refine wpList_nil ?_
  refine th_n ?_
  refine wp_seq ?_
  refine wp_block ?_
  refine wp_seq ?_
  refine region_seq ?_
  refine seq_step rfl (op_val (v := .int .i64 i) henv rfl (rn_move henv rfl) ?_)
  clear henv a; intro a henv
  refine seq_step rfl (op_val (v := .bool (decide (i < (0 : Int)))) henv rfl (rn_bin henv rfl rfl rfl) ?_)
  clear henv a; intro a henv
  refine seq_step rfl (op_val (v := .bool (decide (i < (0 : Int)))) henv rfl (rn_assign henv rfl) ?_)
  clear henv a; intro a henv
  refine wpList_nil ?_
  refine th_n ?_
  refine if_f henv rfl ((decide_eq_false (by omega))) ?_
  refine wp_seq ?_
  refine region_seq ?_
  refine seq_step rfl (op_val (v := .agg #[.bool (neg 0), .slice A (zl 0) c]) henv rfl (rn_load0 henv ty_anvil_integer_Int rfl (hst.oat (k := 1) rfl) rfl) ?_)
  clear henv a; intro a henv
  refine seq_step rfl (op_call henv rfl Tryd.call74 rfl (sign_z (z := 0)) ?_)
  rintro e w5 ⟨rfl, hb⟩
  refine ⟨_, rfl, ?_⟩
  clear henv a; intro a henv
  replace hst := hst.call hb
  clear hb
  refine seq_step rfl (op_val (v := .bool ((0 : Int).sign == (0 : Int))) henv rfl (rn_bin henv rfl rfl rfl) ?_)
  clear henv a; intro a henv
  refine seq_step rfl (op_val (v := .bool ((0 : Int).sign == (0 : Int))) henv rfl (rn_assign henv rfl) ?_)
  clear henv a; intro a henv
  refine wpList_nil ?_
  refine th_n ?_
  refine if_t henv rfl (rfl) ?_
  refine wp_seq ?_
  refine region_seq ?_
  refine seq_step rfl (op_val (v := .agg #[.bool (neg 0), .slice none (zl 0) 0]) henv rfl (rn_zint Tryd.underlying28 zero_anvil_integer_Int (by intro f hf; simp at hf; rcases hf with rfl | rfl <;> exact ⟨_, rfl⟩)) ?_)
  clear henv a; intro a henv
  refine seq_step rfl (op_store (k := 0) (c' := #[.bool (neg 0), .slice none (zl 0) 0]) henv hst (ty_anvil_integer_Int.size) rfl rfl rfl rfl (by simp) rfl rfl ?_)
  clear henv hst a; intro a w6 henv hst
  refine seq_step rfl (op_val (v := .int .i64 0) henv rfl (rn_assign henv rfl) ?_)
  clear henv a; intro a henv
  refine wpList_nil ?_
  refine th_n ?_
  refine wp_ret ?_
  refine bl_r (th_r ?_)
  refine leave henv (res2 Tryd.results25 (RV.cell henv ty_anvil_integer_Int rfl (hst.oat (k := 0) rfl) rfl) (RV.tmp henv rfl)) ?_
  exact ⟨rfl, hst.below⟩

set_option maxRecDepth 100000 in
theorem zshr_no {A : Option Addr} {c : Nat} {x : Int} {i : Int} {w0 : World} (hx : ZIn w0 A c x) (hn : zl x ≤ 1000000) (hi : 0 ≤ i) (hx0 : x ≠ 0) (hd : ∀ k, IsTz x.natAbs k → (k : Int) < i) (hT : Deb w0) :
    Calls Tryd.prog 25 #[.agg #[.bool (neg x), .slice A (zl x) c], .int .i64 i] w0 fun e w' => e = .returned (.tuple #[.agg #[.bool (neg 0), .slice none (zl 0) 0], .int .i64 20]) ∧ Below w0.heap.size w0 w' := by
  refine enter Tryd.func25 rfl Tryd.ntmps25 rfl ?_
  intro a henv hst
  replace hst := hst.addZ (zin_none _) rfl
  replace hst := hst.addZ hx rfl
  replace hst := hst.addT hT hT
  clear hx
  refine wp_seq ?_
  refine region_seq ?_
  refine seq_step rfl (op_box (c := #[.bool (neg x), .slice A (zl x) c]) henv hst rfl rfl rfl ?_)
  clear henv hst a; intro a w2 g1 henv hst
  refine seq_step rfl (op_alloc (c := #[.bool (neg 0), .slice none (zl 0) 0]) henv hst rfl zero_anvil_integer_Int zcells ?_)
  clear henv hst a; intro a w4 g3 henv hst
  refine seq_step rfl (op_val (v := .int .i64 0) henv rfl (rn_assign henv rfl) ?_)
  clear henv a; intro a henv
  refine wpList_nil ?_
  refine th_n ?_
  refine wp_seq ?_
  refine wp_block ?_
  refine wp_seq ?_
  refine region_seq ?_
  refine seq_step rfl (op_val (v := .int .i64 i) henv rfl (rn_move henv rfl) ?_)
  clear henv a; intro a henv
  refine seq_step rfl (op_val (v := .bool (decide (i < (0 : Int)))) henv rfl (rn_bin henv rfl rfl rfl) ?_)
  clear henv a; intro a henv
  refine seq_step rfl (op_val (v := .bool (decide (i < (0 : Int)))) henv rfl (rn_assign henv rfl) ?_)
  clear henv a; intro a henv
  refine wpList_nil ?_
  refine th_n ?_
  refine if_f henv rfl ((decide_eq_false (by omega))) ?_
  refine wp_seq ?_
  refine region_seq ?_
  refine seq_step rfl (op_val (v := .agg #[.bool (neg x), .slice A (zl x) c]) henv rfl (rn_load0 henv ty_anvil_integer_Int rfl (hst.oat (k := 1) rfl) rfl) ?_)
  clear henv a; intro a henv
  refine seq_step rfl (op_call henv rfl Tryd.call74 rfl (sign_z (z := x)) ?_)
  rintro e w5 ⟨rfl, hb⟩
  refine ⟨_, rfl, ?_⟩
  clear henv a; intro a henv
  replace hst := hst.call hb
  clear hb
  refine seq_step rfl (op_val (v := .bool (x.sign == (0 : Int))) henv rfl (rn_bin henv rfl rfl rfl) ?_)
  clear henv a; intro a henv
  refine seq_step rfl (op_val (v := .bool (x.sign == (0 : Int))) henv rfl (rn_assign henv rfl) ?_)
  clear henv a; intro a henv
  refine wpList_nil ?_
  refine th_n ?_
  refine if_f henv rfl ((by simpa using hx0)) ?_
  refine wp_seq ?_
  refine region_seq ?_
  refine seq_step rfl (op_val (v := .agg #[.bool (neg x), .slice A (zl x) c]) henv rfl (rn_load0 henv ty_anvil_integer_Int rfl (hst.oat (k := 1) rfl) rfl) ?_)
  clear henv a; intro a henv
  refine seq_step rfl (op_call henv rfl Tryd.call20 rfl (twos_z (x := x) (show ZIn _ A c x from hst.pat (k := 1) rfl) hn hx0 (show Deb _ from hst.pat (k := 0) rfl)) ?_)
  rintro e w7 ⟨k6, rfl, htz, hb⟩
  refine ⟨_, rfl, ?_⟩
  clear henv a; intro a henv
  replace hst := hst.call hb
  clear hb
  refine seq_step rfl (op_val (v := .int .i64 i) henv rfl (rn_move henv rfl) ?_)
  clear henv a; intro a henv
  refine seq_step rfl (op_val (v := .bool (decide (((k6 : Nat) : Int) < i))) henv rfl (rn_bin henv rfl rfl rfl) ?_)
  clear henv a; intro a henv
  refine seq_step rfl (op_val (v := .bool (decide (((k6 : Nat) : Int) < i))) henv rfl (rn_assign henv rfl) ?_)
  clear henv a; intro a henv
  refine wpList_nil ?_
  refine th_n ?_
  refine if_t henv rfl ((decide_eq_true (hd _ htz))) ?_
  refine wp_seq ?_
  refine region_seq ?_
  refine seq_step rfl (op_val (v := .agg #[.bool (neg 0), .slice none (zl 0) 0]) henv rfl (rn_zint Tryd.underlying28 zero_anvil_integer_Int (by intro f hf; simp at hf; rcases hf with rfl | rfl <;> exact ⟨_, rfl⟩)) ?_)
  clear henv a; intro a henv
  refine seq_step rfl (op_store (k := 0) (c' := #[.bool (neg 0), .slice none (zl 0) 0]) henv hst (ty_anvil_integer_Int.size) rfl rfl rfl rfl (by simp) rfl rfl ?_)
  clear henv hst a; intro a w8 henv hst
  refine seq_step rfl (op_val (v := .int .i64 20) henv rfl (rn_assign henv rfl) ?_)
  clear henv a; intro a henv
  refine wpList_nil ?_
  refine th_n ?_
  refine wp_ret ?_
  refine bl_r (th_r ?_)
  refine leave henv (res2 Tryd.results25 (RV.cell henv ty_anvil_integer_Int rfl (hst.oat (k := 0) rfl) rfl) (RV.tmp henv rfl)) ?_
  exact ⟨rfl, hst.below⟩

set_option maxRecDepth 100000 in
theorem zshr_ok {A : Option Addr} {c : Nat} {x : Int} {n : Nat} {w0 : World} (hx : ZIn w0 A c x) (hn : zl x ≤ 1000000) (hs : n ≤ 65536) (hx0 : x ≠ 0) (hd : (2 : Int) ^ n ∣ x) (hT : Deb w0) :
    Calls Tryd.prog 25 #[.agg #[.bool (neg x), .slice A (zl x) c], .int .i64 (n : Nat)] w0 fun e w' => ∃ v, e = .returned (.tuple #[v, .int .i64 0]) ∧ ZAt w' v (x / 2 ^ n) ∧ Below w0.heap.size w0 w' := by
  refine enter Tryd.func25 rfl Tryd.ntmps25 rfl ?_
  intro a henv hst
  replace hst := hst.addZ (zin_none _) rfl
  replace hst := hst.addZ hx rfl
  replace hst := hst.addT hT hT
  clear hx
  refine wp_seq ?_
  refine region_seq ?_
  refine seq_step rfl (op_box (c := #[.bool (neg x), .slice A (zl x) c]) henv hst rfl rfl rfl ?_)
  clear henv hst a; intro a w2 g1 henv hst
  refine seq_step rfl (op_alloc (c := #[.bool (neg 0), .slice none (zl 0) 0]) henv hst rfl zero_anvil_integer_Int zcells ?_)
  clear henv hst a; intro a w4 g3 henv hst
  refine seq_step rfl (op_val (v := .int .i64 0) henv rfl (rn_assign henv rfl) ?_)
  clear henv a; intro a henv
  refine wpList_nil ?_
  refine th_n ?_
  refine wp_seq ?_
  refine wp_block ?_
  refine wp_seq ?_
  refine region_seq ?_
  refine seq_step rfl (op_val (v := .int .i64 (n : Nat)) henv rfl (rn_move henv rfl) ?_)
  clear henv a; intro a henv
  refine seq_step rfl (op_val (v := .bool (decide (((n : Nat) : Int) < (0 : Int)))) henv rfl (rn_bin henv rfl rfl rfl) ?_)
  clear henv a; intro a henv
  refine seq_step rfl (op_val (v := .bool (decide (((n : Nat) : Int) < (0 : Int)))) henv rfl (rn_assign henv rfl) ?_)
  clear henv a; intro a henv
  refine wpList_nil ?_
  refine th_n ?_
  refine if_f henv rfl ((decide_eq_false (by omega))) ?_
  refine wp_seq ?_
  refine region_seq ?_
  refine seq_step rfl (op_val (v := .agg #[.bool (neg x), .slice A (zl x) c]) henv rfl (rn_load0 henv ty_anvil_integer_Int rfl (hst.oat (k := 1) rfl) rfl) ?_)
  clear henv a; intro a henv
  refine seq_step rfl (op_call henv rfl Tryd.call74 rfl (sign_z (z := x)) ?_)
  rintro e w5 ⟨rfl, hb⟩
  refine ⟨_, rfl, ?_⟩
  clear henv a; intro a henv
  replace hst := hst.call hb
  clear hb
  refine seq_step rfl (op_val (v := .bool (x.sign == (0 : Int))) henv rfl (rn_bin henv rfl rfl rfl) ?_)
  clear henv a; intro a henv
  refine seq_step rfl (op_val (v := .bool (x.sign == (0 : Int))) henv rfl (rn_assign henv rfl) ?_)
  clear henv a; intro a henv
  refine wpList_nil ?_
  refine th_n ?_
  refine if_f henv rfl ((by simpa using hx0)) ?_
  refine wp_seq ?_
  refine region_seq ?_
  refine seq_step rfl (op_val (v := .agg #[.bool (neg x), .slice A (zl x) c]) henv rfl (rn_load0 henv ty_anvil_integer_Int rfl (hst.oat (k := 1) rfl) rfl) ?_)
  clear henv a; intro a henv
  refine seq_step rfl (op_call henv rfl Tryd.call20 rfl (twos_z (x := x) (show ZIn _ A c x from hst.pat (k := 1) rfl) hn hx0 (show Deb _ from hst.pat (k := 0) rfl)) ?_)
  rintro e w7 ⟨k6, rfl, htz, hb⟩
  refine ⟨_, rfl, ?_⟩
  clear henv a; intro a henv
  replace hst := hst.call hb
  clear hb
  refine seq_step rfl (op_val (v := .int .i64 (n : Nat)) henv rfl (rn_move henv rfl) ?_)
  clear henv a; intro a henv
  refine seq_step rfl (op_val (v := .bool (decide (((k6 : Nat) : Int) < ((n : Nat) : Int)))) henv rfl (rn_bin henv rfl rfl rfl) ?_)
  clear henv a; intro a henv
  refine seq_step rfl (op_val (v := .bool (decide (((k6 : Nat) : Int) < ((n : Nat) : Int)))) henv rfl (rn_assign henv rfl) ?_)
  clear henv a; intro a henv
  refine wpList_nil ?_
  refine th_n ?_
  refine if_f henv rfl ((decide_eq_false (by have := tz_ge htz hd; omega))) ?_
  refine wp_skip ?_
  refine bl_n (th_n ?_)
  refine wp_seq ?_
  refine region_seq ?_
  refine seq_step rfl (op_val (v := .pointer (some ⟨g1, 1, none⟩)) henv rfl (rn_fieldAddr henv fd_anvil_integer_Int_1 (ty__uint32.size) (by decide) rfl) ?_)
  clear henv a; intro a henv
  refine seq_step rfl (op_val (v := .slice A (zl x) c) henv rfl (rn_load1 henv ty__uint32 rfl (hst.oat (k := 1) rfl) rfl) ?_)
  clear henv a; intro a henv
  refine seq_step rfl (op_val (v := .int .i64 (n : Nat)) henv rfl (rn_move henv rfl) ?_)
  clear henv a; intro a henv
  refine seq_step rfl (op_call henv rfl Tryd.call56 rfl (shr_num (s := n) (show ZIn _ A c x from hst.pat (k := 1) rfl).num hn (by omega)) ?_)
  rintro e w11 ⟨_, rfl, ⟨A8, c9, rfl, hu10, -⟩, hb⟩
  refine ⟨_, rfl, ?_⟩
  clear henv a; intro a henv
  replace hst := (hst.call hb).addU hu10 rfl
  clear hu10
  clear hb
  refine seq_step rfl (op_val (v := .tuple #[.slice A8 (nl (x.natAbs / 2 ^ n)) c9, .int .i64 0]) henv rfl (rn_move henv rfl) ?_)
  clear henv a; intro a henv
  refine seq_step rfl (op_val (v := .slice A8 (nl (x.natAbs / 2 ^ n)) c9) henv rfl (rn_extract henv rfl rfl) ?_)
  clear henv a; intro a henv
  refine seq_step rfl (op_val (v := .int .i64 0) henv rfl (rn_extract henv rfl rfl) ?_)
  clear henv a; intro a henv
  refine seq_step rfl (op_val (v := .slice A8 (nl (x.natAbs / 2 ^ n)) c9) henv rfl (rn_assign henv rfl) ?_)
  clear henv a; intro a henv
  refine seq_step rfl (op_val (v := .int .i64 0) henv rfl (rn_assign henv rfl) ?_)
  clear henv a; intro a henv
  refine wpList_nil ?_
  refine th_n ?_
  refine wp_seq ?_
  refine region_seq ?_
  refine seq_step rfl (op_val (v := .pointer (some ⟨g1, 0, none⟩)) henv rfl (rn_fieldAddr henv fd_anvil_integer_Int_0 (ty_bool.size) (by decide) rfl) ?_)
  clear henv a; intro a henv
  refine seq_step rfl (op_val (v := .bool (neg x)) henv rfl (rn_load1 henv ty_bool rfl (hst.oat (k := 1) rfl) rfl) ?_)
  clear henv a; intro a henv
  refine seq_step rfl (op_val (v := .slice A8 (nl (x.natAbs / 2 ^ n)) c9) henv rfl (rn_move henv rfl) ?_)
  clear henv a; intro a henv
  refine seq_step rfl (op_call henv rfl Tryd.call82 rfl (made_given (b := neg x) (N := (x.natAbs / 2 ^ n)) (z := x / 2 ^ n) (show U32 _ A8 (nl (x.natAbs / 2 ^ n)) c9 (L (x.natAbs / 2 ^ n)) from hst.pat (k := 0) rfl) (sg_shr hd)) ?_)
  rintro e w15 ⟨_, rfl, ⟨A12, c13, rfl, hz14⟩, hb⟩
  refine ⟨_, rfl, ?_⟩
  clear henv a; intro a henv
  replace hst := (hst.call hb).addZ hz14 rfl
  clear hz14
  clear hb
  refine seq_step rfl (op_store (k := 0) (c' := #[.bool (neg (x / 2 ^ n)), .slice A12 (zl (x / 2 ^ n)) c13]) henv hst (ty_anvil_integer_Int.size) rfl rfl rfl rfl (by simp) rfl rfl ?_)
  clear henv hst a; intro a w16 henv hst
  refine seq_step rfl (op_val (v := .int .i64 0) henv rfl (rn_assign henv rfl) ?_)
  clear henv a; intro a henv
  refine wpList_nil ?_
  refine th_n ?_
  refine wp_ret ?_
  refine leave henv (res2 Tryd.results25 (RV.cell henv ty_anvil_integer_Int rfl (hst.oat (k := 0) rfl) rfl) (RV.tmp henv rfl)) ?_
  exact ⟨_, rfl, ⟨_, _, rfl, hst.pat (k := 0) rfl⟩, hst.below⟩

set_option maxRecDepth 100000 in
theorem power_r {n : Nat} {w0 : World} (hs : n ≤ 65536) :
    Calls Tryd.prog 30 #[.int .i64 (n : Nat)] w0 fun e w' => ∃ v, e = .returned v ∧ RAt w' v (2 ^ n) ∧ Below w0.heap.size w0 w' := by
  refine enter Tryd.func30 rfl Tryd.ntmps30 rfl ?_
  intro a henv hst
  refine wp_seq ?_
  refine region_seq ?_
  refine seq_step rfl (op_alloc (c := #[.bool (neg 0), .slice none (dl 0) 0]) henv hst rfl zero_anvil_anvilref02_Int rcells ?_)
  clear henv hst a; intro a w2 g1 henv hst
  refine wpList_nil ?_
  refine th_n ?_
  refine wp_seq ?_
  refine region_seq ?_
  refine seq_step rfl (op_val (v := .int .i64 (n : Nat)) henv rfl (rn_move henv rfl) ?_)
  clear henv a; intro a henv
  refine seq_step rfl (op_val (v := .int .i64 (n / 16 : Nat)) henv rfl (rn_quo henv rfl rfl (by decide) (by rw [show (n : Int).tdiv 16 = ((n / 16 : Nat) : Int) from rfl]; exact IntWalk.i64_in _ (by omega))) ?_)
  clear henv a; intro a henv
  refine seq_step rfl (op_val (v := .int .i64 ((n / 16) + 1 : Nat)) henv rfl (rn_add henv rfl rfl (by rw [IntWalk.i64_in _ (by omega)]; omega)) ?_)
  clear henv a; intro a henv
  refine seq_step rfl (op_makeN (n := (n / 16) + 1) (k := .u32) (bytes := 4) henv hst rfl Tryd.underlying22 info_u32 rfl rfl (by omega) (by omega) ?_)
  clear henv hst a; intro a w4 g3 henv hst
  refine seq_step rfl (op_val (v := .slice (some ⟨g3, 0, none⟩) ((n / 16) + 1) ((n / 16) + 1)) henv rfl (rn_assign henv rfl) ?_)
  clear henv a; intro a henv
  refine wpList_nil ?_
  refine th_n ?_
  refine wp_seq ?_
  refine region_seq ?_
  refine seq_step rfl (op_val (v := .slice (some ⟨g3, 0, none⟩) ((n / 16) + 1) ((n / 16) + 1)) henv rfl (rn_move henv rfl) ?_)
  clear henv a; intro a henv
  refine seq_step rfl (op_val (v := .int .i64 (n : Nat)) henv rfl (rn_move henv rfl) ?_)
  clear henv a; intro a henv
  refine seq_step rfl (op_val (v := .int .i64 (n / 16 : Nat)) henv rfl (rn_quo henv rfl rfl (by decide) (by rw [show (n : Int).tdiv 16 = ((n / 16 : Nat) : Int) from rfl]; exact IntWalk.i64_in _ (by omega))) ?_)
  clear henv a; intro a henv
  refine seq_step rfl (op_val (v := .int .i64 (n : Nat)) henv rfl (rn_move henv rfl) ?_)
  clear henv a; intro a henv
  refine seq_step rfl (op_val (v := .int .i64 (n % 16 : Nat)) henv rfl (rn_rem henv rfl rfl (by decide) rfl) ?_)
  clear henv a; intro a henv
  refine seq_step rfl (op_val (v := .int .u32 (2 ^ (n % 16) : Nat)) henv rfl (rn_shl (s := n % 16) henv rfl rfl (by show n % 16 ≤ 32; omega) (pow_u32 n)) ?_)
  clear henv a; intro a henv
  refine seq_step rfl (op_val (v := .pointer (some ⟨g3, n / 16, none⟩)) henv rfl (rn_idxO (i := n / 16) henv Tryd.underlying22 (ty_uint32.size) rfl rfl (by omega) (by omega)) ?_)
  clear henv a; intro a henv
  refine seq_step rfl (op_storeN (k := 0) henv hst (ty_uint32.size) rfl rfl rfl (by simp) ?_)
  clear henv hst a; intro a w5 henv hst
  refine wpList_nil ?_
  refine th_n ?_
  refine wp_seq ?_
  refine region_seq ?_
  refine seq_step rfl (op_val (v := .slice (some ⟨g3, 0, none⟩) ((n / 16) + 1) ((n / 16) + 1)) henv rfl (rn_move henv rfl) ?_)
  clear henv a; intro a henv
  replace hst := hst.giveU (k := 0) (n := n / 16 + 1) rfl (pow_lt n) (by simp) (by unfold maxLen; omega)
  refine seq_step rfl (op_call henv rfl Tryd.call84 rfl (norm_pow (show U32 _ (some ⟨g3, 0, none⟩) (n / 16 + 1) (n / 16 + 1) ((List.replicate (n / 16 + 1) 0).set (n / 16) (2 ^ (n % 16))) from hst.pat (k := 0) rfl)) ?_)
  rintro e w9 ⟨_, rfl, ⟨A6, c7, rfl, hz8⟩, hb⟩
  refine ⟨_, rfl, ?_⟩
  clear henv a; intro a henv
  replace hst := (hst.call hb).addR hz8 rfl
  clear hz8
  clear hb
  refine seq_step rfl (op_store (k := 0) (c' := #[.bool (neg (2 ^ n)), .slice A6 (dl (2 ^ n)) c7]) henv hst (ty_anvil_anvilref02_Int.size) rfl rfl rfl rfl (by simp) rfl rfl ?_)
  clear henv hst a; intro a w10 henv hst
  refine wpList_nil ?_
  refine th_n ?_
  refine wp_ret ?_
  refine leave henv (res1 Tryd.results30 (RV.cell henv ty_anvil_anvilref02_Int rfl (hst.oat (k := 0) rfl) rfl)) ?_
  exact ⟨_, rfl, ⟨_, _, rfl, hst.pat (k := 0) rfl⟩, hst.below⟩

end Go.Proofs.YtnldopjbiacbfaaDoor

/- The law of powers of two, for short numbers. Printed by pv/gen_twoslaw.py. No condition. -/
namespace Go.Proofs.YtnldopjbiacbfaaDoor
open Go.RowKit Anv

theorem zero_z {A : Option Addr} {c : Nat} {w : World} (hx : ZIn w A c 0) :
    Calls Tryd.prog 26 #[.agg #[.bool (neg 0), .slice A (zl 0) c]] w fun e w' => e = .returned (.bool true) ∧ Below w.heap.size w w' := by
  rw [neg_zero, zl_zero]; exact zero_true hx
theorem lt_pow_of {a b n k : Nat} (h : n < b * k) (ha : 2 ^ b = a) : 2 ^ n < a ^ k := by
  subst ha
  rw [← Nat.pow_mul]
  exact Nat.pow_lt_pow_right (by decide) h
theorem dl_pow2 {n : Nat} (h : n ≤ 3000) : dl (2 ^ n) ≤ 1000 := by
  have e : ((2 : Int) ^ n).natAbs = 2 ^ n := Int.natAbs_pow 2 n
  generalize hk : 1000 = k
  refine dn_le_of_lt ?_
  rw [e]
  exact lt_pow_of (b := 16) (by omega) rfl
theorem zl_shl2 {x : Int} {n : Nat} (hx : zl x ≤ 60) (h : n ≤ 3000) : zl (x * 2 ^ n) ≤ 1000000 := by
  have h1 := zl_mul x (2 ^ n)
  have h2 : zl (2 ^ n) ≤ 100 := by
    have e : ((2 : Int) ^ n).natAbs = 2 ^ n := Int.natAbs_pow 2 n
    generalize hk : 100 = k
    refine nl_le_of_lt ?_
    rw [e]
    exact lt_pow_of (b := 32) (by omega) rfl
  omega
theorem pow_pos2 (n : Nat) : (0 : Int) < 2 ^ n := by
  have : (2 : Int) ^ n = ((2 ^ n : Nat) : Int) := by rw [Int.natCast_pow]; rfl
  have h := Nat.two_pow_pos n
  omega
theorem tz_no {x : Int} {n k : Nat} (h : IsTz x.natAbs k) (hd : ¬ (2 : Int) ^ n ∣ x) : (k : Int) < (n : Nat) := by
  have h1 : ¬ n ≤ k := fun hn => hd (by
    have := (h.dvd n).2 hn
    have e : (2 : Int) ^ n = ((2 ^ n : Nat) : Int) := by rw [Int.natCast_pow]; rfl
    rw [e]; exact Int.ofNat_dvd_left.2 this)
  omega
theorem tz_zl {x : Int} {k : Nat} (h : IsTz x.natAbs k) : k < 32 * zl x := by
  have := tz_lt h
  have h2 := dl_zl x
  have h3 : dl x = dn x.natAbs := rfl
  omega

set_option maxRecDepth 100000 in
set_option maxHeartbeats 4000000 in
theorem law_A0 {b0 : Bool} {A0 : Option Addr} {n0 c0 : Nat} {xs0 : List Nat} {i : Int} {w0 : World} (h0 : U32 w0 A0 n0 c0 xs0) (hs0 : n0 ≤ 60) (hz0 : sg b0 (val 4294967296 xs0) = 0) (hT : Deb w0) (hi : i < 0) :
    Calls Tryd.prog 3 #[.agg #[.bool b0, .slice A0 n0 c0], .int .i64 i] w0 fun e w' => e = .returned (.bool true) ∧ Below w0.heap.size w0 w' := by
  have hx60 : zl 0 ≤ 60 := by have := given_bd (b := b0) h0; rw [hz0] at this; omega
  have hdx := dl_zl 0
  refine enter Tryd.func3 rfl Tryd.ntmps3 rfl ?_
  intro a henv hst
  replace hst := (hst.addZ (zin_none _) rfl).addT hT hT
  replace hst := hst.addU h0 rfl
  have hL0 := Nat.le_trans h0.cap h0.big
  clear h0
  refine wp_seq ?_
  refine region_seq ?_
  refine seq_step rfl (op_box (c := #[.bool b0, .slice A0 n0 c0]) henv hst rfl rfl rfl ?_)
  clear henv hst a; intro a w2 g1 henv hst
  refine seq_step rfl (op_val (v := .bool false) henv rfl (rn_assign henv rfl) ?_)
  clear henv a; intro a henv
  refine wpList_nil ?_
  refine th_n ?_
  refine wp_seq ?_
  refine wp_seq ?_
  refine region_seq ?_
  refine seq_step rfl (op_call henv rfl Tryd.call17 rfl (live_true _) ?_)
  rintro e w3 ⟨rfl, hb⟩
  refine ⟨_, rfl, ?_⟩
  clear henv a; intro a henv
  replace hst := hst.call hb
  clear hb
  refine seq_step rfl (op_val (v := .bool false) henv rfl (rn_un henv rfl rfl) ?_)
  clear henv a; intro a henv
  refine wpList_nil ?_
  refine th_n ?_
  refine if_f henv rfl (rfl) ?_
  refine wp_skip ?_
  refine th_n ?_
  refine wp_seq ?_
  refine wp_seq ?_
  refine region_seq ?_
  refine seq_step rfl (op_val (v := .agg #[.bool b0, .slice A0 n0 c0]) henv rfl (rn_load0 henv ty_anvil_anvillaw02_Num rfl (hst.oat (k := 0) rfl) rfl) ?_)
  clear henv a; intro a henv
  refine seq_step rfl (op_buildSlice (z := 2) (pv := #[(0, .agg #[.bool b0, .slice A0 n0 c0])]) (c := #[.bool b0, .slice A0 n0 c0]) henv hst rfl Tryd.underlying95 (ty_anvil_anvillaw02_Num.size) zero_anvil_anvillaw02_Num (by decide) (by decide) rfl (by kernel_rfl) ?_)
  clear henv hst a; intro a w5 g4 henv hst
  refine seq_step rfl (op_call henv rfl Tryd.call18 rfl (long_own1 (hst.oat (k := 0) rfl) hL0 false (by simp; omega)) ?_)
  rintro e w6 ⟨rfl, hb⟩
  refine ⟨_, rfl, ?_⟩
  clear henv a; intro a henv
  replace hst := hst.call hb
  clear hb
  refine seq_step rfl (op_val (v := .bool false) henv rfl (rn_move henv rfl) ?_)
  clear henv a; intro a henv
  refine seq_g rfl henv rfl rfl (op_val (v := .int .i64 i) henv rfl (rn_move henv rfl) ?_)
  clear henv a; intro a henv
  refine seq_g rfl henv rfl rfl (op_val (v := .bool (decide (i > (3000 : Int)))) henv rfl (rn_bin henv rfl rfl rfl) ?_)
  clear henv a; intro a henv
  rw [show (decide (i > (3000 : Int))) = false from (decide_eq_false (by omega))] at henv
  refine seq_g rfl henv rfl rfl (op_val (v := .bool false) henv rfl (rn_move henv rfl) ?_)
  clear henv a; intro a henv
  refine seq_skip rfl henv rfl rfl rfl rfl ?_
  clear henv a; intro a henv
  refine seq_skip rfl henv rfl rfl rfl rfl ?_
  clear henv a; intro a henv
  refine seq_g rfl henv rfl rfl (op_val (v := .bool false) henv rfl (rn_pick henv rfl rfl) ?_)
  clear henv a; intro a henv
  refine seq_step rfl (op_val (v := .bool false) henv rfl (rn_pick henv rfl rfl) ?_)
  clear henv a; intro a henv
  refine wpList_nil ?_
  refine th_n ?_
  refine if_f henv rfl (rfl) ?_
  refine wp_skip ?_
  refine th_n ?_
  refine wp_seq ?_
  refine region_seq ?_
  refine seq_step rfl (op_val (v := .agg #[.bool b0, .slice A0 n0 c0]) henv rfl (rn_load0 henv ty_anvil_anvillaw02_Num rfl (hst.oat (k := 1) rfl) rfl) ?_)
  clear henv a; intro a henv
  refine seq_step rfl (op_call henv rfl Tryd.call19 rfl (of_given (z := 0) (show U32 _ A0 n0 c0 xs0 from hst.pat (k := 0) rfl) hs0 hz0) ?_)
  rintro e w13 ⟨_, _, rfl, ⟨A7, c8, rfl, hz9⟩, ⟨A10, c11, rfl, hz12⟩, hb⟩
  refine ⟨_, rfl, ?_⟩
  clear henv a; intro a henv
  replace hst := ((hst.call hb).addZ hz9 rfl).addR hz12 rfl
  clear hz9 hz12
  clear hb
  refine seq_step rfl (op_val (v := .tuple #[.agg #[.bool (neg 0), .slice A7 (zl 0) c8], .agg #[.bool (neg 0), .slice A10 (dl 0) c11]]) henv rfl (rn_move henv rfl) ?_)
  clear henv a; intro a henv
  refine seq_step rfl (op_val (v := .agg #[.bool (neg 0), .slice A7 (zl 0) c8]) henv rfl (rn_extract henv rfl rfl) ?_)
  clear henv a; intro a henv
  refine seq_step rfl (op_val (v := .agg #[.bool (neg 0), .slice A10 (dl 0) c11]) henv rfl (rn_extract henv rfl rfl) ?_)
  clear henv a; intro a henv
  refine seq_step rfl (op_alloc (c := #[.bool (neg 0), .slice none (zl 0) 0]) henv hst rfl zero_anvil_integer_Int zcells ?_)
  clear henv hst a; intro a w15 g14 henv hst
  refine seq_step rfl (op_alloc (c := #[.bool (neg 0), .slice none (dl 0) 0]) henv hst rfl zero_anvil_anvilref02_Int rcells ?_)
  clear henv hst a; intro a w17 g16 henv hst
  refine seq_step rfl (op_store (k := 1) (c' := #[.bool (neg 0), .slice A7 (zl 0) c8]) henv hst (ty_anvil_integer_Int.size) rfl rfl rfl rfl (by simp) rfl rfl ?_)
  clear henv hst a; intro a w18 henv hst
  refine seq_step rfl (op_store (k := 0) (c' := #[.bool (neg 0), .slice A10 (dl 0) c11]) henv hst (ty_anvil_anvilref02_Int.size) rfl rfl rfl rfl (by simp) rfl rfl ?_)
  clear henv hst a; intro a w19 henv hst
  refine wpList_nil ?_
  refine th_n ?_
  refine wp_seq ?_
  refine wp_seq ?_
  refine region_any (n := 12) (Sk [⟨g16, #[.bool (neg 0), .slice A10 (dl 0) c11], 30⟩, ⟨g14, #[.bool (neg 0), .slice A7 (zl 0) c8], 28⟩, ⟨g4, #[.bool b0, .slice A0 n0 c0], 24⟩, ⟨g1, #[.bool b0, .slice A0 n0 c0], 24⟩] [pfR A10 c11 0, pfZ A7 c8 0, pfU A0 n0 c0 xs0, pfT, pfZ none 0 0] [] []) mixed rfl henv hst ?_
  clear henv hst; intro w20 henv hst
  refine sAny_take (i := 0) [1, 3, 4, 5, 6, 7, 8, 9, 10, 11] (fun w' => w'.heap[g14]? = some (.cells #[.bool (neg 0), .slice A7 (zl 0) c8] 28 (0, 0))) (v := .agg #[.bool (neg 0), .slice A7 (zl 0) c8]) rfl (by kernel_rfl) (fun _ _ _ h => h) (fun _ _ _ hS => hS.1.oat (k := 1) rfl) henv rfl (hst.oat (k := 1) rfl) (fun w' hg => rn_load0 henv ty_anvil_integer_Int rfl hg rfl) ?_
  clear henv a; intro a henv
  refine sAny_take (i := 2) [3, 4, 5, 6, 7, 8, 9, 10, 11] (fun w' => w'.heap[g16]? = some (.cells #[.bool (neg 0), .slice A10 (dl 0) c11] 30 (0, 0))) (v := .agg #[.bool (neg 0), .slice A10 (dl 0) c11]) rfl (by kernel_rfl) (fun _ _ _ h => h) (fun _ _ _ hS => hS.1.oat (k := 0) rfl) henv rfl (hst.oat (k := 0) rfl) (fun w' hg => rn_load0 henv ty_anvil_anvilref02_Int rfl hg rfl) ?_
  clear henv a; intro a henv
  refine sAny_one (i := 1) (by kernel_rfl) rfl rfl (op_call henv rfl Tryd.call20 rfl (twos_z0 (show ZIn _ A7 c8 0 from hst.pat (k := 1) rfl) (show Deb _ from hst.pat (k := 3) rfl)) ?_)
  rintro e w21 ⟨rfl, hb⟩
  refine ⟨_, rfl, ?_⟩
  clear henv a; intro a henv
  replace hst := hst.call hb
  clear hb
  refine ⟨.inr ⟨hst.kn.pick [0, 1, 2, 3] [0, 1, 2, 3, 4], .inr (hst.kn.pick [] [])⟩, ?_⟩
  refine sAny_one (i := 3) (by kernel_rfl) rfl rfl (op_call henv rfl Tryd.call21 rfl (twos_r0 (show RIn _ A10 c11 0 from hst.pat (k := 0) rfl)) ?_)
  rintro e w22 ⟨rfl, hb⟩
  refine ⟨_, rfl, ?_⟩
  clear henv a; intro a henv
  replace hst := hst.call hb
  clear hb
  refine ⟨.inr ⟨hst.kn.pick [0, 1, 2, 3] [0, 1, 2, 3, 4], .inr (hst.kn.pick [] [])⟩, ?_⟩
  refine sAny_take (i := 4) [5, 6, 7, 8, 9, 10, 11] (fun _ => True) (v := .bool false) rfl (by kernel_rfl) (fun _ _ _ h => h) (fun _ _ _ _ => trivial) henv rfl trivial (fun w' _ => rn_bin henv rfl rfl rfl) ?_
  clear henv a; intro a henv
  refine sAny_take (i := 5) [6, 7, 8, 9, 10, 11] (fun _ => True) (v := .bool false) rfl (by kernel_rfl) (fun _ _ _ h => h) (fun _ _ _ _ => trivial) henv rfl trivial (fun w' _ => rn_move henv rfl) ?_
  clear henv a; intro a henv
  refine sAny_takeg (i := 6) [7, 9, 10, 11] (fun w' => w'.heap[g14]? = some (.cells #[.bool (neg 0), .slice A7 (zl 0) c8] 28 (0, 0))) (v := .agg #[.bool (neg 0), .slice A7 (zl 0) c8]) rfl (by kernel_rfl) (fun _ _ _ h => h) (fun _ _ _ hS => hS.1.oat (k := 1) rfl) henv rfl rfl rfl rfl (hst.oat (k := 1) rfl) (fun w' hg => rn_load0 henv ty_anvil_integer_Int rfl hg rfl) ?_
  clear henv a; intro a henv
  refine sAny_takeg (i := 8) [9, 10, 11] (fun w' => w'.heap[g16]? = some (.cells #[.bool (neg 0), .slice A10 (dl 0) c11] 30 (0, 0))) (v := .agg #[.bool (neg 0), .slice A10 (dl 0) c11]) rfl (by kernel_rfl) (fun _ _ _ h => h) (fun _ _ _ hS => hS.1.oat (k := 0) rfl) henv rfl rfl rfl rfl (hst.oat (k := 0) rfl) (fun w' hg => rn_load0 henv ty_anvil_anvilref02_Int rfl hg rfl) ?_
  clear henv a; intro a henv
  refine sAny_oneg (i := 7) (by kernel_rfl) rfl rfl henv rfl rfl rfl (op_call henv rfl Tryd.call22 rfl (bits_z (z := 0) (show ZIn _ A7 c8 0 from hst.pat (k := 1) rfl) (by omega)) ?_)
  rintro e w23 ⟨rfl, hb⟩
  refine ⟨_, rfl, ?_⟩
  clear henv a; intro a henv
  replace hst := hst.call hb
  clear hb
  refine ⟨.inr ⟨hst.kn.pick [0, 1, 2, 3] [0, 1, 2, 3, 4], .inr (hst.kn.pick [] [])⟩, ?_⟩
  refine sAny_oneg (i := 9) (by kernel_rfl) rfl rfl henv rfl rfl rfl (op_call henv rfl Tryd.call23 rfl (bits_r (z := 0) (show RIn _ A10 c11 0 from hst.pat (k := 0) rfl) (by omega)) ?_)
  rintro e w24 ⟨rfl, hb⟩
  refine ⟨_, rfl, ?_⟩
  clear henv a; intro a henv
  replace hst := hst.call hb
  clear hb
  refine ⟨.inr ⟨hst.kn.pick [0, 1, 2, 3] [0, 1, 2, 3, 4], .inr (hst.kn.pick [] [])⟩, ?_⟩
  refine sAny_takeg (i := 10) [11] (fun _ => True) (v := .bool (((blen (0 : Int).natAbs : Nat) : Int) != ((blen (0 : Int).natAbs : Nat) : Int))) rfl (by kernel_rfl) (fun _ _ _ h => h) (fun _ _ _ _ => trivial) henv rfl rfl rfl rfl trivial (fun w' _ => rn_bin henv rfl rfl rfl) ?_
  clear henv a; intro a henv
  rw [show (((blen (0 : Int).natAbs : Nat) : Int) != ((blen (0 : Int).natAbs : Nat) : Int)) = false from (by simp)] at henv
  refine sAny_take (i := 11) [] (fun _ => True) (v := .bool false) rfl (by kernel_rfl) (fun _ _ _ h => h) (fun _ _ _ _ => trivial) henv rfl trivial (fun w' _ => rn_pick henv rfl rfl) ?_
  clear henv a; intro a henv
  refine sAny_done (by kernel_rfl) ?_ _
  refine th_n ?_
  refine if_f henv rfl (rfl) ?_
  refine wp_skip ?_
  refine th_n ?_
  refine wp_seq ?_
  refine region_seq ?_
  refine seq_step rfl (op_val (v := .agg #[.bool (neg 0), .slice A7 (zl 0) c8]) henv rfl (rn_load0 henv ty_anvil_integer_Int rfl (hst.oat (k := 1) rfl) rfl) ?_)
  clear henv a; intro a henv
  refine seq_step rfl (op_val (v := .int .i64 i) henv rfl (rn_move henv rfl) ?_)
  clear henv a; intro a henv
  refine seq_step rfl (op_call henv rfl Tryd.call24 rfl (zshl_neg (i := i) (show ZIn _ A7 c8 0 from hst.pat (k := 1) rfl) hi) ?_)
  rintro e w25 ⟨rfl, hb⟩
  refine ⟨_, rfl, ?_⟩
  clear henv a; intro a henv
  replace hst := hst.call hb
  clear hb
  refine seq_step rfl (op_val (v := .tuple #[.agg #[.bool (neg 0), .slice none (zl 0) 0], .int .i64 2]) henv rfl (rn_move henv rfl) ?_)
  clear henv a; intro a henv
  refine seq_step rfl (op_val (v := .agg #[.bool (neg 0), .slice none (zl 0) 0]) henv rfl (rn_extract henv rfl rfl) ?_)
  clear henv a; intro a henv
  refine seq_step rfl (op_val (v := .int .i64 2) henv rfl (rn_extract henv rfl rfl) ?_)
  clear henv a; intro a henv
  refine seq_step rfl (op_alloc (c := #[.bool (neg 0), .slice none (zl 0) 0]) henv hst rfl zero_anvil_integer_Int zcells ?_)
  clear henv hst a; intro a w27 g26 henv hst
  refine seq_step rfl (op_store (k := 0) (c' := #[.bool (neg 0), .slice none (zl 0) 0]) henv hst (ty_anvil_integer_Int.size) rfl rfl rfl rfl (by simp) rfl rfl ?_)
  clear henv hst a; intro a w28 henv hst
  refine seq_step rfl (op_val (v := .int .i64 2) henv rfl (rn_assign henv rfl) ?_)
  clear henv a; intro a henv
  refine wpList_nil ?_
  refine th_n ?_
  refine wp_seq ?_
  refine region_seq ?_
  refine seq_step rfl (op_val (v := .agg #[.bool (neg 0), .slice A7 (zl 0) c8]) henv rfl (rn_load0 henv ty_anvil_integer_Int rfl (hst.oat (k := 2) rfl) rfl) ?_)
  clear henv a; intro a henv
  refine seq_step rfl (op_val (v := .int .i64 i) henv rfl (rn_move henv rfl) ?_)
  clear henv a; intro a henv
  refine seq_step rfl (op_call henv rfl Tryd.call25 rfl (zshr_neg (x := 0) (i := i) (show ZIn _ A7 c8 0 from hst.pat (k := 1) rfl) hi) ?_)
  rintro e w29 ⟨rfl, hb⟩
  refine ⟨_, rfl, ?_⟩
  clear henv a; intro a henv
  replace hst := hst.call hb
  clear hb
  refine seq_step rfl (op_val (v := .tuple #[.agg #[.bool (neg 0), .slice none (zl 0) 0], .int .i64 2]) henv rfl (rn_move henv rfl) ?_)
  clear henv a; intro a henv
  refine seq_step rfl (op_val (v := .agg #[.bool (neg 0), .slice none (zl 0) 0]) henv rfl (rn_extract henv rfl rfl) ?_)
  clear henv a; intro a henv
  refine seq_step rfl (op_val (v := .int .i64 2) henv rfl (rn_extract henv rfl rfl) ?_)
  clear henv a; intro a henv
  refine seq_step rfl (op_alloc (c := #[.bool (neg 0), .slice none (zl 0) 0]) henv hst rfl zero_anvil_integer_Int zcells ?_)
  clear henv hst a; intro a w31 g30 henv hst
  refine seq_step rfl (op_store (k := 0) (c' := #[.bool (neg 0), .slice none (zl 0) 0]) henv hst (ty_anvil_integer_Int.size) rfl rfl rfl rfl (by simp) rfl rfl ?_)
  clear henv hst a; intro a w32 henv hst
  refine seq_step rfl (op_val (v := .int .i64 2) henv rfl (rn_assign henv rfl) ?_)
  clear henv a; intro a henv
  refine wpList_nil ?_
  refine th_n ?_
  refine wp_seq ?_
  refine wp_seq ?_
  refine region_seq ?_
  refine seq_step rfl (op_val (v := .int .i64 i) henv rfl (rn_move henv rfl) ?_)
  clear henv a; intro a henv
  refine seq_step rfl (op_val (v := .bool (decide (i < (0 : Int)))) henv rfl (rn_bin henv rfl rfl rfl) ?_)
  clear henv a; intro a henv
  rw [show (decide (i < (0 : Int))) = true from (decide_eq_true (by omega))] at henv
  refine wpList_nil ?_
  refine th_n ?_
  refine if_t henv rfl (rfl) ?_
  refine wp_seq ?_
  refine region_seq ?_
  refine seq_step rfl (op_val (v := .agg #[.bool (neg 0), .slice none (zl 0) 0]) henv rfl (rn_load0 henv ty_anvil_integer_Int rfl (hst.oat (k := 1) rfl) rfl) ?_)
  clear henv a; intro a henv
  refine seq_step rfl (op_call henv rfl Tryd.call26 rfl (zero_z (show ZIn _ none 0 0 from hst.pat (k := 4) rfl)) ?_)
  rintro e w33 ⟨rfl, hb⟩
  refine ⟨_, rfl, ?_⟩
  clear henv a; intro a henv
  replace hst := hst.call hb
  clear hb
  refine seq_step rfl (op_val (v := .bool true) henv rfl (rn_move henv rfl) ?_)
  clear henv a; intro a henv
  refine seq_g rfl henv rfl rfl (op_val (v := .int .i64 2) henv rfl (rn_move henv rfl) ?_)
  clear henv a; intro a henv
  refine seq_g rfl henv rfl rfl (op_val (v := .bool true) henv rfl (rn_bin henv rfl rfl rfl) ?_)
  clear henv a; intro a henv
  refine seq_step rfl (op_val (v := .bool true) henv rfl (rn_pick henv rfl rfl) ?_)
  clear henv a; intro a henv
  refine seq_step rfl (op_val (v := .bool true) henv rfl (rn_move henv rfl) ?_)
  clear henv a; intro a henv
  refine seq_g rfl henv rfl rfl (op_val (v := .agg #[.bool (neg 0), .slice none (zl 0) 0]) henv rfl (rn_load0 henv ty_anvil_integer_Int rfl (hst.oat (k := 0) rfl) rfl) ?_)
  clear henv a; intro a henv
  refine seq_g rfl henv rfl rfl (op_call henv rfl Tryd.call26 rfl (zero_z (show ZIn _ none 0 0 from hst.pat (k := 4) rfl)) ?_)
  rintro e w34 ⟨rfl, hb⟩
  refine ⟨_, rfl, ?_⟩
  clear henv a; intro a henv
  replace hst := hst.call hb
  clear hb
  refine seq_step rfl (op_val (v := .bool true) henv rfl (rn_pick henv rfl rfl) ?_)
  clear henv a; intro a henv
  refine seq_step rfl (op_val (v := .bool true) henv rfl (rn_move henv rfl) ?_)
  clear henv a; intro a henv
  refine seq_g rfl henv rfl rfl (op_val (v := .int .i64 2) henv rfl (rn_move henv rfl) ?_)
  clear henv a; intro a henv
  refine seq_g rfl henv rfl rfl (op_val (v := .bool true) henv rfl (rn_bin henv rfl rfl rfl) ?_)
  clear henv a; intro a henv
  refine seq_step rfl (op_val (v := .bool true) henv rfl (rn_pick henv rfl rfl) ?_)
  clear henv a; intro a henv
  refine seq_step rfl (op_val (v := .bool true) henv rfl (rn_assign henv rfl) ?_)
  clear henv a; intro a henv
  refine wpList_nil ?_
  refine th_n ?_
  refine wp_ret ?_
  refine th_r ?_
  refine leave henv (res1 Tryd.results3 (RV.tmp henv rfl)) ?_
  exact ⟨rfl, hst.below⟩

set_option maxRecDepth 100000 in
set_option maxHeartbeats 4000000 in
theorem law_A1 {b0 : Bool} {A0 : Option Addr} {n0 c0 : Nat} {xs0 : List Nat} {x : Int} {i : Int} {w0 : World} (h0 : U32 w0 A0 n0 c0 xs0) (hs0 : n0 ≤ 60) (hz0 : sg b0 (val 4294967296 xs0) = x) (hT : Deb w0) (hi : i < 0) (hx0 : x ≠ 0) :
    Calls Tryd.prog 3 #[.agg #[.bool b0, .slice A0 n0 c0], .int .i64 i] w0 fun e w' => e = .returned (.bool true) ∧ Below w0.heap.size w0 w' := by
  have hx60 : zl x ≤ 60 := by have := given_bd (b := b0) h0; rw [hz0] at this; omega
  have hdx := dl_zl x
  refine enter Tryd.func3 rfl Tryd.ntmps3 rfl ?_
  intro a henv hst
  replace hst := (hst.addZ (zin_none _) rfl).addT hT hT
  replace hst := hst.addU h0 rfl
  have hL0 := Nat.le_trans h0.cap h0.big
  clear h0
  refine wp_seq ?_
  refine region_seq ?_
  refine seq_step rfl (op_box (c := #[.bool b0, .slice A0 n0 c0]) henv hst rfl rfl rfl ?_)
  clear henv hst a; intro a w2 g1 henv hst
  refine seq_step rfl (op_val (v := .bool false) henv rfl (rn_assign henv rfl) ?_)
  clear henv a; intro a henv
  refine wpList_nil ?_
  refine th_n ?_
  refine wp_seq ?_
  refine wp_seq ?_
  refine region_seq ?_
  refine seq_step rfl (op_call henv rfl Tryd.call17 rfl (live_true _) ?_)
  rintro e w3 ⟨rfl, hb⟩
  refine ⟨_, rfl, ?_⟩
  clear henv a; intro a henv
  replace hst := hst.call hb
  clear hb
  refine seq_step rfl (op_val (v := .bool false) henv rfl (rn_un henv rfl rfl) ?_)
  clear henv a; intro a henv
  refine wpList_nil ?_
  refine th_n ?_
  refine if_f henv rfl (rfl) ?_
  refine wp_skip ?_
  refine th_n ?_
  refine wp_seq ?_
  refine wp_seq ?_
  refine region_seq ?_
  refine seq_step rfl (op_val (v := .agg #[.bool b0, .slice A0 n0 c0]) henv rfl (rn_load0 henv ty_anvil_anvillaw02_Num rfl (hst.oat (k := 0) rfl) rfl) ?_)
  clear henv a; intro a henv
  refine seq_step rfl (op_buildSlice (z := 2) (pv := #[(0, .agg #[.bool b0, .slice A0 n0 c0])]) (c := #[.bool b0, .slice A0 n0 c0]) henv hst rfl Tryd.underlying95 (ty_anvil_anvillaw02_Num.size) zero_anvil_anvillaw02_Num (by decide) (by decide) rfl (by kernel_rfl) ?_)
  clear henv hst a; intro a w5 g4 henv hst
  refine seq_step rfl (op_call henv rfl Tryd.call18 rfl (long_own1 (hst.oat (k := 0) rfl) hL0 false (by simp; omega)) ?_)
  rintro e w6 ⟨rfl, hb⟩
  refine ⟨_, rfl, ?_⟩
  clear henv a; intro a henv
  replace hst := hst.call hb
  clear hb
  refine seq_step rfl (op_val (v := .bool false) henv rfl (rn_move henv rfl) ?_)
  clear henv a; intro a henv
  refine seq_g rfl henv rfl rfl (op_val (v := .int .i64 i) henv rfl (rn_move henv rfl) ?_)
  clear henv a; intro a henv
  refine seq_g rfl henv rfl rfl (op_val (v := .bool (decide (i > (3000 : Int)))) henv rfl (rn_bin henv rfl rfl rfl) ?_)
  clear henv a; intro a henv
  rw [show (decide (i > (3000 : Int))) = false from (decide_eq_false (by omega))] at henv
  refine seq_g rfl henv rfl rfl (op_val (v := .bool false) henv rfl (rn_move henv rfl) ?_)
  clear henv a; intro a henv
  refine seq_skip rfl henv rfl rfl rfl rfl ?_
  clear henv a; intro a henv
  refine seq_skip rfl henv rfl rfl rfl rfl ?_
  clear henv a; intro a henv
  refine seq_g rfl henv rfl rfl (op_val (v := .bool false) henv rfl (rn_pick henv rfl rfl) ?_)
  clear henv a; intro a henv
  refine seq_step rfl (op_val (v := .bool false) henv rfl (rn_pick henv rfl rfl) ?_)
  clear henv a; intro a henv
  refine wpList_nil ?_
  refine th_n ?_
  refine if_f henv rfl (rfl) ?_
  refine wp_skip ?_
  refine th_n ?_
  refine wp_seq ?_
  refine region_seq ?_
  refine seq_step rfl (op_val (v := .agg #[.bool b0, .slice A0 n0 c0]) henv rfl (rn_load0 henv ty_anvil_anvillaw02_Num rfl (hst.oat (k := 1) rfl) rfl) ?_)
  clear henv a; intro a henv
  refine seq_step rfl (op_call henv rfl Tryd.call19 rfl (of_given (z := x) (show U32 _ A0 n0 c0 xs0 from hst.pat (k := 0) rfl) hs0 hz0) ?_)
  rintro e w13 ⟨_, _, rfl, ⟨A7, c8, rfl, hz9⟩, ⟨A10, c11, rfl, hz12⟩, hb⟩
  refine ⟨_, rfl, ?_⟩
  clear henv a; intro a henv
  replace hst := ((hst.call hb).addZ hz9 rfl).addR hz12 rfl
  clear hz9 hz12
  clear hb
  refine seq_step rfl (op_val (v := .tuple #[.agg #[.bool (neg x), .slice A7 (zl x) c8], .agg #[.bool (neg x), .slice A10 (dl x) c11]]) henv rfl (rn_move henv rfl) ?_)
  clear henv a; intro a henv
  refine seq_step rfl (op_val (v := .agg #[.bool (neg x), .slice A7 (zl x) c8]) henv rfl (rn_extract henv rfl rfl) ?_)
  clear henv a; intro a henv
  refine seq_step rfl (op_val (v := .agg #[.bool (neg x), .slice A10 (dl x) c11]) henv rfl (rn_extract henv rfl rfl) ?_)
  clear henv a; intro a henv
  refine seq_step rfl (op_alloc (c := #[.bool (neg 0), .slice none (zl 0) 0]) henv hst rfl zero_anvil_integer_Int zcells ?_)
  clear henv hst a; intro a w15 g14 henv hst
  refine seq_step rfl (op_alloc (c := #[.bool (neg 0), .slice none (dl 0) 0]) henv hst rfl zero_anvil_anvilref02_Int rcells ?_)
  clear henv hst a; intro a w17 g16 henv hst
  refine seq_step rfl (op_store (k := 1) (c' := #[.bool (neg x), .slice A7 (zl x) c8]) henv hst (ty_anvil_integer_Int.size) rfl rfl rfl rfl (by simp) rfl rfl ?_)
  clear henv hst a; intro a w18 henv hst
  refine seq_step rfl (op_store (k := 0) (c' := #[.bool (neg x), .slice A10 (dl x) c11]) henv hst (ty_anvil_anvilref02_Int.size) rfl rfl rfl rfl (by simp) rfl rfl ?_)
  clear henv hst a; intro a w19 henv hst
  refine wpList_nil ?_
  refine th_n ?_
  refine wp_seq ?_
  refine wp_seq ?_
  refine region_any (n := 12) (Sk [⟨g16, #[.bool (neg x), .slice A10 (dl x) c11], 30⟩, ⟨g14, #[.bool (neg x), .slice A7 (zl x) c8], 28⟩, ⟨g4, #[.bool b0, .slice A0 n0 c0], 24⟩, ⟨g1, #[.bool b0, .slice A0 n0 c0], 24⟩] [pfR A10 c11 x, pfZ A7 c8 x, pfU A0 n0 c0 xs0, pfT, pfZ none 0 0] [] []) mixed rfl henv hst ?_
  clear henv hst; intro w20 henv hst
  refine sAny_take (i := 0) [1, 3, 4, 5, 6, 7, 8, 9, 10, 11] (fun w' => w'.heap[g14]? = some (.cells #[.bool (neg x), .slice A7 (zl x) c8] 28 (0, 0))) (v := .agg #[.bool (neg x), .slice A7 (zl x) c8]) rfl (by kernel_rfl) (fun _ _ _ h => h) (fun _ _ _ hS => hS.1.oat (k := 1) rfl) henv rfl (hst.oat (k := 1) rfl) (fun w' hg => rn_load0 henv ty_anvil_integer_Int rfl hg rfl) ?_
  clear henv a; intro a henv
  refine sAny_take (i := 2) [3, 4, 5, 6, 7, 8, 9, 10, 11] (fun w' => w'.heap[g16]? = some (.cells #[.bool (neg x), .slice A10 (dl x) c11] 30 (0, 0))) (v := .agg #[.bool (neg x), .slice A10 (dl x) c11]) rfl (by kernel_rfl) (fun _ _ _ h => h) (fun _ _ _ hS => hS.1.oat (k := 0) rfl) henv rfl (hst.oat (k := 0) rfl) (fun w' hg => rn_load0 henv ty_anvil_anvilref02_Int rfl hg rfl) ?_
  clear henv a; intro a henv
  refine sAny_one (i := 1) (by kernel_rfl) rfl rfl (op_call henv rfl Tryd.call20 rfl (twos_z (x := x) (show ZIn _ A7 c8 x from hst.pat (k := 1) rfl) (by omega) hx0 (show Deb _ from hst.pat (k := 3) rfl)) ?_)
  rintro e w21 ⟨k1, rfl, ht1, hb⟩
  refine ⟨_, rfl, ?_⟩
  clear henv a; intro a henv
  replace hst := hst.call hb
  clear hb
  refine ⟨.inr ⟨hst.kn.pick [0, 1, 2, 3] [0, 1, 2, 3, 4], .inr (hst.kn.pick [] [])⟩, ?_⟩
  refine sAny_one (i := 3) (by kernel_rfl) rfl rfl (op_call henv rfl Tryd.call21 rfl (twos_r (x := x) (show RIn _ A10 c11 x from hst.pat (k := 0) rfl) (by omega) hx0) ?_)
  rintro e w22 ⟨k2, rfl, ht2, hb⟩
  refine ⟨_, rfl, ?_⟩
  clear henv a; intro a henv
  replace hst := hst.call hb
  clear hb
  refine ⟨.inr ⟨hst.kn.pick [0, 1, 2, 3] [0, 1, 2, 3, 4], .inr (hst.kn.pick [] [])⟩, ?_⟩
  refine sAny_take (i := 4) [5, 6, 7, 8, 9, 10, 11] (fun _ => True) (v := .bool (((k1 : Nat) : Int) != ((k2 : Nat) : Int))) rfl (by kernel_rfl) (fun _ _ _ h => h) (fun _ _ _ _ => trivial) henv rfl trivial (fun w' _ => rn_bin henv rfl rfl rfl) ?_
  clear henv a; intro a henv
  rw [show (((k1 : Nat) : Int) != ((k2 : Nat) : Int)) = false from (by rw [IsTz.uniq ht1 ht2]; simp)] at henv
  refine sAny_take (i := 5) [6, 7, 8, 9, 10, 11] (fun _ => True) (v := .bool false) rfl (by kernel_rfl) (fun _ _ _ h => h) (fun _ _ _ _ => trivial) henv rfl trivial (fun w' _ => rn_move henv rfl) ?_
  clear henv a; intro a henv
  refine sAny_takeg (i := 6) [7, 9, 10, 11] (fun w' => w'.heap[g14]? = some (.cells #[.bool (neg x), .slice A7 (zl x) c8] 28 (0, 0))) (v := .agg #[.bool (neg x), .slice A7 (zl x) c8]) rfl (by kernel_rfl) (fun _ _ _ h => h) (fun _ _ _ hS => hS.1.oat (k := 1) rfl) henv rfl rfl rfl rfl (hst.oat (k := 1) rfl) (fun w' hg => rn_load0 henv ty_anvil_integer_Int rfl hg rfl) ?_
  clear henv a; intro a henv
  refine sAny_takeg (i := 8) [9, 10, 11] (fun w' => w'.heap[g16]? = some (.cells #[.bool (neg x), .slice A10 (dl x) c11] 30 (0, 0))) (v := .agg #[.bool (neg x), .slice A10 (dl x) c11]) rfl (by kernel_rfl) (fun _ _ _ h => h) (fun _ _ _ hS => hS.1.oat (k := 0) rfl) henv rfl rfl rfl rfl (hst.oat (k := 0) rfl) (fun w' hg => rn_load0 henv ty_anvil_anvilref02_Int rfl hg rfl) ?_
  clear henv a; intro a henv
  refine sAny_oneg (i := 7) (by kernel_rfl) rfl rfl henv rfl rfl rfl (op_call henv rfl Tryd.call22 rfl (bits_z (z := x) (show ZIn _ A7 c8 x from hst.pat (k := 1) rfl) (by omega)) ?_)
  rintro e w23 ⟨rfl, hb⟩
  refine ⟨_, rfl, ?_⟩
  clear henv a; intro a henv
  replace hst := hst.call hb
  clear hb
  refine ⟨.inr ⟨hst.kn.pick [0, 1, 2, 3] [0, 1, 2, 3, 4], .inr (hst.kn.pick [] [])⟩, ?_⟩
  refine sAny_oneg (i := 9) (by kernel_rfl) rfl rfl henv rfl rfl rfl (op_call henv rfl Tryd.call23 rfl (bits_r (z := x) (show RIn _ A10 c11 x from hst.pat (k := 0) rfl) (by omega)) ?_)
  rintro e w24 ⟨rfl, hb⟩
  refine ⟨_, rfl, ?_⟩
  clear henv a; intro a henv
  replace hst := hst.call hb
  clear hb
  refine ⟨.inr ⟨hst.kn.pick [0, 1, 2, 3] [0, 1, 2, 3, 4], .inr (hst.kn.pick [] [])⟩, ?_⟩
  refine sAny_takeg (i := 10) [11] (fun _ => True) (v := .bool (((blen x.natAbs : Nat) : Int) != ((blen x.natAbs : Nat) : Int))) rfl (by kernel_rfl) (fun _ _ _ h => h) (fun _ _ _ _ => trivial) henv rfl rfl rfl rfl trivial (fun w' _ => rn_bin henv rfl rfl rfl) ?_
  clear henv a; intro a henv
  rw [show (((blen x.natAbs : Nat) : Int) != ((blen x.natAbs : Nat) : Int)) = false from (by simp)] at henv
  refine sAny_take (i := 11) [] (fun _ => True) (v := .bool false) rfl (by kernel_rfl) (fun _ _ _ h => h) (fun _ _ _ _ => trivial) henv rfl trivial (fun w' _ => rn_pick henv rfl rfl) ?_
  clear henv a; intro a henv
  refine sAny_done (by kernel_rfl) ?_ _
  refine th_n ?_
  refine if_f henv rfl (rfl) ?_
  refine wp_skip ?_
  refine th_n ?_
  refine wp_seq ?_
  refine region_seq ?_
  refine seq_step rfl (op_val (v := .agg #[.bool (neg x), .slice A7 (zl x) c8]) henv rfl (rn_load0 henv ty_anvil_integer_Int rfl (hst.oat (k := 1) rfl) rfl) ?_)
  clear henv a; intro a henv
  refine seq_step rfl (op_val (v := .int .i64 i) henv rfl (rn_move henv rfl) ?_)
  clear henv a; intro a henv
  refine seq_step rfl (op_call henv rfl Tryd.call24 rfl (zshl_neg (i := i) (show ZIn _ A7 c8 x from hst.pat (k := 1) rfl) hi) ?_)
  rintro e w25 ⟨rfl, hb⟩
  refine ⟨_, rfl, ?_⟩
  clear henv a; intro a henv
  replace hst := hst.call hb
  clear hb
  refine seq_step rfl (op_val (v := .tuple #[.agg #[.bool (neg 0), .slice none (zl 0) 0], .int .i64 2]) henv rfl (rn_move henv rfl) ?_)
  clear henv a; intro a henv
  refine seq_step rfl (op_val (v := .agg #[.bool (neg 0), .slice none (zl 0) 0]) henv rfl (rn_extract henv rfl rfl) ?_)
  clear henv a; intro a henv
  refine seq_step rfl (op_val (v := .int .i64 2) henv rfl (rn_extract henv rfl rfl) ?_)
  clear henv a; intro a henv
  refine seq_step rfl (op_alloc (c := #[.bool (neg 0), .slice none (zl 0) 0]) henv hst rfl zero_anvil_integer_Int zcells ?_)
  clear henv hst a; intro a w27 g26 henv hst
  refine seq_step rfl (op_store (k := 0) (c' := #[.bool (neg 0), .slice none (zl 0) 0]) henv hst (ty_anvil_integer_Int.size) rfl rfl rfl rfl (by simp) rfl rfl ?_)
  clear henv hst a; intro a w28 henv hst
  refine seq_step rfl (op_val (v := .int .i64 2) henv rfl (rn_assign henv rfl) ?_)
  clear henv a; intro a henv
  refine wpList_nil ?_
  refine th_n ?_
  refine wp_seq ?_
  refine region_seq ?_
  refine seq_step rfl (op_val (v := .agg #[.bool (neg x), .slice A7 (zl x) c8]) henv rfl (rn_load0 henv ty_anvil_integer_Int rfl (hst.oat (k := 2) rfl) rfl) ?_)
  clear henv a; intro a henv
  refine seq_step rfl (op_val (v := .int .i64 i) henv rfl (rn_move henv rfl) ?_)
  clear henv a; intro a henv
  refine seq_step rfl (op_call henv rfl Tryd.call25 rfl (zshr_neg (x := x) (i := i) (show ZIn _ A7 c8 x from hst.pat (k := 1) rfl) hi) ?_)
  rintro e w29 ⟨rfl, hb⟩
  refine ⟨_, rfl, ?_⟩
  clear henv a; intro a henv
  replace hst := hst.call hb
  clear hb
  refine seq_step rfl (op_val (v := .tuple #[.agg #[.bool (neg 0), .slice none (zl 0) 0], .int .i64 2]) henv rfl (rn_move henv rfl) ?_)
  clear henv a; intro a henv
  refine seq_step rfl (op_val (v := .agg #[.bool (neg 0), .slice none (zl 0) 0]) henv rfl (rn_extract henv rfl rfl) ?_)
  clear henv a; intro a henv
  refine seq_step rfl (op_val (v := .int .i64 2) henv rfl (rn_extract henv rfl rfl) ?_)
  clear henv a; intro a henv
  refine seq_step rfl (op_alloc (c := #[.bool (neg 0), .slice none (zl 0) 0]) henv hst rfl zero_anvil_integer_Int zcells ?_)
  clear henv hst a; intro a w31 g30 henv hst
  refine seq_step rfl (op_store (k := 0) (c' := #[.bool (neg 0), .slice none (zl 0) 0]) henv hst (ty_anvil_integer_Int.size) rfl rfl rfl rfl (by simp) rfl rfl ?_)
  clear henv hst a; intro a w32 henv hst
  refine seq_step rfl (op_val (v := .int .i64 2) henv rfl (rn_assign henv rfl) ?_)
  clear henv a; intro a henv
  refine wpList_nil ?_
  refine th_n ?_
  refine wp_seq ?_
  refine wp_seq ?_
  refine region_seq ?_
  refine seq_step rfl (op_val (v := .int .i64 i) henv rfl (rn_move henv rfl) ?_)
  clear henv a; intro a henv
  refine seq_step rfl (op_val (v := .bool (decide (i < (0 : Int)))) henv rfl (rn_bin henv rfl rfl rfl) ?_)
  clear henv a; intro a henv
  rw [show (decide (i < (0 : Int))) = true from (decide_eq_true (by omega))] at henv
  refine wpList_nil ?_
  refine th_n ?_
  refine if_t henv rfl (rfl) ?_
  refine wp_seq ?_
  refine region_seq ?_
  refine seq_step rfl (op_val (v := .agg #[.bool (neg 0), .slice none (zl 0) 0]) henv rfl (rn_load0 henv ty_anvil_integer_Int rfl (hst.oat (k := 1) rfl) rfl) ?_)
  clear henv a; intro a henv
  refine seq_step rfl (op_call henv rfl Tryd.call26 rfl (zero_z (show ZIn _ none 0 0 from hst.pat (k := 4) rfl)) ?_)
  rintro e w33 ⟨rfl, hb⟩
  refine ⟨_, rfl, ?_⟩
  clear henv a; intro a henv
  replace hst := hst.call hb
  clear hb
  refine seq_step rfl (op_val (v := .bool true) henv rfl (rn_move henv rfl) ?_)
  clear henv a; intro a henv
  refine seq_g rfl henv rfl rfl (op_val (v := .int .i64 2) henv rfl (rn_move henv rfl) ?_)
  clear henv a; intro a henv
  refine seq_g rfl henv rfl rfl (op_val (v := .bool true) henv rfl (rn_bin henv rfl rfl rfl) ?_)
  clear henv a; intro a henv
  refine seq_step rfl (op_val (v := .bool true) henv rfl (rn_pick henv rfl rfl) ?_)
  clear henv a; intro a henv
  refine seq_step rfl (op_val (v := .bool true) henv rfl (rn_move henv rfl) ?_)
  clear henv a; intro a henv
  refine seq_g rfl henv rfl rfl (op_val (v := .agg #[.bool (neg 0), .slice none (zl 0) 0]) henv rfl (rn_load0 henv ty_anvil_integer_Int rfl (hst.oat (k := 0) rfl) rfl) ?_)
  clear henv a; intro a henv
  refine seq_g rfl henv rfl rfl (op_call henv rfl Tryd.call26 rfl (zero_z (show ZIn _ none 0 0 from hst.pat (k := 4) rfl)) ?_)
  rintro e w34 ⟨rfl, hb⟩
  refine ⟨_, rfl, ?_⟩
  clear henv a; intro a henv
  replace hst := hst.call hb
  clear hb
  refine seq_step rfl (op_val (v := .bool true) henv rfl (rn_pick henv rfl rfl) ?_)
  clear henv a; intro a henv
  refine seq_step rfl (op_val (v := .bool true) henv rfl (rn_move henv rfl) ?_)
  clear henv a; intro a henv
  refine seq_g rfl henv rfl rfl (op_val (v := .int .i64 2) henv rfl (rn_move henv rfl) ?_)
  clear henv a; intro a henv
  refine seq_g rfl henv rfl rfl (op_val (v := .bool true) henv rfl (rn_bin henv rfl rfl rfl) ?_)
  clear henv a; intro a henv
  refine seq_step rfl (op_val (v := .bool true) henv rfl (rn_pick henv rfl rfl) ?_)
  clear henv a; intro a henv
  refine seq_step rfl (op_val (v := .bool true) henv rfl (rn_assign henv rfl) ?_)
  clear henv a; intro a henv
  refine wpList_nil ?_
  refine th_n ?_
  refine wp_ret ?_
  refine th_r ?_
  refine leave henv (res1 Tryd.results3 (RV.tmp henv rfl)) ?_
  exact ⟨rfl, hst.below⟩

set_option maxRecDepth 100000 in
set_option maxHeartbeats 4000000 in
theorem law_B0 {b0 : Bool} {A0 : Option Addr} {n0 c0 : Nat} {xs0 : List Nat} {i : Int} {w0 : World} (h0 : U32 w0 A0 n0 c0 xs0) (hs0 : n0 ≤ 60) (hz0 : sg b0 (val 4294967296 xs0) = 0) (hT : Deb w0) (hi : 65536 < i) :
    Calls Tryd.prog 3 #[.agg #[.bool b0, .slice A0 n0 c0], .int .i64 i] w0 fun e w' => e = .returned (.bool true) ∧ Below w0.heap.size w0 w' := by
  have hx60 : zl 0 ≤ 60 := by have := given_bd (b := b0) h0; rw [hz0] at this; omega
  have hdx := dl_zl 0
  refine enter Tryd.func3 rfl Tryd.ntmps3 rfl ?_
  intro a henv hst
  replace hst := (hst.addZ (zin_none _) rfl).addT hT hT
  replace hst := hst.addU h0 rfl
  have hL0 := Nat.le_trans h0.cap h0.big
  clear h0
  refine wp_seq ?_
  refine region_seq ?_
  refine seq_step rfl (op_box (c := #[.bool b0, .slice A0 n0 c0]) henv hst rfl rfl rfl ?_)
  clear henv hst a; intro a w2 g1 henv hst
  refine seq_step rfl (op_val (v := .bool false) henv rfl (rn_assign henv rfl) ?_)
  clear henv a; intro a henv
  refine wpList_nil ?_
  refine th_n ?_
  refine wp_seq ?_
  refine wp_seq ?_
  refine region_seq ?_
  refine seq_step rfl (op_call henv rfl Tryd.call17 rfl (live_true _) ?_)
  rintro e w3 ⟨rfl, hb⟩
  refine ⟨_, rfl, ?_⟩
  clear henv a; intro a henv
  replace hst := hst.call hb
  clear hb
  refine seq_step rfl (op_val (v := .bool false) henv rfl (rn_un henv rfl rfl) ?_)
  clear henv a; intro a henv
  refine wpList_nil ?_
  refine th_n ?_
  refine if_f henv rfl (rfl) ?_
  refine wp_skip ?_
  refine th_n ?_
  refine wp_seq ?_
  refine wp_seq ?_
  refine region_seq ?_
  refine seq_step rfl (op_val (v := .agg #[.bool b0, .slice A0 n0 c0]) henv rfl (rn_load0 henv ty_anvil_anvillaw02_Num rfl (hst.oat (k := 0) rfl) rfl) ?_)
  clear henv a; intro a henv
  refine seq_step rfl (op_buildSlice (z := 2) (pv := #[(0, .agg #[.bool b0, .slice A0 n0 c0])]) (c := #[.bool b0, .slice A0 n0 c0]) henv hst rfl Tryd.underlying95 (ty_anvil_anvillaw02_Num.size) zero_anvil_anvillaw02_Num (by decide) (by decide) rfl (by kernel_rfl) ?_)
  clear henv hst a; intro a w5 g4 henv hst
  refine seq_step rfl (op_call henv rfl Tryd.call18 rfl (long_own1 (hst.oat (k := 0) rfl) hL0 false (by simp; omega)) ?_)
  rintro e w6 ⟨rfl, hb⟩
  refine ⟨_, rfl, ?_⟩
  clear henv a; intro a henv
  replace hst := hst.call hb
  clear hb
  refine seq_step rfl (op_val (v := .bool false) henv rfl (rn_move henv rfl) ?_)
  clear henv a; intro a henv
  refine seq_g rfl henv rfl rfl (op_val (v := .int .i64 i) henv rfl (rn_move henv rfl) ?_)
  clear henv a; intro a henv
  refine seq_g rfl henv rfl rfl (op_val (v := .bool (decide (i > (3000 : Int)))) henv rfl (rn_bin henv rfl rfl rfl) ?_)
  clear henv a; intro a henv
  rw [show (decide (i > (3000 : Int))) = true from (decide_eq_true (by omega))] at henv
  refine seq_g rfl henv rfl rfl (op_val (v := .bool true) henv rfl (rn_move henv rfl) ?_)
  clear henv a; intro a henv
  refine seq_g rfl henv rfl rfl (op_val (v := .int .i64 i) henv rfl (rn_move henv rfl) ?_)
  clear henv a; intro a henv
  refine seq_g rfl henv rfl rfl (op_val (v := .bool (decide (i ≤ (65536 : Int)))) henv rfl (rn_bin henv rfl rfl rfl) ?_)
  clear henv a; intro a henv
  rw [show (decide (i ≤ (65536 : Int))) = false from (decide_eq_false (by omega))] at henv
  refine seq_g rfl henv rfl rfl (op_val (v := .bool false) henv rfl (rn_pick henv rfl rfl) ?_)
  clear henv a; intro a henv
  refine seq_step rfl (op_val (v := .bool false) henv rfl (rn_pick henv rfl rfl) ?_)
  clear henv a; intro a henv
  refine wpList_nil ?_
  refine th_n ?_
  refine if_f henv rfl (rfl) ?_
  refine wp_skip ?_
  refine th_n ?_
  refine wp_seq ?_
  refine region_seq ?_
  refine seq_step rfl (op_val (v := .agg #[.bool b0, .slice A0 n0 c0]) henv rfl (rn_load0 henv ty_anvil_anvillaw02_Num rfl (hst.oat (k := 1) rfl) rfl) ?_)
  clear henv a; intro a henv
  refine seq_step rfl (op_call henv rfl Tryd.call19 rfl (of_given (z := 0) (show U32 _ A0 n0 c0 xs0 from hst.pat (k := 0) rfl) hs0 hz0) ?_)
  rintro e w13 ⟨_, _, rfl, ⟨A7, c8, rfl, hz9⟩, ⟨A10, c11, rfl, hz12⟩, hb⟩
  refine ⟨_, rfl, ?_⟩
  clear henv a; intro a henv
  replace hst := ((hst.call hb).addZ hz9 rfl).addR hz12 rfl
  clear hz9 hz12
  clear hb
  refine seq_step rfl (op_val (v := .tuple #[.agg #[.bool (neg 0), .slice A7 (zl 0) c8], .agg #[.bool (neg 0), .slice A10 (dl 0) c11]]) henv rfl (rn_move henv rfl) ?_)
  clear henv a; intro a henv
  refine seq_step rfl (op_val (v := .agg #[.bool (neg 0), .slice A7 (zl 0) c8]) henv rfl (rn_extract henv rfl rfl) ?_)
  clear henv a; intro a henv
  refine seq_step rfl (op_val (v := .agg #[.bool (neg 0), .slice A10 (dl 0) c11]) henv rfl (rn_extract henv rfl rfl) ?_)
  clear henv a; intro a henv
  refine seq_step rfl (op_alloc (c := #[.bool (neg 0), .slice none (zl 0) 0]) henv hst rfl zero_anvil_integer_Int zcells ?_)
  clear henv hst a; intro a w15 g14 henv hst
  refine seq_step rfl (op_alloc (c := #[.bool (neg 0), .slice none (dl 0) 0]) henv hst rfl zero_anvil_anvilref02_Int rcells ?_)
  clear henv hst a; intro a w17 g16 henv hst
  refine seq_step rfl (op_store (k := 1) (c' := #[.bool (neg 0), .slice A7 (zl 0) c8]) henv hst (ty_anvil_integer_Int.size) rfl rfl rfl rfl (by simp) rfl rfl ?_)
  clear henv hst a; intro a w18 henv hst
  refine seq_step rfl (op_store (k := 0) (c' := #[.bool (neg 0), .slice A10 (dl 0) c11]) henv hst (ty_anvil_anvilref02_Int.size) rfl rfl rfl rfl (by simp) rfl rfl ?_)
  clear henv hst a; intro a w19 henv hst
  refine wpList_nil ?_
  refine th_n ?_
  refine wp_seq ?_
  refine wp_seq ?_
  refine region_any (n := 12) (Sk [⟨g16, #[.bool (neg 0), .slice A10 (dl 0) c11], 30⟩, ⟨g14, #[.bool (neg 0), .slice A7 (zl 0) c8], 28⟩, ⟨g4, #[.bool b0, .slice A0 n0 c0], 24⟩, ⟨g1, #[.bool b0, .slice A0 n0 c0], 24⟩] [pfR A10 c11 0, pfZ A7 c8 0, pfU A0 n0 c0 xs0, pfT, pfZ none 0 0] [] []) mixed rfl henv hst ?_
  clear henv hst; intro w20 henv hst
  refine sAny_take (i := 0) [1, 3, 4, 5, 6, 7, 8, 9, 10, 11] (fun w' => w'.heap[g14]? = some (.cells #[.bool (neg 0), .slice A7 (zl 0) c8] 28 (0, 0))) (v := .agg #[.bool (neg 0), .slice A7 (zl 0) c8]) rfl (by kernel_rfl) (fun _ _ _ h => h) (fun _ _ _ hS => hS.1.oat (k := 1) rfl) henv rfl (hst.oat (k := 1) rfl) (fun w' hg => rn_load0 henv ty_anvil_integer_Int rfl hg rfl) ?_
  clear henv a; intro a henv
  refine sAny_take (i := 2) [3, 4, 5, 6, 7, 8, 9, 10, 11] (fun w' => w'.heap[g16]? = some (.cells #[.bool (neg 0), .slice A10 (dl 0) c11] 30 (0, 0))) (v := .agg #[.bool (neg 0), .slice A10 (dl 0) c11]) rfl (by kernel_rfl) (fun _ _ _ h => h) (fun _ _ _ hS => hS.1.oat (k := 0) rfl) henv rfl (hst.oat (k := 0) rfl) (fun w' hg => rn_load0 henv ty_anvil_anvilref02_Int rfl hg rfl) ?_
  clear henv a; intro a henv
  refine sAny_one (i := 1) (by kernel_rfl) rfl rfl (op_call henv rfl Tryd.call20 rfl (twos_z0 (show ZIn _ A7 c8 0 from hst.pat (k := 1) rfl) (show Deb _ from hst.pat (k := 3) rfl)) ?_)
  rintro e w21 ⟨rfl, hb⟩
  refine ⟨_, rfl, ?_⟩
  clear henv a; intro a henv
  replace hst := hst.call hb
  clear hb
  refine ⟨.inr ⟨hst.kn.pick [0, 1, 2, 3] [0, 1, 2, 3, 4], .inr (hst.kn.pick [] [])⟩, ?_⟩
  refine sAny_one (i := 3) (by kernel_rfl) rfl rfl (op_call henv rfl Tryd.call21 rfl (twos_r0 (show RIn _ A10 c11 0 from hst.pat (k := 0) rfl)) ?_)
  rintro e w22 ⟨rfl, hb⟩
  refine ⟨_, rfl, ?_⟩
  clear henv a; intro a henv
  replace hst := hst.call hb
  clear hb
  refine ⟨.inr ⟨hst.kn.pick [0, 1, 2, 3] [0, 1, 2, 3, 4], .inr (hst.kn.pick [] [])⟩, ?_⟩
  refine sAny_take (i := 4) [5, 6, 7, 8, 9, 10, 11] (fun _ => True) (v := .bool false) rfl (by kernel_rfl) (fun _ _ _ h => h) (fun _ _ _ _ => trivial) henv rfl trivial (fun w' _ => rn_bin henv rfl rfl rfl) ?_
  clear henv a; intro a henv
  refine sAny_take (i := 5) [6, 7, 8, 9, 10, 11] (fun _ => True) (v := .bool false) rfl (by kernel_rfl) (fun _ _ _ h => h) (fun _ _ _ _ => trivial) henv rfl trivial (fun w' _ => rn_move henv rfl) ?_
  clear henv a; intro a henv
  refine sAny_takeg (i := 6) [7, 9, 10, 11] (fun w' => w'.heap[g14]? = some (.cells #[.bool (neg 0), .slice A7 (zl 0) c8] 28 (0, 0))) (v := .agg #[.bool (neg 0), .slice A7 (zl 0) c8]) rfl (by kernel_rfl) (fun _ _ _ h => h) (fun _ _ _ hS => hS.1.oat (k := 1) rfl) henv rfl rfl rfl rfl (hst.oat (k := 1) rfl) (fun w' hg => rn_load0 henv ty_anvil_integer_Int rfl hg rfl) ?_
  clear henv a; intro a henv
  refine sAny_takeg (i := 8) [9, 10, 11] (fun w' => w'.heap[g16]? = some (.cells #[.bool (neg 0), .slice A10 (dl 0) c11] 30 (0, 0))) (v := .agg #[.bool (neg 0), .slice A10 (dl 0) c11]) rfl (by kernel_rfl) (fun _ _ _ h => h) (fun _ _ _ hS => hS.1.oat (k := 0) rfl) henv rfl rfl rfl rfl (hst.oat (k := 0) rfl) (fun w' hg => rn_load0 henv ty_anvil_anvilref02_Int rfl hg rfl) ?_
  clear henv a; intro a henv
  refine sAny_oneg (i := 7) (by kernel_rfl) rfl rfl henv rfl rfl rfl (op_call henv rfl Tryd.call22 rfl (bits_z (z := 0) (show ZIn _ A7 c8 0 from hst.pat (k := 1) rfl) (by omega)) ?_)
  rintro e w23 ⟨rfl, hb⟩
  refine ⟨_, rfl, ?_⟩
  clear henv a; intro a henv
  replace hst := hst.call hb
  clear hb
  refine ⟨.inr ⟨hst.kn.pick [0, 1, 2, 3] [0, 1, 2, 3, 4], .inr (hst.kn.pick [] [])⟩, ?_⟩
  refine sAny_oneg (i := 9) (by kernel_rfl) rfl rfl henv rfl rfl rfl (op_call henv rfl Tryd.call23 rfl (bits_r (z := 0) (show RIn _ A10 c11 0 from hst.pat (k := 0) rfl) (by omega)) ?_)
  rintro e w24 ⟨rfl, hb⟩
  refine ⟨_, rfl, ?_⟩
  clear henv a; intro a henv
  replace hst := hst.call hb
  clear hb
  refine ⟨.inr ⟨hst.kn.pick [0, 1, 2, 3] [0, 1, 2, 3, 4], .inr (hst.kn.pick [] [])⟩, ?_⟩
  refine sAny_takeg (i := 10) [11] (fun _ => True) (v := .bool (((blen (0 : Int).natAbs : Nat) : Int) != ((blen (0 : Int).natAbs : Nat) : Int))) rfl (by kernel_rfl) (fun _ _ _ h => h) (fun _ _ _ _ => trivial) henv rfl rfl rfl rfl trivial (fun w' _ => rn_bin henv rfl rfl rfl) ?_
  clear henv a; intro a henv
  rw [show (((blen (0 : Int).natAbs : Nat) : Int) != ((blen (0 : Int).natAbs : Nat) : Int)) = false from (by simp)] at henv
  refine sAny_take (i := 11) [] (fun _ => True) (v := .bool false) rfl (by kernel_rfl) (fun _ _ _ h => h) (fun _ _ _ _ => trivial) henv rfl trivial (fun w' _ => rn_pick henv rfl rfl) ?_
  clear henv a; intro a henv
  refine sAny_done (by kernel_rfl) ?_ _
  refine th_n ?_
  refine if_f henv rfl (rfl) ?_
  refine wp_skip ?_
  refine th_n ?_
  refine wp_seq ?_
  refine region_seq ?_
  refine seq_step rfl (op_val (v := .agg #[.bool (neg 0), .slice A7 (zl 0) c8]) henv rfl (rn_load0 henv ty_anvil_integer_Int rfl (hst.oat (k := 1) rfl) rfl) ?_)
  clear henv a; intro a henv
  refine seq_step rfl (op_val (v := .int .i64 i) henv rfl (rn_move henv rfl) ?_)
  clear henv a; intro a henv
  refine seq_step rfl (op_call henv rfl Tryd.call24 rfl (zshl_far (i := i) (show ZIn _ A7 c8 0 from hst.pat (k := 1) rfl) hi) ?_)
  rintro e w25 ⟨rfl, hb⟩
  refine ⟨_, rfl, ?_⟩
  clear henv a; intro a henv
  replace hst := hst.call hb
  clear hb
  refine seq_step rfl (op_val (v := .tuple #[.agg #[.bool (neg 0), .slice none (zl 0) 0], .int .i64 3]) henv rfl (rn_move henv rfl) ?_)
  clear henv a; intro a henv
  refine seq_step rfl (op_val (v := .agg #[.bool (neg 0), .slice none (zl 0) 0]) henv rfl (rn_extract henv rfl rfl) ?_)
  clear henv a; intro a henv
  refine seq_step rfl (op_val (v := .int .i64 3) henv rfl (rn_extract henv rfl rfl) ?_)
  clear henv a; intro a henv
  refine seq_step rfl (op_alloc (c := #[.bool (neg 0), .slice none (zl 0) 0]) henv hst rfl zero_anvil_integer_Int zcells ?_)
  clear henv hst a; intro a w27 g26 henv hst
  refine seq_step rfl (op_store (k := 0) (c' := #[.bool (neg 0), .slice none (zl 0) 0]) henv hst (ty_anvil_integer_Int.size) rfl rfl rfl rfl (by simp) rfl rfl ?_)
  clear henv hst a; intro a w28 henv hst
  refine seq_step rfl (op_val (v := .int .i64 3) henv rfl (rn_assign henv rfl) ?_)
  clear henv a; intro a henv
  refine wpList_nil ?_
  refine th_n ?_
  refine wp_seq ?_
  refine region_seq ?_
  refine seq_step rfl (op_val (v := .agg #[.bool (neg 0), .slice A7 (zl 0) c8]) henv rfl (rn_load0 henv ty_anvil_integer_Int rfl (hst.oat (k := 2) rfl) rfl) ?_)
  clear henv a; intro a henv
  refine seq_step rfl (op_val (v := .int .i64 i) henv rfl (rn_move henv rfl) ?_)
  clear henv a; intro a henv
  refine seq_step rfl (op_call henv rfl Tryd.call25 rfl (zshr_zero (i := i) (show ZIn _ A7 c8 0 from hst.pat (k := 1) rfl) (by omega)) ?_)
  rintro e w29 ⟨rfl, hb⟩
  refine ⟨_, rfl, ?_⟩
  clear henv a; intro a henv
  replace hst := hst.call hb
  clear hb
  refine seq_step rfl (op_val (v := .tuple #[.agg #[.bool (neg 0), .slice none (zl 0) 0], .int .i64 0]) henv rfl (rn_move henv rfl) ?_)
  clear henv a; intro a henv
  refine seq_step rfl (op_val (v := .agg #[.bool (neg 0), .slice none (zl 0) 0]) henv rfl (rn_extract henv rfl rfl) ?_)
  clear henv a; intro a henv
  refine seq_step rfl (op_val (v := .int .i64 0) henv rfl (rn_extract henv rfl rfl) ?_)
  clear henv a; intro a henv
  refine seq_step rfl (op_alloc (c := #[.bool (neg 0), .slice none (zl 0) 0]) henv hst rfl zero_anvil_integer_Int zcells ?_)
  clear henv hst a; intro a w31 g30 henv hst
  refine seq_step rfl (op_store (k := 0) (c' := #[.bool (neg 0), .slice none (zl 0) 0]) henv hst (ty_anvil_integer_Int.size) rfl rfl rfl rfl (by simp) rfl rfl ?_)
  clear henv hst a; intro a w32 henv hst
  refine seq_step rfl (op_val (v := .int .i64 0) henv rfl (rn_assign henv rfl) ?_)
  clear henv a; intro a henv
  refine wpList_nil ?_
  refine th_n ?_
  refine wp_seq ?_
  refine wp_seq ?_
  refine region_seq ?_
  refine seq_step rfl (op_val (v := .int .i64 i) henv rfl (rn_move henv rfl) ?_)
  clear henv a; intro a henv
  refine seq_step rfl (op_val (v := .bool (decide (i < (0 : Int)))) henv rfl (rn_bin henv rfl rfl rfl) ?_)
  clear henv a; intro a henv
  rw [show (decide (i < (0 : Int))) = false from (decide_eq_false (by omega))] at henv
  refine wpList_nil ?_
  refine th_n ?_
  refine if_f henv rfl (rfl) ?_
  refine wp_skip ?_
  refine th_n ?_
  refine wp_seq ?_
  refine wp_seq ?_
  refine region_seq ?_
  refine seq_step rfl (op_val (v := .int .i64 i) henv rfl (rn_move henv rfl) ?_)
  clear henv a; intro a henv
  refine seq_step rfl (op_val (v := .bool (decide (i > (65536 : Int)))) henv rfl (rn_bin henv rfl rfl rfl) ?_)
  clear henv a; intro a henv
  rw [show (decide (i > (65536 : Int))) = true from (decide_eq_true (by omega))] at henv
  refine wpList_nil ?_
  refine th_n ?_
  refine if_t henv rfl (rfl) ?_
  refine wp_seq ?_
  refine region_seq ?_
  refine seq_step rfl (op_val (v := .agg #[.bool (neg 0), .slice none (zl 0) 0]) henv rfl (rn_load0 henv ty_anvil_integer_Int rfl (hst.oat (k := 1) rfl) rfl) ?_)
  clear henv a; intro a henv
  refine seq_step rfl (op_call henv rfl Tryd.call26 rfl (zero_z (show ZIn _ none 0 0 from hst.pat (k := 4) rfl)) ?_)
  rintro e w33 ⟨rfl, hb⟩
  refine ⟨_, rfl, ?_⟩
  clear henv a; intro a henv
  replace hst := hst.call hb
  clear hb
  refine seq_step rfl (op_val (v := .bool true) henv rfl (rn_move henv rfl) ?_)
  clear henv a; intro a henv
  refine seq_g rfl henv rfl rfl (op_val (v := .int .i64 3) henv rfl (rn_move henv rfl) ?_)
  clear henv a; intro a henv
  refine seq_g rfl henv rfl rfl (op_val (v := .bool true) henv rfl (rn_bin henv rfl rfl rfl) ?_)
  clear henv a; intro a henv
  refine seq_step rfl (op_val (v := .bool true) henv rfl (rn_pick henv rfl rfl) ?_)
  clear henv a; intro a henv
  refine seq_step rfl (op_val (v := .bool true) henv rfl (rn_move henv rfl) ?_)
  clear henv a; intro a henv
  refine seq_g rfl henv rfl rfl (op_val (v := .agg #[.bool (neg 0), .slice none (zl 0) 0]) henv rfl (rn_load0 henv ty_anvil_integer_Int rfl (hst.oat (k := 0) rfl) rfl) ?_)
  clear henv a; intro a henv
  refine seq_g rfl henv rfl rfl (op_call henv rfl Tryd.call26 rfl (zero_z (show ZIn _ none 0 0 from hst.pat (k := 4) rfl)) ?_)
  rintro e w34 ⟨rfl, hb⟩
  refine ⟨_, rfl, ?_⟩
  clear henv a; intro a henv
  replace hst := hst.call hb
  clear hb
  refine seq_step rfl (op_val (v := .bool true) henv rfl (rn_pick henv rfl rfl) ?_)
  clear henv a; intro a henv
  refine seq_step rfl (op_val (v := .bool true) henv rfl (rn_assign henv rfl) ?_)
  clear henv a; intro a henv
  refine wpList_nil ?_
  refine th_n ?_
  refine wp_seq ?_
  refine region_seq ?_
  refine seq_step rfl (op_val (v := .bool true) henv rfl (rn_move henv rfl) ?_)
  clear henv a; intro a henv
  refine seq_step rfl (op_val (v := .bool true) henv rfl (rn_move henv rfl) ?_)
  clear henv a; intro a henv
  refine seq_g rfl henv rfl rfl (op_val (v := .agg #[.bool (neg 0), .slice A10 (dl 0) c11]) henv rfl (rn_load0 henv ty_anvil_anvilref02_Int rfl (hst.oat (k := 2) rfl) rfl) ?_)
  clear henv a; intro a henv
  refine seq_g rfl henv rfl rfl (op_call henv rfl Tryd.call27 rfl (sign_r (z := 0)) ?_)
  rintro e w35 ⟨rfl, hb⟩
  refine ⟨_, rfl, ?_⟩
  clear henv a; intro a henv
  replace hst := hst.call hb
  clear hb
  refine seq_g rfl henv rfl rfl (op_val (v := .bool ((0 : Int).sign == (0 : Int))) henv rfl (rn_bin henv rfl rfl rfl) ?_)
  clear henv a; intro a henv
  rw [show ((0 : Int).sign == (0 : Int)) = true from rfl] at henv
  refine seq_g rfl henv rfl rfl (op_val (v := .bool true) henv rfl (rn_move henv rfl) ?_)
  clear henv a; intro a henv
  refine seq_g rfl henv rfl rfl (op_val (v := .int .i64 0) henv rfl (rn_move henv rfl) ?_)
  clear henv a; intro a henv
  refine seq_g rfl henv rfl rfl (op_val (v := .bool true) henv rfl (rn_bin henv rfl rfl rfl) ?_)
  clear henv a; intro a henv
  refine seq_g rfl henv rfl rfl (op_val (v := .bool true) henv rfl (rn_pick henv rfl rfl) ?_)
  clear henv a; intro a henv
  refine seq_g rfl henv rfl rfl (op_val (v := .bool true) henv rfl (rn_move henv rfl) ?_)
  clear henv a; intro a henv
  refine seq_skip rfl henv rfl rfl rfl rfl ?_
  clear henv a; intro a henv
  refine seq_skip rfl henv rfl rfl rfl rfl ?_
  clear henv a; intro a henv
  refine seq_skip rfl henv rfl rfl rfl rfl ?_
  clear henv a; intro a henv
  refine seq_skip rfl henv rfl rfl rfl rfl ?_
  clear henv a; intro a henv
  refine seq_skip rfl henv rfl rfl rfl rfl ?_
  clear henv a; intro a henv
  refine seq_skip rfl henv rfl rfl rfl rfl ?_
  clear henv a; intro a henv
  refine seq_skip rfl henv rfl rfl rfl rfl ?_
  clear henv a; intro a henv
  refine seq_g rfl henv rfl rfl (op_val (v := .bool true) henv rfl (rn_pick henv rfl rfl) ?_)
  clear henv a; intro a henv
  refine seq_step rfl (op_val (v := .bool true) henv rfl (rn_pick henv rfl rfl) ?_)
  clear henv a; intro a henv
  refine seq_step rfl (op_val (v := .bool true) henv rfl (rn_assign henv rfl) ?_)
  clear henv a; intro a henv
  refine wpList_nil ?_
  refine th_n ?_
  refine wp_ret ?_
  refine th_r ?_
  refine leave henv (res1 Tryd.results3 (RV.tmp henv rfl)) ?_
  exact ⟨rfl, hst.below⟩

set_option maxRecDepth 100000 in
set_option maxHeartbeats 4000000 in
theorem law_B1 {b0 : Bool} {A0 : Option Addr} {n0 c0 : Nat} {xs0 : List Nat} {x : Int} {i : Int} {w0 : World} (h0 : U32 w0 A0 n0 c0 xs0) (hs0 : n0 ≤ 60) (hz0 : sg b0 (val 4294967296 xs0) = x) (hT : Deb w0) (hi : 65536 < i) (hx0 : x ≠ 0) :
    Calls Tryd.prog 3 #[.agg #[.bool b0, .slice A0 n0 c0], .int .i64 i] w0 fun e w' => e = .returned (.bool true) ∧ Below w0.heap.size w0 w' := by
  have hx60 : zl x ≤ 60 := by have := given_bd (b := b0) h0; rw [hz0] at this; omega
  have hdx := dl_zl x
  have hfar : ∀ k, IsTz x.natAbs k → (k : Int) < i := fun k hk => by have := tz_zl hk; omega
  refine enter Tryd.func3 rfl Tryd.ntmps3 rfl ?_
  intro a henv hst
  replace hst := (hst.addZ (zin_none _) rfl).addT hT hT
  replace hst := hst.addU h0 rfl
  have hL0 := Nat.le_trans h0.cap h0.big
  clear h0
  refine wp_seq ?_
  refine region_seq ?_
  refine seq_step rfl (op_box (c := #[.bool b0, .slice A0 n0 c0]) henv hst rfl rfl rfl ?_)
  clear henv hst a; intro a w2 g1 henv hst
  refine seq_step rfl (op_val (v := .bool false) henv rfl (rn_assign henv rfl) ?_)
  clear henv a; intro a henv
  refine wpList_nil ?_
  refine th_n ?_
  refine wp_seq ?_
  refine wp_seq ?_
  refine region_seq ?_
  refine seq_step rfl (op_call henv rfl Tryd.call17 rfl (live_true _) ?_)
  rintro e w3 ⟨rfl, hb⟩
  refine ⟨_, rfl, ?_⟩
  clear henv a; intro a henv
  replace hst := hst.call hb
  clear hb
  refine seq_step rfl (op_val (v := .bool false) henv rfl (rn_un henv rfl rfl) ?_)
  clear henv a; intro a henv
  refine wpList_nil ?_
  refine th_n ?_
  refine if_f henv rfl (rfl) ?_
  refine wp_skip ?_
  refine th_n ?_
  refine wp_seq ?_
  refine wp_seq ?_
  refine region_seq ?_
  refine seq_step rfl (op_val (v := .agg #[.bool b0, .slice A0 n0 c0]) henv rfl (rn_load0 henv ty_anvil_anvillaw02_Num rfl (hst.oat (k := 0) rfl) rfl) ?_)
  clear henv a; intro a henv
  refine seq_step rfl (op_buildSlice (z := 2) (pv := #[(0, .agg #[.bool b0, .slice A0 n0 c0])]) (c := #[.bool b0, .slice A0 n0 c0]) henv hst rfl Tryd.underlying95 (ty_anvil_anvillaw02_Num.size) zero_anvil_anvillaw02_Num (by decide) (by decide) rfl (by kernel_rfl) ?_)
  clear henv hst a; intro a w5 g4 henv hst
  refine seq_step rfl (op_call henv rfl Tryd.call18 rfl (long_own1 (hst.oat (k := 0) rfl) hL0 false (by simp; omega)) ?_)
  rintro e w6 ⟨rfl, hb⟩
  refine ⟨_, rfl, ?_⟩
  clear henv a; intro a henv
  replace hst := hst.call hb
  clear hb
  refine seq_step rfl (op_val (v := .bool false) henv rfl (rn_move henv rfl) ?_)
  clear henv a; intro a henv
  refine seq_g rfl henv rfl rfl (op_val (v := .int .i64 i) henv rfl (rn_move henv rfl) ?_)
  clear henv a; intro a henv
  refine seq_g rfl henv rfl rfl (op_val (v := .bool (decide (i > (3000 : Int)))) henv rfl (rn_bin henv rfl rfl rfl) ?_)
  clear henv a; intro a henv
  rw [show (decide (i > (3000 : Int))) = true from (decide_eq_true (by omega))] at henv
  refine seq_g rfl henv rfl rfl (op_val (v := .bool true) henv rfl (rn_move henv rfl) ?_)
  clear henv a; intro a henv
  refine seq_g rfl henv rfl rfl (op_val (v := .int .i64 i) henv rfl (rn_move henv rfl) ?_)
  clear henv a; intro a henv
  refine seq_g rfl henv rfl rfl (op_val (v := .bool (decide (i ≤ (65536 : Int)))) henv rfl (rn_bin henv rfl rfl rfl) ?_)
  clear henv a; intro a henv
  rw [show (decide (i ≤ (65536 : Int))) = false from (decide_eq_false (by omega))] at henv
  refine seq_g rfl henv rfl rfl (op_val (v := .bool false) henv rfl (rn_pick henv rfl rfl) ?_)
  clear henv a; intro a henv
  refine seq_step rfl (op_val (v := .bool false) henv rfl (rn_pick henv rfl rfl) ?_)
  clear henv a; intro a henv
  refine wpList_nil ?_
  refine th_n ?_
  refine if_f henv rfl (rfl) ?_
  refine wp_skip ?_
  refine th_n ?_
  refine wp_seq ?_
  refine region_seq ?_
  refine seq_step rfl (op_val (v := .agg #[.bool b0, .slice A0 n0 c0]) henv rfl (rn_load0 henv ty_anvil_anvillaw02_Num rfl (hst.oat (k := 1) rfl) rfl) ?_)
  clear henv a; intro a henv
  refine seq_step rfl (op_call henv rfl Tryd.call19 rfl (of_given (z := x) (show U32 _ A0 n0 c0 xs0 from hst.pat (k := 0) rfl) hs0 hz0) ?_)
  rintro e w13 ⟨_, _, rfl, ⟨A7, c8, rfl, hz9⟩, ⟨A10, c11, rfl, hz12⟩, hb⟩
  refine ⟨_, rfl, ?_⟩
  clear henv a; intro a henv
  replace hst := ((hst.call hb).addZ hz9 rfl).addR hz12 rfl
  clear hz9 hz12
  clear hb
  refine seq_step rfl (op_val (v := .tuple #[.agg #[.bool (neg x), .slice A7 (zl x) c8], .agg #[.bool (neg x), .slice A10 (dl x) c11]]) henv rfl (rn_move henv rfl) ?_)
  clear henv a; intro a henv
  refine seq_step rfl (op_val (v := .agg #[.bool (neg x), .slice A7 (zl x) c8]) henv rfl (rn_extract henv rfl rfl) ?_)
  clear henv a; intro a henv
  refine seq_step rfl (op_val (v := .agg #[.bool (neg x), .slice A10 (dl x) c11]) henv rfl (rn_extract henv rfl rfl) ?_)
  clear henv a; intro a henv
  refine seq_step rfl (op_alloc (c := #[.bool (neg 0), .slice none (zl 0) 0]) henv hst rfl zero_anvil_integer_Int zcells ?_)
  clear henv hst a; intro a w15 g14 henv hst
  refine seq_step rfl (op_alloc (c := #[.bool (neg 0), .slice none (dl 0) 0]) henv hst rfl zero_anvil_anvilref02_Int rcells ?_)
  clear henv hst a; intro a w17 g16 henv hst
  refine seq_step rfl (op_store (k := 1) (c' := #[.bool (neg x), .slice A7 (zl x) c8]) henv hst (ty_anvil_integer_Int.size) rfl rfl rfl rfl (by simp) rfl rfl ?_)
  clear henv hst a; intro a w18 henv hst
  refine seq_step rfl (op_store (k := 0) (c' := #[.bool (neg x), .slice A10 (dl x) c11]) henv hst (ty_anvil_anvilref02_Int.size) rfl rfl rfl rfl (by simp) rfl rfl ?_)
  clear henv hst a; intro a w19 henv hst
  refine wpList_nil ?_
  refine th_n ?_
  refine wp_seq ?_
  refine wp_seq ?_
  refine region_any (n := 12) (Sk [⟨g16, #[.bool (neg x), .slice A10 (dl x) c11], 30⟩, ⟨g14, #[.bool (neg x), .slice A7 (zl x) c8], 28⟩, ⟨g4, #[.bool b0, .slice A0 n0 c0], 24⟩, ⟨g1, #[.bool b0, .slice A0 n0 c0], 24⟩] [pfR A10 c11 x, pfZ A7 c8 x, pfU A0 n0 c0 xs0, pfT, pfZ none 0 0] [] []) mixed rfl henv hst ?_
  clear henv hst; intro w20 henv hst
  refine sAny_take (i := 0) [1, 3, 4, 5, 6, 7, 8, 9, 10, 11] (fun w' => w'.heap[g14]? = some (.cells #[.bool (neg x), .slice A7 (zl x) c8] 28 (0, 0))) (v := .agg #[.bool (neg x), .slice A7 (zl x) c8]) rfl (by kernel_rfl) (fun _ _ _ h => h) (fun _ _ _ hS => hS.1.oat (k := 1) rfl) henv rfl (hst.oat (k := 1) rfl) (fun w' hg => rn_load0 henv ty_anvil_integer_Int rfl hg rfl) ?_
  clear henv a; intro a henv
  refine sAny_take (i := 2) [3, 4, 5, 6, 7, 8, 9, 10, 11] (fun w' => w'.heap[g16]? = some (.cells #[.bool (neg x), .slice A10 (dl x) c11] 30 (0, 0))) (v := .agg #[.bool (neg x), .slice A10 (dl x) c11]) rfl (by kernel_rfl) (fun _ _ _ h => h) (fun _ _ _ hS => hS.1.oat (k := 0) rfl) henv rfl (hst.oat (k := 0) rfl) (fun w' hg => rn_load0 henv ty_anvil_anvilref02_Int rfl hg rfl) ?_
  clear henv a; intro a henv
  refine sAny_one (i := 1) (by kernel_rfl) rfl rfl (op_call henv rfl Tryd.call20 rfl (twos_z (x := x) (show ZIn _ A7 c8 x from hst.pat (k := 1) rfl) (by omega) hx0 (show Deb _ from hst.pat (k := 3) rfl)) ?_)
  rintro e w21 ⟨k1, rfl, ht1, hb⟩
  refine ⟨_, rfl, ?_⟩
  clear henv a; intro a henv
  replace hst := hst.call hb
  clear hb
  refine ⟨.inr ⟨hst.kn.pick [0, 1, 2, 3] [0, 1, 2, 3, 4], .inr (hst.kn.pick [] [])⟩, ?_⟩
  refine sAny_one (i := 3) (by kernel_rfl) rfl rfl (op_call henv rfl Tryd.call21 rfl (twos_r (x := x) (show RIn _ A10 c11 x from hst.pat (k := 0) rfl) (by omega) hx0) ?_)
  rintro e w22 ⟨k2, rfl, ht2, hb⟩
  refine ⟨_, rfl, ?_⟩
  clear henv a; intro a henv
  replace hst := hst.call hb
  clear hb
  refine ⟨.inr ⟨hst.kn.pick [0, 1, 2, 3] [0, 1, 2, 3, 4], .inr (hst.kn.pick [] [])⟩, ?_⟩
  refine sAny_take (i := 4) [5, 6, 7, 8, 9, 10, 11] (fun _ => True) (v := .bool (((k1 : Nat) : Int) != ((k2 : Nat) : Int))) rfl (by kernel_rfl) (fun _ _ _ h => h) (fun _ _ _ _ => trivial) henv rfl trivial (fun w' _ => rn_bin henv rfl rfl rfl) ?_
  clear henv a; intro a henv
  rw [show (((k1 : Nat) : Int) != ((k2 : Nat) : Int)) = false from (by rw [IsTz.uniq ht1 ht2]; simp)] at henv
  refine sAny_take (i := 5) [6, 7, 8, 9, 10, 11] (fun _ => True) (v := .bool false) rfl (by kernel_rfl) (fun _ _ _ h => h) (fun _ _ _ _ => trivial) henv rfl trivial (fun w' _ => rn_move henv rfl) ?_
  clear henv a; intro a henv
  refine sAny_takeg (i := 6) [7, 9, 10, 11] (fun w' => w'.heap[g14]? = some (.cells #[.bool (neg x), .slice A7 (zl x) c8] 28 (0, 0))) (v := .agg #[.bool (neg x), .slice A7 (zl x) c8]) rfl (by kernel_rfl) (fun _ _ _ h => h) (fun _ _ _ hS => hS.1.oat (k := 1) rfl) henv rfl rfl rfl rfl (hst.oat (k := 1) rfl) (fun w' hg => rn_load0 henv ty_anvil_integer_Int rfl hg rfl) ?_
  clear henv a; intro a henv
  refine sAny_takeg (i := 8) [9, 10, 11] (fun w' => w'.heap[g16]? = some (.cells #[.bool (neg x), .slice A10 (dl x) c11] 30 (0, 0))) (v := .agg #[.bool (neg x), .slice A10 (dl x) c11]) rfl (by kernel_rfl) (fun _ _ _ h => h) (fun _ _ _ hS => hS.1.oat (k := 0) rfl) henv rfl rfl rfl rfl (hst.oat (k := 0) rfl) (fun w' hg => rn_load0 henv ty_anvil_anvilref02_Int rfl hg rfl) ?_
  clear henv a; intro a henv
  refine sAny_oneg (i := 7) (by kernel_rfl) rfl rfl henv rfl rfl rfl (op_call henv rfl Tryd.call22 rfl (bits_z (z := x) (show ZIn _ A7 c8 x from hst.pat (k := 1) rfl) (by omega)) ?_)
  rintro e w23 ⟨rfl, hb⟩
  refine ⟨_, rfl, ?_⟩
  clear henv a; intro a henv
  replace hst := hst.call hb
  clear hb
  refine ⟨.inr ⟨hst.kn.pick [0, 1, 2, 3] [0, 1, 2, 3, 4], .inr (hst.kn.pick [] [])⟩, ?_⟩
  refine sAny_oneg (i := 9) (by kernel_rfl) rfl rfl henv rfl rfl rfl (op_call henv rfl Tryd.call23 rfl (bits_r (z := x) (show RIn _ A10 c11 x from hst.pat (k := 0) rfl) (by omega)) ?_)
  rintro e w24 ⟨rfl, hb⟩
  refine ⟨_, rfl, ?_⟩
  clear henv a; intro a henv
  replace hst := hst.call hb
  clear hb
  refine ⟨.inr ⟨hst.kn.pick [0, 1, 2, 3] [0, 1, 2, 3, 4], .inr (hst.kn.pick [] [])⟩, ?_⟩
  refine sAny_takeg (i := 10) [11] (fun _ => True) (v := .bool (((blen x.natAbs : Nat) : Int) != ((blen x.natAbs : Nat) : Int))) rfl (by kernel_rfl) (fun _ _ _ h => h) (fun _ _ _ _ => trivial) henv rfl rfl rfl rfl trivial (fun w' _ => rn_bin henv rfl rfl rfl) ?_
  clear henv a; intro a henv
  rw [show (((blen x.natAbs : Nat) : Int) != ((blen x.natAbs : Nat) : Int)) = false from (by simp)] at henv
  refine sAny_take (i := 11) [] (fun _ => True) (v := .bool false) rfl (by kernel_rfl) (fun _ _ _ h => h) (fun _ _ _ _ => trivial) henv rfl trivial (fun w' _ => rn_pick henv rfl rfl) ?_
  clear henv a; intro a henv
  refine sAny_done (by kernel_rfl) ?_ _
  refine th_n ?_
  refine if_f henv rfl (rfl) ?_
  refine wp_skip ?_
  refine th_n ?_
  refine wp_seq ?_
  refine region_seq ?_
  refine seq_step rfl (op_val (v := .agg #[.bool (neg x), .slice A7 (zl x) c8]) henv rfl (rn_load0 henv ty_anvil_integer_Int rfl (hst.oat (k := 1) rfl) rfl) ?_)
  clear henv a; intro a henv
  refine seq_step rfl (op_val (v := .int .i64 i) henv rfl (rn_move henv rfl) ?_)
  clear henv a; intro a henv
  refine seq_step rfl (op_call henv rfl Tryd.call24 rfl (zshl_far (i := i) (show ZIn _ A7 c8 x from hst.pat (k := 1) rfl) hi) ?_)
  rintro e w25 ⟨rfl, hb⟩
  refine ⟨_, rfl, ?_⟩
  clear henv a; intro a henv
  replace hst := hst.call hb
  clear hb
  refine seq_step rfl (op_val (v := .tuple #[.agg #[.bool (neg 0), .slice none (zl 0) 0], .int .i64 3]) henv rfl (rn_move henv rfl) ?_)
  clear henv a; intro a henv
  refine seq_step rfl (op_val (v := .agg #[.bool (neg 0), .slice none (zl 0) 0]) henv rfl (rn_extract henv rfl rfl) ?_)
  clear henv a; intro a henv
  refine seq_step rfl (op_val (v := .int .i64 3) henv rfl (rn_extract henv rfl rfl) ?_)
  clear henv a; intro a henv
  refine seq_step rfl (op_alloc (c := #[.bool (neg 0), .slice none (zl 0) 0]) henv hst rfl zero_anvil_integer_Int zcells ?_)
  clear henv hst a; intro a w27 g26 henv hst
  refine seq_step rfl (op_store (k := 0) (c' := #[.bool (neg 0), .slice none (zl 0) 0]) henv hst (ty_anvil_integer_Int.size) rfl rfl rfl rfl (by simp) rfl rfl ?_)
  clear henv hst a; intro a w28 henv hst
  refine seq_step rfl (op_val (v := .int .i64 3) henv rfl (rn_assign henv rfl) ?_)
  clear henv a; intro a henv
  refine wpList_nil ?_
  refine th_n ?_
  refine wp_seq ?_
  refine region_seq ?_
  refine seq_step rfl (op_val (v := .agg #[.bool (neg x), .slice A7 (zl x) c8]) henv rfl (rn_load0 henv ty_anvil_integer_Int rfl (hst.oat (k := 2) rfl) rfl) ?_)
  clear henv a; intro a henv
  refine seq_step rfl (op_val (v := .int .i64 i) henv rfl (rn_move henv rfl) ?_)
  clear henv a; intro a henv
  refine seq_step rfl (op_call henv rfl Tryd.call25 rfl (zshr_no (x := x) (i := i) (show ZIn _ A7 c8 x from hst.pat (k := 1) rfl) (by omega) (by omega) hx0 hfar (show Deb _ from hst.pat (k := 3) rfl)) ?_)
  rintro e w29 ⟨rfl, hb⟩
  refine ⟨_, rfl, ?_⟩
  clear henv a; intro a henv
  replace hst := hst.call hb
  clear hb
  refine seq_step rfl (op_val (v := .tuple #[.agg #[.bool (neg 0), .slice none (zl 0) 0], .int .i64 20]) henv rfl (rn_move henv rfl) ?_)
  clear henv a; intro a henv
  refine seq_step rfl (op_val (v := .agg #[.bool (neg 0), .slice none (zl 0) 0]) henv rfl (rn_extract henv rfl rfl) ?_)
  clear henv a; intro a henv
  refine seq_step rfl (op_val (v := .int .i64 20) henv rfl (rn_extract henv rfl rfl) ?_)
  clear henv a; intro a henv
  refine seq_step rfl (op_alloc (c := #[.bool (neg 0), .slice none (zl 0) 0]) henv hst rfl zero_anvil_integer_Int zcells ?_)
  clear henv hst a; intro a w31 g30 henv hst
  refine seq_step rfl (op_store (k := 0) (c' := #[.bool (neg 0), .slice none (zl 0) 0]) henv hst (ty_anvil_integer_Int.size) rfl rfl rfl rfl (by simp) rfl rfl ?_)
  clear henv hst a; intro a w32 henv hst
  refine seq_step rfl (op_val (v := .int .i64 20) henv rfl (rn_assign henv rfl) ?_)
  clear henv a; intro a henv
  refine wpList_nil ?_
  refine th_n ?_
  refine wp_seq ?_
  refine wp_seq ?_
  refine region_seq ?_
  refine seq_step rfl (op_val (v := .int .i64 i) henv rfl (rn_move henv rfl) ?_)
  clear henv a; intro a henv
  refine seq_step rfl (op_val (v := .bool (decide (i < (0 : Int)))) henv rfl (rn_bin henv rfl rfl rfl) ?_)
  clear henv a; intro a henv
  rw [show (decide (i < (0 : Int))) = false from (decide_eq_false (by omega))] at henv
  refine wpList_nil ?_
  refine th_n ?_
  refine if_f henv rfl (rfl) ?_
  refine wp_skip ?_
  refine th_n ?_
  refine wp_seq ?_
  refine wp_seq ?_
  refine region_seq ?_
  refine seq_step rfl (op_val (v := .int .i64 i) henv rfl (rn_move henv rfl) ?_)
  clear henv a; intro a henv
  refine seq_step rfl (op_val (v := .bool (decide (i > (65536 : Int)))) henv rfl (rn_bin henv rfl rfl rfl) ?_)
  clear henv a; intro a henv
  rw [show (decide (i > (65536 : Int))) = true from (decide_eq_true (by omega))] at henv
  refine wpList_nil ?_
  refine th_n ?_
  refine if_t henv rfl (rfl) ?_
  refine wp_seq ?_
  refine region_seq ?_
  refine seq_step rfl (op_val (v := .agg #[.bool (neg 0), .slice none (zl 0) 0]) henv rfl (rn_load0 henv ty_anvil_integer_Int rfl (hst.oat (k := 1) rfl) rfl) ?_)
  clear henv a; intro a henv
  refine seq_step rfl (op_call henv rfl Tryd.call26 rfl (zero_z (show ZIn _ none 0 0 from hst.pat (k := 4) rfl)) ?_)
  rintro e w33 ⟨rfl, hb⟩
  refine ⟨_, rfl, ?_⟩
  clear henv a; intro a henv
  replace hst := hst.call hb
  clear hb
  refine seq_step rfl (op_val (v := .bool true) henv rfl (rn_move henv rfl) ?_)
  clear henv a; intro a henv
  refine seq_g rfl henv rfl rfl (op_val (v := .int .i64 3) henv rfl (rn_move henv rfl) ?_)
  clear henv a; intro a henv
  refine seq_g rfl henv rfl rfl (op_val (v := .bool true) henv rfl (rn_bin henv rfl rfl rfl) ?_)
  clear henv a; intro a henv
  refine seq_step rfl (op_val (v := .bool true) henv rfl (rn_pick henv rfl rfl) ?_)
  clear henv a; intro a henv
  refine seq_step rfl (op_val (v := .bool true) henv rfl (rn_move henv rfl) ?_)
  clear henv a; intro a henv
  refine seq_g rfl henv rfl rfl (op_val (v := .agg #[.bool (neg 0), .slice none (zl 0) 0]) henv rfl (rn_load0 henv ty_anvil_integer_Int rfl (hst.oat (k := 0) rfl) rfl) ?_)
  clear henv a; intro a henv
  refine seq_g rfl henv rfl rfl (op_call henv rfl Tryd.call26 rfl (zero_z (show ZIn _ none 0 0 from hst.pat (k := 4) rfl)) ?_)
  rintro e w34 ⟨rfl, hb⟩
  refine ⟨_, rfl, ?_⟩
  clear henv a; intro a henv
  replace hst := hst.call hb
  clear hb
  refine seq_step rfl (op_val (v := .bool true) henv rfl (rn_pick henv rfl rfl) ?_)
  clear henv a; intro a henv
  refine seq_step rfl (op_val (v := .bool true) henv rfl (rn_assign henv rfl) ?_)
  clear henv a; intro a henv
  refine wpList_nil ?_
  refine th_n ?_
  refine wp_seq ?_
  refine region_seq ?_
  refine seq_step rfl (op_val (v := .bool true) henv rfl (rn_move henv rfl) ?_)
  clear henv a; intro a henv
  refine seq_step rfl (op_val (v := .bool true) henv rfl (rn_move henv rfl) ?_)
  clear henv a; intro a henv
  refine seq_g rfl henv rfl rfl (op_val (v := .agg #[.bool (neg x), .slice A10 (dl x) c11]) henv rfl (rn_load0 henv ty_anvil_anvilref02_Int rfl (hst.oat (k := 2) rfl) rfl) ?_)
  clear henv a; intro a henv
  refine seq_g rfl henv rfl rfl (op_call henv rfl Tryd.call27 rfl (sign_r (z := x)) ?_)
  rintro e w35 ⟨rfl, hb⟩
  refine ⟨_, rfl, ?_⟩
  clear henv a; intro a henv
  replace hst := hst.call hb
  clear hb
  refine seq_g rfl henv rfl rfl (op_val (v := .bool (x.sign == (0 : Int))) henv rfl (rn_bin henv rfl rfl rfl) ?_)
  clear henv a; intro a henv
  rw [show (x.sign == (0 : Int)) = false from (by simpa using hx0)] at henv
  refine seq_g rfl henv rfl rfl (op_val (v := .bool false) henv rfl (rn_move henv rfl) ?_)
  clear henv a; intro a henv
  refine seq_skip rfl henv rfl rfl rfl rfl ?_
  clear henv a; intro a henv
  refine seq_skip rfl henv rfl rfl rfl rfl ?_
  clear henv a; intro a henv
  refine seq_g rfl henv rfl rfl (op_val (v := .bool false) henv rfl (rn_pick henv rfl rfl) ?_)
  clear henv a; intro a henv
  refine seq_g rfl henv rfl rfl (op_val (v := .bool false) henv rfl (rn_move henv rfl) ?_)
  clear henv a; intro a henv
  refine seq_g rfl henv rfl rfl (op_val (v := .agg #[.bool (neg x), .slice A10 (dl x) c11]) henv rfl (rn_load0 henv ty_anvil_anvilref02_Int rfl (hst.oat (k := 2) rfl) rfl) ?_)
  clear henv a; intro a henv
  refine seq_g rfl henv rfl rfl (op_call henv rfl Tryd.call27 rfl (sign_r (z := x)) ?_)
  rintro e w36 ⟨rfl, hb⟩
  refine ⟨_, rfl, ?_⟩
  clear henv a; intro a henv
  replace hst := hst.call hb
  clear hb
  refine seq_g rfl henv rfl rfl (op_val (v := .bool (x.sign != (0 : Int))) henv rfl (rn_bin henv rfl rfl rfl) ?_)
  clear henv a; intro a henv
  rw [show (x.sign != (0 : Int)) = true from (by simpa using hx0)] at henv
  refine seq_g rfl henv rfl rfl (op_val (v := .bool true) henv rfl (rn_move henv rfl) ?_)
  clear henv a; intro a henv
  refine seq_g rfl henv rfl rfl (op_val (v := .int .i64 20) henv rfl (rn_move henv rfl) ?_)
  clear henv a; intro a henv
  refine seq_g rfl henv rfl rfl (op_val (v := .bool true) henv rfl (rn_bin henv rfl rfl rfl) ?_)
  clear henv a; intro a henv
  refine seq_g rfl henv rfl rfl (op_val (v := .bool true) henv rfl (rn_pick henv rfl rfl) ?_)
  clear henv a; intro a henv
  refine seq_g rfl henv rfl rfl (op_val (v := .bool true) henv rfl (rn_pick henv rfl rfl) ?_)
  clear henv a; intro a henv
  refine seq_step rfl (op_val (v := .bool true) henv rfl (rn_pick henv rfl rfl) ?_)
  clear henv a; intro a henv
  refine seq_step rfl (op_val (v := .bool true) henv rfl (rn_assign henv rfl) ?_)
  clear henv a; intro a henv
  refine wpList_nil ?_
  refine th_n ?_
  refine wp_ret ?_
  refine th_r ?_
  refine leave henv (res1 Tryd.results3 (RV.tmp henv rfl)) ?_
  exact ⟨rfl, hst.below⟩

set_option maxRecDepth 100000 in
set_option maxHeartbeats 4000000 in
theorem law_C0 {b0 : Bool} {A0 : Option Addr} {n0 c0 : Nat} {xs0 : List Nat} {n : Nat} {w0 : World} (h0 : U32 w0 A0 n0 c0 xs0) (hs0 : n0 ≤ 60) (hz0 : sg b0 (val 4294967296 xs0) = 0) (hT : Deb w0) (hi : n ≤ 3000) :
    Calls Tryd.prog 3 #[.agg #[.bool b0, .slice A0 n0 c0], .int .i64 (n : Nat)] w0 fun e w' => e = .returned (.bool true) ∧ Below w0.heap.size w0 w' := by
  have hx60 : zl 0 ≤ 60 := by have := given_bd (b := b0) h0; rw [hz0] at this; omega
  have hdx := dl_zl 0
  have hpd : dl (2 ^ n) ≤ 1000 := dl_pow2 hi
  have hsh : zl (0 * 2 ^ n) ≤ 1000000 := zl_shl2 hx60 hi
  have hdsh : dl (0 * 2 ^ n) ≤ 1000000 := by have := dl_mul 0 (2 ^ n); omega
  have pow_ne : (2 : Int) ^ n ≠ 0 := by have := pow_pos2 n; omega
  have hmod : (0 : Int) % 2 ^ n = 0 := by simp
  refine enter Tryd.func3 rfl Tryd.ntmps3 rfl ?_
  intro a henv hst
  replace hst := (hst.addZ (zin_none _) rfl).addT hT hT
  replace hst := hst.addU h0 rfl
  have hL0 := Nat.le_trans h0.cap h0.big
  clear h0
  refine wp_seq ?_
  refine region_seq ?_
  refine seq_step rfl (op_box (c := #[.bool b0, .slice A0 n0 c0]) henv hst rfl rfl rfl ?_)
  clear henv hst a; intro a w2 g1 henv hst
  refine seq_step rfl (op_val (v := .bool false) henv rfl (rn_assign henv rfl) ?_)
  clear henv a; intro a henv
  refine wpList_nil ?_
  refine th_n ?_
  refine wp_seq ?_
  refine wp_seq ?_
  refine region_seq ?_
  refine seq_step rfl (op_call henv rfl Tryd.call17 rfl (live_true _) ?_)
  rintro e w3 ⟨rfl, hb⟩
  refine ⟨_, rfl, ?_⟩
  clear henv a; intro a henv
  replace hst := hst.call hb
  clear hb
  refine seq_step rfl (op_val (v := .bool false) henv rfl (rn_un henv rfl rfl) ?_)
  clear henv a; intro a henv
  refine wpList_nil ?_
  refine th_n ?_
  refine if_f henv rfl (rfl) ?_
  refine wp_skip ?_
  refine th_n ?_
  refine wp_seq ?_
  refine wp_seq ?_
  refine region_seq ?_
  refine seq_step rfl (op_val (v := .agg #[.bool b0, .slice A0 n0 c0]) henv rfl (rn_load0 henv ty_anvil_anvillaw02_Num rfl (hst.oat (k := 0) rfl) rfl) ?_)
  clear henv a; intro a henv
  refine seq_step rfl (op_buildSlice (z := 2) (pv := #[(0, .agg #[.bool b0, .slice A0 n0 c0])]) (c := #[.bool b0, .slice A0 n0 c0]) henv hst rfl Tryd.underlying95 (ty_anvil_anvillaw02_Num.size) zero_anvil_anvillaw02_Num (by decide) (by decide) rfl (by kernel_rfl) ?_)
  clear henv hst a; intro a w5 g4 henv hst
  refine seq_step rfl (op_call henv rfl Tryd.call18 rfl (long_own1 (hst.oat (k := 0) rfl) hL0 false (by simp; omega)) ?_)
  rintro e w6 ⟨rfl, hb⟩
  refine ⟨_, rfl, ?_⟩
  clear henv a; intro a henv
  replace hst := hst.call hb
  clear hb
  refine seq_step rfl (op_val (v := .bool false) henv rfl (rn_move henv rfl) ?_)
  clear henv a; intro a henv
  refine seq_g rfl henv rfl rfl (op_val (v := .int .i64 (n : Nat)) henv rfl (rn_move henv rfl) ?_)
  clear henv a; intro a henv
  refine seq_g rfl henv rfl rfl (op_val (v := .bool (decide (((n : Nat) : Int) > (3000 : Int)))) henv rfl (rn_bin henv rfl rfl rfl) ?_)
  clear henv a; intro a henv
  rw [show (decide (((n : Nat) : Int) > (3000 : Int))) = false from (decide_eq_false (by omega))] at henv
  refine seq_g rfl henv rfl rfl (op_val (v := .bool false) henv rfl (rn_move henv rfl) ?_)
  clear henv a; intro a henv
  refine seq_skip rfl henv rfl rfl rfl rfl ?_
  clear henv a; intro a henv
  refine seq_skip rfl henv rfl rfl rfl rfl ?_
  clear henv a; intro a henv
  refine seq_g rfl henv rfl rfl (op_val (v := .bool false) henv rfl (rn_pick henv rfl rfl) ?_)
  clear henv a; intro a henv
  refine seq_step rfl (op_val (v := .bool false) henv rfl (rn_pick henv rfl rfl) ?_)
  clear henv a; intro a henv
  refine wpList_nil ?_
  refine th_n ?_
  refine if_f henv rfl (rfl) ?_
  refine wp_skip ?_
  refine th_n ?_
  refine wp_seq ?_
  refine region_seq ?_
  refine seq_step rfl (op_val (v := .agg #[.bool b0, .slice A0 n0 c0]) henv rfl (rn_load0 henv ty_anvil_anvillaw02_Num rfl (hst.oat (k := 1) rfl) rfl) ?_)
  clear henv a; intro a henv
  refine seq_step rfl (op_call henv rfl Tryd.call19 rfl (of_given (z := 0) (show U32 _ A0 n0 c0 xs0 from hst.pat (k := 0) rfl) hs0 hz0) ?_)
  rintro e w13 ⟨_, _, rfl, ⟨A7, c8, rfl, hz9⟩, ⟨A10, c11, rfl, hz12⟩, hb⟩
  refine ⟨_, rfl, ?_⟩
  clear henv a; intro a henv
  replace hst := ((hst.call hb).addZ hz9 rfl).addR hz12 rfl
  clear hz9 hz12
  clear hb
  refine seq_step rfl (op_val (v := .tuple #[.agg #[.bool (neg 0), .slice A7 (zl 0) c8], .agg #[.bool (neg 0), .slice A10 (dl 0) c11]]) henv rfl (rn_move henv rfl) ?_)
  clear henv a; intro a henv
  refine seq_step rfl (op_val (v := .agg #[.bool (neg 0), .slice A7 (zl 0) c8]) henv rfl (rn_extract henv rfl rfl) ?_)
  clear henv a; intro a henv
  refine seq_step rfl (op_val (v := .agg #[.bool (neg 0), .slice A10 (dl 0) c11]) henv rfl (rn_extract henv rfl rfl) ?_)
  clear henv a; intro a henv
  refine seq_step rfl (op_alloc (c := #[.bool (neg 0), .slice none (zl 0) 0]) henv hst rfl zero_anvil_integer_Int zcells ?_)
  clear henv hst a; intro a w15 g14 henv hst
  refine seq_step rfl (op_alloc (c := #[.bool (neg 0), .slice none (dl 0) 0]) henv hst rfl zero_anvil_anvilref02_Int rcells ?_)
  clear henv hst a; intro a w17 g16 henv hst
  refine seq_step rfl (op_store (k := 1) (c' := #[.bool (neg 0), .slice A7 (zl 0) c8]) henv hst (ty_anvil_integer_Int.size) rfl rfl rfl rfl (by simp) rfl rfl ?_)
  clear henv hst a; intro a w18 henv hst
  refine seq_step rfl (op_store (k := 0) (c' := #[.bool (neg 0), .slice A10 (dl 0) c11]) henv hst (ty_anvil_anvilref02_Int.size) rfl rfl rfl rfl (by simp) rfl rfl ?_)
  clear henv hst a; intro a w19 henv hst
  refine wpList_nil ?_
  refine th_n ?_
  refine wp_seq ?_
  refine wp_seq ?_
  refine region_any (n := 12) (Sk [⟨g16, #[.bool (neg 0), .slice A10 (dl 0) c11], 30⟩, ⟨g14, #[.bool (neg 0), .slice A7 (zl 0) c8], 28⟩, ⟨g4, #[.bool b0, .slice A0 n0 c0], 24⟩, ⟨g1, #[.bool b0, .slice A0 n0 c0], 24⟩] [pfR A10 c11 0, pfZ A7 c8 0, pfU A0 n0 c0 xs0, pfT, pfZ none 0 0] [] []) mixed rfl henv hst ?_
  clear henv hst; intro w20 henv hst
  refine sAny_take (i := 0) [1, 3, 4, 5, 6, 7, 8, 9, 10, 11] (fun w' => w'.heap[g14]? = some (.cells #[.bool (neg 0), .slice A7 (zl 0) c8] 28 (0, 0))) (v := .agg #[.bool (neg 0), .slice A7 (zl 0) c8]) rfl (by kernel_rfl) (fun _ _ _ h => h) (fun _ _ _ hS => hS.1.oat (k := 1) rfl) henv rfl (hst.oat (k := 1) rfl) (fun w' hg => rn_load0 henv ty_anvil_integer_Int rfl hg rfl) ?_
  clear henv a; intro a henv
  refine sAny_take (i := 2) [3, 4, 5, 6, 7, 8, 9, 10, 11] (fun w' => w'.heap[g16]? = some (.cells #[.bool (neg 0), .slice A10 (dl 0) c11] 30 (0, 0))) (v := .agg #[.bool (neg 0), .slice A10 (dl 0) c11]) rfl (by kernel_rfl) (fun _ _ _ h => h) (fun _ _ _ hS => hS.1.oat (k := 0) rfl) henv rfl (hst.oat (k := 0) rfl) (fun w' hg => rn_load0 henv ty_anvil_anvilref02_Int rfl hg rfl) ?_
  clear henv a; intro a henv
  refine sAny_one (i := 1) (by kernel_rfl) rfl rfl (op_call henv rfl Tryd.call20 rfl (twos_z0 (show ZIn _ A7 c8 0 from hst.pat (k := 1) rfl) (show Deb _ from hst.pat (k := 3) rfl)) ?_)
  rintro e w21 ⟨rfl, hb⟩
  refine ⟨_, rfl, ?_⟩
  clear henv a; intro a henv
  replace hst := hst.call hb
  clear hb
  refine ⟨.inr ⟨hst.kn.pick [0, 1, 2, 3] [0, 1, 2, 3, 4], .inr (hst.kn.pick [] [])⟩, ?_⟩
  refine sAny_one (i := 3) (by kernel_rfl) rfl rfl (op_call henv rfl Tryd.call21 rfl (twos_r0 (show RIn _ A10 c11 0 from hst.pat (k := 0) rfl)) ?_)
  rintro e w22 ⟨rfl, hb⟩
  refine ⟨_, rfl, ?_⟩
  clear henv a; intro a henv
  replace hst := hst.call hb
  clear hb
  refine ⟨.inr ⟨hst.kn.pick [0, 1, 2, 3] [0, 1, 2, 3, 4], .inr (hst.kn.pick [] [])⟩, ?_⟩
  refine sAny_take (i := 4) [5, 6, 7, 8, 9, 10, 11] (fun _ => True) (v := .bool false) rfl (by kernel_rfl) (fun _ _ _ h => h) (fun _ _ _ _ => trivial) henv rfl trivial (fun w' _ => rn_bin henv rfl rfl rfl) ?_
  clear henv a; intro a henv
  refine sAny_take (i := 5) [6, 7, 8, 9, 10, 11] (fun _ => True) (v := .bool false) rfl (by kernel_rfl) (fun _ _ _ h => h) (fun _ _ _ _ => trivial) henv rfl trivial (fun w' _ => rn_move henv rfl) ?_
  clear henv a; intro a henv
  refine sAny_takeg (i := 6) [7, 9, 10, 11] (fun w' => w'.heap[g14]? = some (.cells #[.bool (neg 0), .slice A7 (zl 0) c8] 28 (0, 0))) (v := .agg #[.bool (neg 0), .slice A7 (zl 0) c8]) rfl (by kernel_rfl) (fun _ _ _ h => h) (fun _ _ _ hS => hS.1.oat (k := 1) rfl) henv rfl rfl rfl rfl (hst.oat (k := 1) rfl) (fun w' hg => rn_load0 henv ty_anvil_integer_Int rfl hg rfl) ?_
  clear henv a; intro a henv
  refine sAny_takeg (i := 8) [9, 10, 11] (fun w' => w'.heap[g16]? = some (.cells #[.bool (neg 0), .slice A10 (dl 0) c11] 30 (0, 0))) (v := .agg #[.bool (neg 0), .slice A10 (dl 0) c11]) rfl (by kernel_rfl) (fun _ _ _ h => h) (fun _ _ _ hS => hS.1.oat (k := 0) rfl) henv rfl rfl rfl rfl (hst.oat (k := 0) rfl) (fun w' hg => rn_load0 henv ty_anvil_anvilref02_Int rfl hg rfl) ?_
  clear henv a; intro a henv
  refine sAny_oneg (i := 7) (by kernel_rfl) rfl rfl henv rfl rfl rfl (op_call henv rfl Tryd.call22 rfl (bits_z (z := 0) (show ZIn _ A7 c8 0 from hst.pat (k := 1) rfl) (by omega)) ?_)
  rintro e w23 ⟨rfl, hb⟩
  refine ⟨_, rfl, ?_⟩
  clear henv a; intro a henv
  replace hst := hst.call hb
  clear hb
  refine ⟨.inr ⟨hst.kn.pick [0, 1, 2, 3] [0, 1, 2, 3, 4], .inr (hst.kn.pick [] [])⟩, ?_⟩
  refine sAny_oneg (i := 9) (by kernel_rfl) rfl rfl henv rfl rfl rfl (op_call henv rfl Tryd.call23 rfl (bits_r (z := 0) (show RIn _ A10 c11 0 from hst.pat (k := 0) rfl) (by omega)) ?_)
  rintro e w24 ⟨rfl, hb⟩
  refine ⟨_, rfl, ?_⟩
  clear henv a; intro a henv
  replace hst := hst.call hb
  clear hb
  refine ⟨.inr ⟨hst.kn.pick [0, 1, 2, 3] [0, 1, 2, 3, 4], .inr (hst.kn.pick [] [])⟩, ?_⟩
  refine sAny_takeg (i := 10) [11] (fun _ => True) (v := .bool (((blen (0 : Int).natAbs : Nat) : Int) != ((blen (0 : Int).natAbs : Nat) : Int))) rfl (by kernel_rfl) (fun _ _ _ h => h) (fun _ _ _ _ => trivial) henv rfl rfl rfl rfl trivial (fun w' _ => rn_bin henv rfl rfl rfl) ?_
  clear henv a; intro a henv
  rw [show (((blen (0 : Int).natAbs : Nat) : Int) != ((blen (0 : Int).natAbs : Nat) : Int)) = false from (by simp)] at henv
  refine sAny_take (i := 11) [] (fun _ => True) (v := .bool false) rfl (by kernel_rfl) (fun _ _ _ h => h) (fun _ _ _ _ => trivial) henv rfl trivial (fun w' _ => rn_pick henv rfl rfl) ?_
  clear henv a; intro a henv
  refine sAny_done (by kernel_rfl) ?_ _
  refine th_n ?_
  refine if_f henv rfl (rfl) ?_
  refine wp_skip ?_
  refine th_n ?_
  refine wp_seq ?_
  refine region_seq ?_
  refine seq_step rfl (op_val (v := .agg #[.bool (neg 0), .slice A7 (zl 0) c8]) henv rfl (rn_load0 henv ty_anvil_integer_Int rfl (hst.oat (k := 1) rfl) rfl) ?_)
  clear henv a; intro a henv
  refine seq_step rfl (op_val (v := .int .i64 (n : Nat)) henv rfl (rn_move henv rfl) ?_)
  clear henv a; intro a henv
  refine seq_step rfl (op_call henv rfl Tryd.call24 rfl (zshl_ok (x := 0) (n := n) (show ZIn _ A7 c8 0 from hst.pat (k := 1) rfl) (by omega) (by omega)) ?_)
  rintro e w28 ⟨_, rfl, ⟨A25, c26, rfl, hz27⟩, hb⟩
  refine ⟨_, rfl, ?_⟩
  clear henv a; intro a henv
  replace hst := (hst.call hb).addZ hz27 rfl
  clear hz27
  clear hb
  refine seq_step rfl (op_val (v := .tuple #[.agg #[.bool (neg (0 * 2 ^ n)), .slice A25 (zl (0 * 2 ^ n)) c26], .int .i64 0]) henv rfl (rn_move henv rfl) ?_)
  clear henv a; intro a henv
  refine seq_step rfl (op_val (v := .agg #[.bool (neg (0 * 2 ^ n)), .slice A25 (zl (0 * 2 ^ n)) c26]) henv rfl (rn_extract henv rfl rfl) ?_)
  clear henv a; intro a henv
  refine seq_step rfl (op_val (v := .int .i64 0) henv rfl (rn_extract henv rfl rfl) ?_)
  clear henv a; intro a henv
  refine seq_step rfl (op_alloc (c := #[.bool (neg 0), .slice none (zl 0) 0]) henv hst rfl zero_anvil_integer_Int zcells ?_)
  clear henv hst a; intro a w30 g29 henv hst
  refine seq_step rfl (op_store (k := 0) (c' := #[.bool (neg (0 * 2 ^ n)), .slice A25 (zl (0 * 2 ^ n)) c26]) henv hst (ty_anvil_integer_Int.size) rfl rfl rfl rfl (by simp) rfl rfl ?_)
  clear henv hst a; intro a w31 henv hst
  refine seq_step rfl (op_val (v := .int .i64 0) henv rfl (rn_assign henv rfl) ?_)
  clear henv a; intro a henv
  refine wpList_nil ?_
  rw [Int.zero_mul] at henv hst
  refine th_n ?_
  refine wp_seq ?_
  refine region_seq ?_
  refine seq_step rfl (op_val (v := .agg #[.bool (neg 0), .slice A7 (zl 0) c8]) henv rfl (rn_load0 henv ty_anvil_integer_Int rfl (hst.oat (k := 2) rfl) rfl) ?_)
  clear henv a; intro a henv
  refine seq_step rfl (op_val (v := .int .i64 (n : Nat)) henv rfl (rn_move henv rfl) ?_)
  clear henv a; intro a henv
  refine seq_step rfl (op_call henv rfl Tryd.call25 rfl (zshr_zero (i := (n : Nat)) (show ZIn _ A7 c8 0 from hst.pat (k := 2) rfl) (by omega)) ?_)
  rintro e w32 ⟨rfl, hb⟩
  refine ⟨_, rfl, ?_⟩
  clear henv a; intro a henv
  replace hst := hst.call hb
  clear hb
  refine seq_step rfl (op_val (v := .tuple #[.agg #[.bool (neg 0), .slice none (zl 0) 0], .int .i64 0]) henv rfl (rn_move henv rfl) ?_)
  clear henv a; intro a henv
  refine seq_step rfl (op_val (v := .agg #[.bool (neg 0), .slice none (zl 0) 0]) henv rfl (rn_extract henv rfl rfl) ?_)
  clear henv a; intro a henv
  refine seq_step rfl (op_val (v := .int .i64 0) henv rfl (rn_extract henv rfl rfl) ?_)
  clear henv a; intro a henv
  refine seq_step rfl (op_alloc (c := #[.bool (neg 0), .slice none (zl 0) 0]) henv hst rfl zero_anvil_integer_Int zcells ?_)
  clear henv hst a; intro a w34 g33 henv hst
  refine seq_step rfl (op_store (k := 0) (c' := #[.bool (neg 0), .slice none (zl 0) 0]) henv hst (ty_anvil_integer_Int.size) rfl rfl rfl rfl (by simp) rfl rfl ?_)
  clear henv hst a; intro a w35 henv hst
  refine seq_step rfl (op_val (v := .int .i64 0) henv rfl (rn_assign henv rfl) ?_)
  clear henv a; intro a henv
  refine wpList_nil ?_
  refine th_n ?_
  refine wp_seq ?_
  refine wp_seq ?_
  refine region_seq ?_
  refine seq_step rfl (op_val (v := .int .i64 (n : Nat)) henv rfl (rn_move henv rfl) ?_)
  clear henv a; intro a henv
  refine seq_step rfl (op_val (v := .bool (decide (((n : Nat) : Int) < (0 : Int)))) henv rfl (rn_bin henv rfl rfl rfl) ?_)
  clear henv a; intro a henv
  rw [show (decide (((n : Nat) : Int) < (0 : Int))) = false from (decide_eq_false (by omega))] at henv
  refine wpList_nil ?_
  refine th_n ?_
  refine if_f henv rfl (rfl) ?_
  refine wp_skip ?_
  refine th_n ?_
  refine wp_seq ?_
  refine wp_seq ?_
  refine region_seq ?_
  refine seq_step rfl (op_val (v := .int .i64 (n : Nat)) henv rfl (rn_move henv rfl) ?_)
  clear henv a; intro a henv
  refine seq_step rfl (op_val (v := .bool (decide (((n : Nat) : Int) > (65536 : Int)))) henv rfl (rn_bin henv rfl rfl rfl) ?_)
  clear henv a; intro a henv
  rw [show (decide (((n : Nat) : Int) > (65536 : Int))) = false from (decide_eq_false (by omega))] at henv
  refine wpList_nil ?_
  refine th_n ?_
  refine if_f henv rfl (rfl) ?_
  refine wp_skip ?_
  refine th_n ?_
  refine wp_seq ?_
  refine wp_seq ?_
  refine region_any (n := 11) (Sk [⟨g33, #[.bool (neg 0), .slice none (zl 0) 0], 28⟩, ⟨g29, #[.bool (neg 0), .slice A25 (zl 0) c26], 28⟩, ⟨g16, #[.bool (neg 0), .slice A10 (dl 0) c11], 30⟩, ⟨g14, #[.bool (neg 0), .slice A7 (zl 0) c8], 28⟩, ⟨g4, #[.bool b0, .slice A0 n0 c0], 24⟩, ⟨g1, #[.bool b0, .slice A0 n0 c0], 24⟩] [pfZ A25 c26 0, pfR A10 c11 0, pfZ A7 c8 0, pfU A0 n0 c0 xs0, pfT, pfZ none 0 0] [] []) mixed rfl henv hst ?_
  clear henv hst; intro w36 henv hst
  refine sAny_take (i := 0) [1, 2, 3, 4, 5, 6, 7, 8, 9, 10] (fun _ => True) (v := .int .i64 0) rfl (by kernel_rfl) (fun _ _ _ h => h) (fun _ _ _ _ => trivial) henv rfl trivial (fun w' _ => rn_move henv rfl) ?_
  clear henv a; intro a henv
  refine sAny_take (i := 1) [2, 3, 4, 5, 6, 7, 8, 9, 10] (fun _ => True) (v := .bool false) rfl (by kernel_rfl) (fun _ _ _ h => h) (fun _ _ _ _ => trivial) henv rfl trivial (fun w' _ => rn_bin henv rfl rfl rfl) ?_
  clear henv a; intro a henv
  refine sAny_take (i := 2) [3, 4, 5, 6, 7, 8, 9, 10] (fun _ => True) (v := .bool false) rfl (by kernel_rfl) (fun _ _ _ h => h) (fun _ _ _ _ => trivial) henv rfl trivial (fun w' _ => rn_move henv rfl) ?_
  clear henv a; intro a henv
  refine sAny_takeg (i := 3) [8, 9, 10] (fun w' => w'.heap[g29]? = some (.cells #[.bool (neg 0), .slice A25 (zl 0) c26] 28 (0, 0))) (v := .agg #[.bool (neg 0), .slice A25 (zl 0) c26]) rfl (by kernel_rfl) (fun _ _ _ h => h) (fun _ _ _ hS => hS.1.oat (k := 1) rfl) henv rfl rfl rfl rfl (hst.oat (k := 1) rfl) (fun w' hg => rn_load0 henv ty_anvil_integer_Int rfl hg rfl) ?_
  clear henv a; intro a henv
  refine sAny_takeg (i := 4) [7, 8, 9, 10] (fun w' => w'.heap[g16]? = some (.cells #[.bool (neg 0), .slice A10 (dl 0) c11] 30 (0, 0))) (v := .agg #[.bool (neg 0), .slice A10 (dl 0) c11]) rfl (by kernel_rfl) (fun _ _ _ h => h) (fun _ _ _ hS => hS.1.oat (k := 2) rfl) henv rfl rfl rfl rfl (hst.oat (k := 2) rfl) (fun w' hg => rn_load0 henv ty_anvil_anvilref02_Int rfl hg rfl) ?_
  clear henv a; intro a henv
  refine sAny_takeg (i := 5) [6, 7, 8, 9, 10] (fun _ => True) (v := .int .i64 (n : Nat)) rfl (by kernel_rfl) (fun _ _ _ h => h) (fun _ _ _ _ => trivial) henv rfl rfl rfl rfl trivial (fun w' _ => rn_move henv rfl) ?_
  clear henv a; intro a henv
  refine sAny_oneg (i := 6) (by kernel_rfl) rfl rfl henv rfl rfl rfl (op_call henv rfl Tryd.call30 rfl (power_r (n := n) (by omega)) ?_)
  rintro e w40 ⟨_, rfl, ⟨A37, c38, rfl, hz39⟩, hb⟩
  refine ⟨_, rfl, ?_⟩
  clear henv a; intro a henv
  replace hst := (hst.call hb).addR hz39 rfl
  clear hz39
  clear hb
  refine ⟨.inr ⟨hst.kn.pick [0, 1, 2, 3, 4, 5] [1, 2, 3, 4, 5, 6], .inr (hst.kn.pick [] [])⟩, ?_⟩
  refine sAny_oneg (i := 7) (by kernel_rfl) rfl rfl henv rfl rfl rfl (op_call henv rfl Tryd.call29 rfl (mul_r (x := 0) (y := 2 ^ n) (show RIn _ A10 c11 0 from hst.pat (k := 2) rfl) (show RIn _ A37 c38 (2 ^ n) from hst.pat (k := 0) rfl) (by omega) (Nat.le_trans hpd (by omega))) ?_)
  rintro e w44 ⟨_, rfl, ⟨A41, c42, rfl, hz43⟩, hb⟩
  refine ⟨_, rfl, ?_⟩
  clear henv a; intro a henv
  replace hst := (hst.call hb).addR hz43 rfl
  clear hz43
  clear hb
  refine ⟨.inr ⟨hst.kn.pick [0, 1, 2, 3, 4, 5] [2, 3, 4, 5, 6, 7], .inr (hst.kn.pick [] [])⟩, ?_⟩
  refine sAny_oneg (i := 8) (by kernel_rfl) rfl rfl henv rfl rfl rfl (op_call henv rfl Tryd.call28 rfl (is_same (z := 0) (y := 0 * (2 ^ n)) (show ZIn _ A25 c26 0 from hst.pat (k := 2) rfl) (show RIn _ A41 c42 (0 * (2 ^ n)) from hst.pat (k := 0) rfl) (by simp) (by omega) (by omega)) ?_)
  rintro e w45 ⟨rfl, hb⟩
  refine ⟨_, rfl, ?_⟩
  clear henv a; intro a henv
  replace hst := hst.call hb
  clear hb
  refine ⟨.inr ⟨hst.kn.pick [0, 1, 2, 3, 4, 5] [2, 3, 4, 5, 6, 7], .inr (hst.kn.pick [] [])⟩, ?_⟩
  refine sAny_takeg (i := 9) [10] (fun _ => True) (v := .bool false) rfl (by kernel_rfl) (fun _ _ _ h => h) (fun _ _ _ _ => trivial) henv rfl rfl rfl rfl trivial (fun w' _ => rn_un henv rfl rfl) ?_
  clear henv a; intro a henv
  refine sAny_take (i := 10) [] (fun _ => True) (v := .bool false) rfl (by kernel_rfl) (fun _ _ _ h => h) (fun _ _ _ _ => trivial) henv rfl trivial (fun w' _ => rn_pick henv rfl rfl) ?_
  clear henv a; intro a henv
  refine sAny_done (by kernel_rfl) ?_ _
  refine th_n ?_
  refine if_f henv rfl (rfl) ?_
  refine wp_skip ?_
  refine th_n ?_
  refine wp_seq ?_
  refine region_seq ?_
  refine seq_step rfl (op_val (v := .agg #[.bool (neg 0), .slice A25 (zl 0) c26]) henv rfl (rn_load0 henv ty_anvil_integer_Int rfl (hst.oat (k := 1) rfl) rfl) ?_)
  clear henv a; intro a henv
  refine seq_step rfl (op_val (v := .int .i64 (n : Nat)) henv rfl (rn_move henv rfl) ?_)
  clear henv a; intro a henv
  refine seq_step rfl (op_call henv rfl Tryd.call25 rfl (zshr_zero (i := (n : Nat)) (show ZIn _ A25 c26 0 from hst.pat (k := 2) rfl) (by omega)) ?_)
  rintro e w46 ⟨rfl, hb⟩
  refine ⟨_, rfl, ?_⟩
  clear henv a; intro a henv
  replace hst := hst.call hb
  clear hb
  refine seq_step rfl (op_val (v := .tuple #[.agg #[.bool (neg 0), .slice none (zl 0) 0], .int .i64 0]) henv rfl (rn_move henv rfl) ?_)
  clear henv a; intro a henv
  refine seq_step rfl (op_val (v := .agg #[.bool (neg 0), .slice none (zl 0) 0]) henv rfl (rn_extract henv rfl rfl) ?_)
  clear henv a; intro a henv
  refine seq_step rfl (op_val (v := .int .i64 0) henv rfl (rn_extract henv rfl rfl) ?_)
  clear henv a; intro a henv
  refine seq_step rfl (op_alloc (c := #[.bool (neg 0), .slice none (zl 0) 0]) henv hst rfl zero_anvil_integer_Int zcells ?_)
  clear henv hst a; intro a w48 g47 henv hst
  refine seq_step rfl (op_store (k := 0) (c' := #[.bool (neg 0), .slice none (zl 0) 0]) henv hst (ty_anvil_integer_Int.size) rfl rfl rfl rfl (by simp) rfl rfl ?_)
  clear henv hst a; intro a w49 henv hst
  refine seq_step rfl (op_val (v := .int .i64 0) henv rfl (rn_assign henv rfl) ?_)
  clear henv a; intro a henv
  refine wpList_nil ?_
  refine th_n ?_
  refine wp_seq ?_
  refine wp_seq ?_
  refine region_seq ?_
  refine seq_step rfl (op_val (v := .int .i64 0) henv rfl (rn_move henv rfl) ?_)
  clear henv a; intro a henv
  refine seq_step rfl (op_val (v := .bool false) henv rfl (rn_bin henv rfl rfl rfl) ?_)
  clear henv a; intro a henv
  refine seq_step rfl (op_val (v := .bool false) henv rfl (rn_move henv rfl) ?_)
  clear henv a; intro a henv
  refine seq_g rfl henv rfl rfl (op_val (v := .agg #[.bool (neg 0), .slice none (zl 0) 0]) henv rfl (rn_load0 henv ty_anvil_integer_Int rfl (hst.oat (k := 0) rfl) rfl) ?_)
  clear henv a; intro a henv
  refine seq_g rfl henv rfl rfl (op_val (v := .agg #[.bool (neg 0), .slice A10 (dl 0) c11]) henv rfl (rn_load0 henv ty_anvil_anvilref02_Int rfl (hst.oat (k := 3) rfl) rfl) ?_)
  clear henv a; intro a henv
  refine seq_g rfl henv rfl rfl (op_call henv rfl Tryd.call28 rfl (is_same (z := 0) (y := 0) (show ZIn _ none 0 0 from hst.pat (k := 7) rfl) (show RIn _ A10 c11 0 from hst.pat (k := 3) rfl) rfl (by omega) (by omega)) ?_)
  rintro e w50 ⟨rfl, hb⟩
  refine ⟨_, rfl, ?_⟩
  clear henv a; intro a henv
  replace hst := hst.call hb
  clear hb
  refine seq_g rfl henv rfl rfl (op_val (v := .bool false) henv rfl (rn_un henv rfl rfl) ?_)
  clear henv a; intro a henv
  refine seq_step rfl (op_val (v := .bool false) henv rfl (rn_pick henv rfl rfl) ?_)
  clear henv a; intro a henv
  refine wpList_nil ?_
  refine th_n ?_
  refine if_f henv rfl (rfl) ?_
  refine wp_skip ?_
  refine th_n ?_
  refine wp_seq ?_
  refine cut (fun a w => ∃ A52 : Option Addr, ∃ c53 : Nat, ∃ A56 : Option Addr, ∃ c57 : Nat, ∃ g60 : Nat, Env 152 a [(0, .agg #[.bool b0, .slice A0 n0 c0]), (1, .int .i64 (n : Nat)), (2, .pointer (some ⟨g1, 0, none⟩)), (4, .bool false), (16, .bool true), (17, .bool false), (18, .agg #[.bool b0, .slice A0 n0 c0]), (19, .slice (some ⟨g4, 0, none⟩) 1 1), (20, .bool false), (21, .bool false), (22, .int .i64 (n : Nat)), (23, .bool false), (24, .bool false), (25, undef), (26, undef), (27, .bool false), (28, .bool false), (30, .agg #[.bool b0, .slice A0 n0 c0]), (31, .tuple #[.agg #[.bool (neg 0), .slice A7 (zl 0) c8], .agg #[.bool (neg 0), .slice A10 (dl 0) c11]]), (29, .tuple #[.agg #[.bool (neg 0), .slice A7 (zl 0) c8], .agg #[.bool (neg 0), .slice A10 (dl 0) c11]]), (32, .agg #[.bool (neg 0), .slice A7 (zl 0) c8]), (33, .agg #[.bool (neg 0), .slice A10 (dl 0) c11]), (5, .pointer (some ⟨g14, 0, none⟩)), (6, .pointer (some ⟨g16, 0, none⟩)), (34, .agg #[.bool (neg 0), .slice A7 (zl 0) c8]), (36, .agg #[.bool (neg 0), .slice A10 (dl 0) c11]), (35, .int .i64 (-1)), (37, .int .i64 (-1)), (38, .bool false), (39, .bool false), (40, .agg #[.bool (neg 0), .slice A7 (zl 0) c8]), (42, .agg #[.bool (neg 0), .slice A10 (dl 0) c11]), (41, .int .i64 (blen (0 : Int).natAbs : Nat)), (43, .int .i64 (blen (0 : Int).natAbs : Nat)), (44, .bool false), (45, .bool false), (47, .agg #[.bool (neg 0), .slice A7 (zl 0) c8]), (48, .int .i64 (n : Nat)), (49, .tuple #[.agg #[.bool (neg 0), .slice A25 (zl 0) c26], .int .i64 0]), (46, .tuple #[.agg #[.bool (neg 0), .slice A25 (zl 0) c26], .int .i64 0]), (50, .agg #[.bool (neg 0), .slice A25 (zl 0) c26]), (51, .int .i64 0), (7, .pointer (some ⟨g29, 0, none⟩)), (8, .int .i64 0), (53, .agg #[.bool (neg 0), .slice A7 (zl 0) c8]), (54, .int .i64 (n : Nat)), (55, .tuple #[.agg #[.bool (neg 0), .slice none (zl 0) 0], .int .i64 0]), (52, .tuple #[.agg #[.bool (neg 0), .slice none (zl 0) 0], .int .i64 0]), (56, .agg #[.bool (neg 0), .slice none (zl 0) 0]), (57, .int .i64 0), (9, .pointer (some ⟨g33, 0, none⟩)), (10, .int .i64 0), (58, .int .i64 (n : Nat)), (59, .bool false), (74, .int .i64 (n : Nat)), (75, .bool false), (105, .int .i64 0), (106, .bool false), (107, .bool false), (108, .agg #[.bool (neg 0), .slice A25 (zl 0) c26]), (109, .agg #[.bool (neg 0), .slice A10 (dl 0) c11]), (110, .int .i64 (n : Nat)), (111, .agg #[.bool (neg (2 ^ n)), .slice A37 (dl (2 ^ n)) c38]), (112, .agg #[.bool (neg (0 * (2 ^ n))), .slice A41 (dl (0 * (2 ^ n))) c42]), (113, .bool true), (114, .bool false), (115, .bool false), (117, .agg #[.bool (neg 0), .slice A25 (zl 0) c26]), (118, .int .i64 (n : Nat)), (119, .tuple #[.agg #[.bool (neg 0), .slice none (zl 0) 0], .int .i64 0]), (116, .tuple #[.agg #[.bool (neg 0), .slice none (zl 0) 0], .int .i64 0]), (120, .agg #[.bool (neg 0), .slice none (zl 0) 0]), (121, .int .i64 0), (12, .pointer (some ⟨g47, 0, none⟩)), (13, .int .i64 0), (122, .int .i64 0), (123, .bool false), (124, .bool false), (125, .agg #[.bool (neg 0), .slice none (zl 0) 0]), (126, .agg #[.bool (neg 0), .slice A10 (dl 0) c11]), (127, .bool true), (128, .bool false), (129, .bool false), (14, .pointer (some ⟨g60, 0, none⟩)), (15, .bool true)] ∧ St w0 w [⟨g60, #[.bool (neg (0 / 2 ^ n)), .slice A56 (dl (0 / 2 ^ n)) c57], 30⟩, ⟨g47, #[.bool (neg 0), .slice none (zl 0) 0], 28⟩, ⟨g33, #[.bool (neg 0), .slice none (zl 0) 0], 28⟩, ⟨g29, #[.bool (neg 0), .slice A25 (zl 0) c26], 28⟩, ⟨g16, #[.bool (neg 0), .slice A10 (dl 0) c11], 30⟩, ⟨g14, #[.bool (neg 0), .slice A7 (zl 0) c8], 28⟩, ⟨g4, #[.bool b0, .slice A0 n0 c0], 24⟩, ⟨g1, #[.bool b0, .slice A0 n0 c0], 24⟩] [pfR A56 c57 (0 / 2 ^ n), pfR A52 c53 (2 ^ n), pfR A41 c42 (0 * (2 ^ n)), pfR A37 c38 (2 ^ n), pfZ A25 c26 0, pfR A10 c11 0, pfZ A7 c8 0, pfU A0 n0 c0 xs0, pfT, pfZ none 0 0]) ?_ ?_
  · refine region_any (n := 10) (Sk [⟨g47, #[.bool (neg 0), .slice none (zl 0) 0], 28⟩, ⟨g33, #[.bool (neg 0), .slice none (zl 0) 0], 28⟩, ⟨g29, #[.bool (neg 0), .slice A25 (zl 0) c26], 28⟩, ⟨g16, #[.bool (neg 0), .slice A10 (dl 0) c11], 30⟩, ⟨g14, #[.bool (neg 0), .slice A7 (zl 0) c8], 28⟩, ⟨g4, #[.bool b0, .slice A0 n0 c0], 24⟩, ⟨g1, #[.bool b0, .slice A0 n0 c0], 24⟩] [pfR A41 c42 (0 * (2 ^ n)), pfR A37 c38 (2 ^ n), pfZ A25 c26 0, pfR A10 c11 0, pfZ A7 c8 0, pfU A0 n0 c0 xs0, pfT, pfZ none 0 0] [8] []) mixed rfl henv hst ?_
    clear henv hst; intro w51 henv hst
    refine sAny_take (i := 0) [3, 4, 5, 6, 8, 9] (fun w' => w'.heap[g16]? = some (.cells #[.bool (neg 0), .slice A10 (dl 0) c11] 30 (0, 0))) (v := .agg #[.bool (neg 0), .slice A10 (dl 0) c11]) rfl (by kernel_rfl) (fun _ _ _ h => h) (fun _ _ _ hS => hS.1.oat (k := 3) rfl) henv rfl (hst.oat (k := 3) rfl) (fun w' hg => rn_load0 henv ty_anvil_anvilref02_Int rfl hg rfl) ?_
    clear henv a; intro a henv
    refine sAny_take (i := 1) [2, 3, 4, 5, 6, 8, 9] (fun _ => True) (v := .int .i64 (n : Nat)) rfl (by kernel_rfl) (fun _ _ _ h => h) (fun _ _ _ _ => trivial) henv rfl trivial (fun w' _ => rn_move henv rfl) ?_
    clear henv a; intro a henv
    refine sAny_all (rs := [2, 7]) (by kernel_rfl) (by simp) ?_
    simp only [List.forall_mem_cons, List.not_mem_nil, false_implies, implies_true, and_true]
    refine ⟨?_, ?_⟩
    · refine ⟨_, rfl, rfl, op_call henv rfl Tryd.call30 rfl (power_r (n := n) (by omega)) ?_⟩
      rintro e w55 ⟨_, rfl, ⟨A52, c53, rfl, hz54⟩, hb⟩
      refine ⟨_, rfl, ?_⟩
      clear henv a; intro a henv
      replace hst := (hst.call hb).addR hz54 rfl
      clear hz54
      clear hb
      refine ⟨.inr ⟨hst.kn.pick [0, 1, 2, 3, 4, 5, 6] [1, 2, 3, 4, 5, 6, 7, 8], .inr (hst.kn.pick [] [])⟩, ?_⟩
      refine sAny_all (rs := [3, 7]) (by kernel_rfl) (by simp) ?_
      simp only [List.forall_mem_cons, List.not_mem_nil, false_implies, implies_true, and_true]
      refine ⟨?_, ?_⟩
      · refine ⟨_, rfl, rfl, op_call henv rfl Tryd.call31 rfl (over_r (x := 0) (y := 2 ^ n) (show RIn _ A10 c11 0 from hst.pat (k := 4) rfl) (show RIn _ A52 c53 (2 ^ n) from hst.pat (k := 0) rfl) (by omega) hpd pow_ne hmod) ?_⟩
        rintro e w59 ⟨_, rfl, ⟨A56, c57, rfl, hz58⟩, hb⟩
        refine ⟨_, rfl, ?_⟩
        clear henv a; intro a henv
        replace hst := (hst.call hb).addR hz58 rfl
        clear hz58
        clear hb
        refine ⟨.inr ⟨hst.kn.pick [0, 1, 2, 3, 4, 5, 6] [2, 3, 4, 5, 6, 7, 8, 9], .inr (hst.kn.pick [] [])⟩, ?_⟩
        refine sAny_take (i := 4) [5, 6, 8, 9] (fun _ => True) (v := .tuple #[.agg #[.bool (neg (0 / 2 ^ n)), .slice A56 (dl (0 / 2 ^ n)) c57], .bool true]) rfl (by kernel_rfl) (fun _ _ _ h => h) (fun _ _ _ _ => trivial) henv rfl trivial (fun w' _ => rn_move henv rfl) ?_
        clear henv a; intro a henv
        refine sAny_take (i := 5) [8, 9] (fun _ => True) (v := .agg #[.bool (neg (0 / 2 ^ n)), .slice A56 (dl (0 / 2 ^ n)) c57]) rfl (by kernel_rfl) (fun _ _ _ h => h) (fun _ _ _ _ => trivial) henv rfl trivial (fun w' _ => rn_extract henv rfl rfl) ?_
        clear henv a; intro a henv
        refine sAny_take (i := 6) [9] (fun _ => True) (v := .bool true) rfl (by kernel_rfl) (fun _ _ _ h => h) (fun _ _ _ _ => trivial) henv rfl trivial (fun w' _ => rn_extract henv rfl rfl) ?_
        clear henv a; intro a henv
        refine sAny_one (i := 7) (by kernel_rfl) rfl rfl (op_alloc (c := #[.bool (neg 0), .slice none (dl 0) 0]) henv hst rfl zero_anvil_anvilref02_Int rcells ?_)
        clear henv hst a; intro a w61 g60 henv hst
        refine ⟨.inr ⟨hst.kn.pick [1, 2, 3, 4, 5, 6, 7] [2, 3, 4, 5, 6, 7, 8, 9], .inr (hst.kn.pick [] [])⟩, ?_⟩
        refine sAny_one (i := 8) (by kernel_rfl) rfl rfl (op_store (k := 0) (c' := #[.bool (neg (0 / 2 ^ n)), .slice A56 (dl (0 / 2 ^ n)) c57]) henv hst (ty_anvil_anvilref02_Int.size) rfl rfl rfl rfl (by simp) rfl rfl ?_)
        clear henv hst a; intro a w62 henv hst
        refine ⟨.inr ⟨hst.kn.pick [1, 2, 3, 4, 5, 6, 7] [2, 3, 4, 5, 6, 7, 8, 9], .inl rfl⟩, ?_⟩
        refine sAny_take (i := 9) [] (fun _ => True) (v := .bool true) rfl (by kernel_rfl) (fun _ _ _ h => h) (fun _ _ _ _ => trivial) henv rfl trivial (fun w' _ => rn_assign henv rfl) ?_
        clear henv a; intro a henv
        refine sAny_done (by kernel_rfl) ?_ _
        exact th_n ⟨A52, c53, A56, c57, g60, henv.sub ⟨rfl, rfl, rfl, rfl, rfl, rfl, rfl, rfl, rfl, rfl, rfl, rfl, rfl, rfl, rfl, rfl, rfl, rfl, rfl, rfl, rfl, rfl, rfl, rfl, rfl, rfl, rfl, rfl, rfl, rfl, rfl, rfl, rfl, rfl, rfl, rfl, rfl, rfl, rfl, rfl, rfl, rfl, rfl, rfl, rfl, rfl, rfl, rfl, rfl, rfl, rfl, rfl, rfl, rfl, rfl, rfl, rfl, rfl, rfl, rfl, rfl, rfl, rfl, rfl, rfl, rfl, rfl, rfl, rfl, rfl, rfl, rfl, rfl, rfl, rfl, rfl, rfl, rfl, rfl, rfl, rfl, rfl, rfl, rfl, rfl, trivial⟩, hst.pick [0, 1, 2, 3, 4, 5, 6, 7] [0, 1, 2, 3, 4, 5, 6, 7, 8, 9] (by decide)⟩
      · refine ⟨_, rfl, rfl, op_alloc (c := #[.bool (neg 0), .slice none (dl 0) 0]) henv hst rfl zero_anvil_anvilref02_Int rcells ?_⟩
        clear henv hst a; intro a w64 g63 henv hst
        refine ⟨.inr ⟨hst.kn.pick [1, 2, 3, 4, 5, 6, 7] [1, 2, 3, 4, 5, 6, 7, 8], .inr (hst.kn.pick [] [])⟩, ?_⟩
        refine sAny_one (i := 3) (by kernel_rfl) rfl rfl (op_call henv rfl Tryd.call31 rfl (over_r (x := 0) (y := 2 ^ n) (show RIn _ A10 c11 0 from hst.pat (k := 4) rfl) (show RIn _ A52 c53 (2 ^ n) from hst.pat (k := 0) rfl) (by omega) hpd pow_ne hmod) ?_)
        rintro e w68 ⟨_, rfl, ⟨A65, c66, rfl, hz67⟩, hb⟩
        refine ⟨_, rfl, ?_⟩
        clear henv a; intro a henv
        replace hst := (hst.call hb).addR hz67 rfl
        clear hz67
        clear hb
        refine ⟨.inr ⟨hst.kn.pick [1, 2, 3, 4, 5, 6, 7] [2, 3, 4, 5, 6, 7, 8, 9], .inr (hst.kn.pick [] [])⟩, ?_⟩
        refine sAny_take (i := 4) [5, 6, 8, 9] (fun _ => True) (v := .tuple #[.agg #[.bool (neg (0 / 2 ^ n)), .slice A65 (dl (0 / 2 ^ n)) c66], .bool true]) rfl (by kernel_rfl) (fun _ _ _ h => h) (fun _ _ _ _ => trivial) henv rfl trivial (fun w' _ => rn_move henv rfl) ?_
        clear henv a; intro a henv
        refine sAny_take (i := 5) [8, 9] (fun _ => True) (v := .agg #[.bool (neg (0 / 2 ^ n)), .slice A65 (dl (0 / 2 ^ n)) c66]) rfl (by kernel_rfl) (fun _ _ _ h => h) (fun _ _ _ _ => trivial) henv rfl trivial (fun w' _ => rn_extract henv rfl rfl) ?_
        clear henv a; intro a henv
        refine sAny_take (i := 6) [9] (fun _ => True) (v := .bool true) rfl (by kernel_rfl) (fun _ _ _ h => h) (fun _ _ _ _ => trivial) henv rfl trivial (fun w' _ => rn_extract henv rfl rfl) ?_
        clear henv a; intro a henv
        refine sAny_one (i := 8) (by kernel_rfl) rfl rfl (op_store (k := 0) (c' := #[.bool (neg (0 / 2 ^ n)), .slice A65 (dl (0 / 2 ^ n)) c66]) henv hst (ty_anvil_anvilref02_Int.size) rfl rfl rfl rfl (by simp) rfl rfl ?_)
        clear henv hst a; intro a w69 henv hst
        refine ⟨.inr ⟨hst.kn.pick [1, 2, 3, 4, 5, 6, 7] [2, 3, 4, 5, 6, 7, 8, 9], .inl rfl⟩, ?_⟩
        refine sAny_take (i := 9) [] (fun _ => True) (v := .bool true) rfl (by kernel_rfl) (fun _ _ _ h => h) (fun _ _ _ _ => trivial) henv rfl trivial (fun w' _ => rn_assign henv rfl) ?_
        clear henv a; intro a henv
        refine sAny_done (by kernel_rfl) ?_ _
        exact th_n ⟨A52, c53, A65, c66, g63, henv.sub ⟨rfl, rfl, rfl, rfl, rfl, rfl, rfl, rfl, rfl, rfl, rfl, rfl, rfl, rfl, rfl, rfl, rfl, rfl, rfl, rfl, rfl, rfl, rfl, rfl, rfl, rfl, rfl, rfl, rfl, rfl, rfl, rfl, rfl, rfl, rfl, rfl, rfl, rfl, rfl, rfl, rfl, rfl, rfl, rfl, rfl, rfl, rfl, rfl, rfl, rfl, rfl, rfl, rfl, rfl, rfl, rfl, rfl, rfl, rfl, rfl, rfl, rfl, rfl, rfl, rfl, rfl, rfl, rfl, rfl, rfl, rfl, rfl, rfl, rfl, rfl, rfl, rfl, rfl, rfl, rfl, rfl, rfl, rfl, rfl, rfl, trivial⟩, hst.pick [0, 1, 2, 3, 4, 5, 6, 7] [0, 1, 2, 3, 4, 5, 6, 7, 8, 9] (by decide)⟩
    · refine ⟨_, rfl, rfl, op_alloc (c := #[.bool (neg 0), .slice none (dl 0) 0]) henv hst rfl zero_anvil_anvilref02_Int rcells ?_⟩
      clear henv hst a; intro a w71 g70 henv hst
      refine ⟨.inr ⟨hst.kn.pick [1, 2, 3, 4, 5, 6, 7] [0, 1, 2, 3, 4, 5, 6, 7], .inr (hst.kn.pick [] [])⟩, ?_⟩
      refine sAny_one (i := 2) (by kernel_rfl) rfl rfl (op_call henv rfl Tryd.call30 rfl (power_r (n := n) (by omega)) ?_)
      rintro e w75 ⟨_, rfl, ⟨A72, c73, rfl, hz74⟩, hb⟩
      refine ⟨_, rfl, ?_⟩
      clear henv a; intro a henv
      replace hst := (hst.call hb).addR hz74 rfl
      clear hz74
      clear hb
      refine ⟨.inr ⟨hst.kn.pick [1, 2, 3, 4, 5, 6, 7] [1, 2, 3, 4, 5, 6, 7, 8], .inr (hst.kn.pick [] [])⟩, ?_⟩
      refine sAny_one (i := 3) (by kernel_rfl) rfl rfl (op_call henv rfl Tryd.call31 rfl (over_r (x := 0) (y := 2 ^ n) (show RIn _ A10 c11 0 from hst.pat (k := 4) rfl) (show RIn _ A72 c73 (2 ^ n) from hst.pat (k := 0) rfl) (by omega) hpd pow_ne hmod) ?_)
      rintro e w79 ⟨_, rfl, ⟨A76, c77, rfl, hz78⟩, hb⟩
      refine ⟨_, rfl, ?_⟩
      clear henv a; intro a henv
      replace hst := (hst.call hb).addR hz78 rfl
      clear hz78
      clear hb
      refine ⟨.inr ⟨hst.kn.pick [1, 2, 3, 4, 5, 6, 7] [2, 3, 4, 5, 6, 7, 8, 9], .inr (hst.kn.pick [] [])⟩, ?_⟩
      refine sAny_take (i := 4) [5, 6, 8, 9] (fun _ => True) (v := .tuple #[.agg #[.bool (neg (0 / 2 ^ n)), .slice A76 (dl (0 / 2 ^ n)) c77], .bool true]) rfl (by kernel_rfl) (fun _ _ _ h => h) (fun _ _ _ _ => trivial) henv rfl trivial (fun w' _ => rn_move henv rfl) ?_
      clear henv a; intro a henv
      refine sAny_take (i := 5) [8, 9] (fun _ => True) (v := .agg #[.bool (neg (0 / 2 ^ n)), .slice A76 (dl (0 / 2 ^ n)) c77]) rfl (by kernel_rfl) (fun _ _ _ h => h) (fun _ _ _ _ => trivial) henv rfl trivial (fun w' _ => rn_extract henv rfl rfl) ?_
      clear henv a; intro a henv
      refine sAny_take (i := 6) [9] (fun _ => True) (v := .bool true) rfl (by kernel_rfl) (fun _ _ _ h => h) (fun _ _ _ _ => trivial) henv rfl trivial (fun w' _ => rn_extract henv rfl rfl) ?_
      clear henv a; intro a henv
      refine sAny_one (i := 8) (by kernel_rfl) rfl rfl (op_store (k := 0) (c' := #[.bool (neg (0 / 2 ^ n)), .slice A76 (dl (0 / 2 ^ n)) c77]) henv hst (ty_anvil_anvilref02_Int.size) rfl rfl rfl rfl (by simp) rfl rfl ?_)
      clear henv hst a; intro a w80 henv hst
      refine ⟨.inr ⟨hst.kn.pick [1, 2, 3, 4, 5, 6, 7] [2, 3, 4, 5, 6, 7, 8, 9], .inl rfl⟩, ?_⟩
      refine sAny_take (i := 9) [] (fun _ => True) (v := .bool true) rfl (by kernel_rfl) (fun _ _ _ h => h) (fun _ _ _ _ => trivial) henv rfl trivial (fun w' _ => rn_assign henv rfl) ?_
      clear henv a; intro a henv
      refine sAny_done (by kernel_rfl) ?_ _
      exact th_n ⟨A72, c73, A76, c77, g70, henv.sub ⟨rfl, rfl, rfl, rfl, rfl, rfl, rfl, rfl, rfl, rfl, rfl, rfl, rfl, rfl, rfl, rfl, rfl, rfl, rfl, rfl, rfl, rfl, rfl, rfl, rfl, rfl, rfl, rfl, rfl, rfl, rfl, rfl, rfl, rfl, rfl, rfl, rfl, rfl, rfl, rfl, rfl, rfl, rfl, rfl, rfl, rfl, rfl, rfl, rfl, rfl, rfl, rfl, rfl, rfl, rfl, rfl, rfl, rfl, rfl, rfl, rfl, rfl, rfl, rfl, rfl, rfl, rfl, rfl, rfl, rfl, rfl, rfl, rfl, rfl, rfl, rfl, rfl, rfl, rfl, rfl, rfl, rfl, rfl, rfl, rfl, trivial⟩, hst.pick [0, 1, 2, 3, 4, 5, 6, 7] [0, 1, 2, 3, 4, 5, 6, 7, 8, 9] (by decide)⟩
  clear henv hst a
  rintro a w81 ⟨A52, c53, A56, c57, g60, henv, hst⟩
  refine wp_seq ?_
  refine wp_seq ?_
  refine region_seq ?_
  refine seq_step rfl (op_val (v := .bool true) henv rfl (rn_move henv rfl) ?_)
  clear henv a; intro a henv
  refine seq_step rfl (op_val (v := .bool false) henv rfl (rn_un henv rfl rfl) ?_)
  clear henv a; intro a henv
  refine wpList_nil ?_
  refine th_n ?_
  refine if_f henv rfl (rfl) ?_
  refine wp_skip ?_
  refine th_n ?_
  refine wp_seq ?_
  refine region_seq ?_
  refine seq_step rfl (op_val (v := .int .i64 0) henv rfl (rn_move henv rfl) ?_)
  clear henv a; intro a henv
  refine seq_step rfl (op_val (v := .bool true) henv rfl (rn_bin henv rfl rfl rfl) ?_)
  clear henv a; intro a henv
  refine seq_step rfl (op_val (v := .bool true) henv rfl (rn_move henv rfl) ?_)
  clear henv a; intro a henv
  refine seq_g rfl henv rfl rfl (op_val (v := .agg #[.bool (neg 0), .slice none (zl 0) 0]) henv rfl (rn_load0 henv ty_anvil_integer_Int rfl (hst.oat (k := 2) rfl) rfl) ?_)
  clear henv a; intro a henv
  refine seq_g rfl henv rfl rfl (op_val (v := .agg #[.bool (neg (0 / 2 ^ n)), .slice A56 (dl (0 / 2 ^ n)) c57]) henv rfl (rn_load0 henv ty_anvil_anvilref02_Int rfl (hst.oat (k := 0) rfl) rfl) ?_)
  clear henv a; intro a henv
  refine seq_g rfl henv rfl rfl (op_call henv rfl Tryd.call28 rfl (is_same (z := 0) (y := 0 / 2 ^ n) (show ZIn _ none 0 0 from hst.pat (k := 9) rfl) (show RIn _ A56 c57 (0 / 2 ^ n) from hst.pat (k := 0) rfl) (by simp) (by omega) (by omega)) ?_)
  rintro e w82 ⟨rfl, hb⟩
  refine ⟨_, rfl, ?_⟩
  clear henv a; intro a henv
  replace hst := hst.call hb
  clear hb
  refine seq_step rfl (op_val (v := .bool true) henv rfl (rn_pick henv rfl rfl) ?_)
  clear henv a; intro a henv
  refine seq_step rfl (op_val (v := .bool true) henv rfl (rn_assign henv rfl) ?_)
  clear henv a; intro a henv
  refine wpList_nil ?_
  refine th_n ?_
  refine wp_ret ?_
  refine leave henv (res1 Tryd.results3 (RV.tmp henv rfl)) ?_
  exact ⟨rfl, hst.below⟩

set_option maxRecDepth 100000 in
set_option maxHeartbeats 4000000 in
theorem law_C1 {b0 : Bool} {A0 : Option Addr} {n0 c0 : Nat} {xs0 : List Nat} {x : Int} {n : Nat} {w0 : World} (h0 : U32 w0 A0 n0 c0 xs0) (hs0 : n0 ≤ 60) (hz0 : sg b0 (val 4294967296 xs0) = x) (hT : Deb w0) (hi : n ≤ 3000) (hx0 : x ≠ 0) (hd : (2 : Int) ^ n ∣ x) :
    Calls Tryd.prog 3 #[.agg #[.bool b0, .slice A0 n0 c0], .int .i64 (n : Nat)] w0 fun e w' => e = .returned (.bool true) ∧ Below w0.heap.size w0 w' := by
  have hx60 : zl x ≤ 60 := by have := given_bd (b := b0) h0; rw [hz0] at this; omega
  have hdx := dl_zl x
  have hpd : dl (2 ^ n) ≤ 1000 := dl_pow2 hi
  have hsh : zl (x * 2 ^ n) ≤ 1000000 := zl_shl2 hx60 hi
  have hdsh : dl (x * 2 ^ n) ≤ 1000000 := by have := dl_mul x (2 ^ n); omega
  have pow_ne : (2 : Int) ^ n ≠ 0 := by have := pow_pos2 n; omega
  have hne : x * 2 ^ n ≠ 0 := Int.mul_ne_zero hx0 pow_ne
  have hmod : x % 2 ^ n = 0 := Int.emod_eq_zero_of_dvd hd
  refine enter Tryd.func3 rfl Tryd.ntmps3 rfl ?_
  intro a henv hst
  replace hst := (hst.addZ (zin_none _) rfl).addT hT hT
  replace hst := hst.addU h0 rfl
  have hL0 := Nat.le_trans h0.cap h0.big
  clear h0
  refine wp_seq ?_
  refine region_seq ?_
  refine seq_step rfl (op_box (c := #[.bool b0, .slice A0 n0 c0]) henv hst rfl rfl rfl ?_)
  clear henv hst a; intro a w2 g1 henv hst
  refine seq_step rfl (op_val (v := .bool false) henv rfl (rn_assign henv rfl) ?_)
  clear henv a; intro a henv
  refine wpList_nil ?_
  refine th_n ?_
  refine wp_seq ?_
  refine wp_seq ?_
  refine region_seq ?_
  refine seq_step rfl (op_call henv rfl Tryd.call17 rfl (live_true _) ?_)
  rintro e w3 ⟨rfl, hb⟩
  refine ⟨_, rfl, ?_⟩
  clear henv a; intro a henv
  replace hst := hst.call hb
  clear hb
  refine seq_step rfl (op_val (v := .bool false) henv rfl (rn_un henv rfl rfl) ?_)
  clear henv a; intro a henv
  refine wpList_nil ?_
  refine th_n ?_
  refine if_f henv rfl (rfl) ?_
  refine wp_skip ?_
  refine th_n ?_
  refine wp_seq ?_
  refine wp_seq ?_
  refine region_seq ?_
  refine seq_step rfl (op_val (v := .agg #[.bool b0, .slice A0 n0 c0]) henv rfl (rn_load0 henv ty_anvil_anvillaw02_Num rfl (hst.oat (k := 0) rfl) rfl) ?_)
  clear henv a; intro a henv
  refine seq_step rfl (op_buildSlice (z := 2) (pv := #[(0, .agg #[.bool b0, .slice A0 n0 c0])]) (c := #[.bool b0, .slice A0 n0 c0]) henv hst rfl Tryd.underlying95 (ty_anvil_anvillaw02_Num.size) zero_anvil_anvillaw02_Num (by decide) (by decide) rfl (by kernel_rfl) ?_)
  clear henv hst a; intro a w5 g4 henv hst
  refine seq_step rfl (op_call henv rfl Tryd.call18 rfl (long_own1 (hst.oat (k := 0) rfl) hL0 false (by simp; omega)) ?_)
  rintro e w6 ⟨rfl, hb⟩
  refine ⟨_, rfl, ?_⟩
  clear henv a; intro a henv
  replace hst := hst.call hb
  clear hb
  refine seq_step rfl (op_val (v := .bool false) henv rfl (rn_move henv rfl) ?_)
  clear henv a; intro a henv
  refine seq_g rfl henv rfl rfl (op_val (v := .int .i64 (n : Nat)) henv rfl (rn_move henv rfl) ?_)
  clear henv a; intro a henv
  refine seq_g rfl henv rfl rfl (op_val (v := .bool (decide (((n : Nat) : Int) > (3000 : Int)))) henv rfl (rn_bin henv rfl rfl rfl) ?_)
  clear henv a; intro a henv
  rw [show (decide (((n : Nat) : Int) > (3000 : Int))) = false from (decide_eq_false (by omega))] at henv
  refine seq_g rfl henv rfl rfl (op_val (v := .bool false) henv rfl (rn_move henv rfl) ?_)
  clear henv a; intro a henv
  refine seq_skip rfl henv rfl rfl rfl rfl ?_
  clear henv a; intro a henv
  refine seq_skip rfl henv rfl rfl rfl rfl ?_
  clear henv a; intro a henv
  refine seq_g rfl henv rfl rfl (op_val (v := .bool false) henv rfl (rn_pick henv rfl rfl) ?_)
  clear henv a; intro a henv
  refine seq_step rfl (op_val (v := .bool false) henv rfl (rn_pick henv rfl rfl) ?_)
  clear henv a; intro a henv
  refine wpList_nil ?_
  refine th_n ?_
  refine if_f henv rfl (rfl) ?_
  refine wp_skip ?_
  refine th_n ?_
  refine wp_seq ?_
  refine region_seq ?_
  refine seq_step rfl (op_val (v := .agg #[.bool b0, .slice A0 n0 c0]) henv rfl (rn_load0 henv ty_anvil_anvillaw02_Num rfl (hst.oat (k := 1) rfl) rfl) ?_)
  clear henv a; intro a henv
  refine seq_step rfl (op_call henv rfl Tryd.call19 rfl (of_given (z := x) (show U32 _ A0 n0 c0 xs0 from hst.pat (k := 0) rfl) hs0 hz0) ?_)
  rintro e w13 ⟨_, _, rfl, ⟨A7, c8, rfl, hz9⟩, ⟨A10, c11, rfl, hz12⟩, hb⟩
  refine ⟨_, rfl, ?_⟩
  clear henv a; intro a henv
  replace hst := ((hst.call hb).addZ hz9 rfl).addR hz12 rfl
  clear hz9 hz12
  clear hb
  refine seq_step rfl (op_val (v := .tuple #[.agg #[.bool (neg x), .slice A7 (zl x) c8], .agg #[.bool (neg x), .slice A10 (dl x) c11]]) henv rfl (rn_move henv rfl) ?_)
  clear henv a; intro a henv
  refine seq_step rfl (op_val (v := .agg #[.bool (neg x), .slice A7 (zl x) c8]) henv rfl (rn_extract henv rfl rfl) ?_)
  clear henv a; intro a henv
  refine seq_step rfl (op_val (v := .agg #[.bool (neg x), .slice A10 (dl x) c11]) henv rfl (rn_extract henv rfl rfl) ?_)
  clear henv a; intro a henv
  refine seq_step rfl (op_alloc (c := #[.bool (neg 0), .slice none (zl 0) 0]) henv hst rfl zero_anvil_integer_Int zcells ?_)
  clear henv hst a; intro a w15 g14 henv hst
  refine seq_step rfl (op_alloc (c := #[.bool (neg 0), .slice none (dl 0) 0]) henv hst rfl zero_anvil_anvilref02_Int rcells ?_)
  clear henv hst a; intro a w17 g16 henv hst
  refine seq_step rfl (op_store (k := 1) (c' := #[.bool (neg x), .slice A7 (zl x) c8]) henv hst (ty_anvil_integer_Int.size) rfl rfl rfl rfl (by simp) rfl rfl ?_)
  clear henv hst a; intro a w18 henv hst
  refine seq_step rfl (op_store (k := 0) (c' := #[.bool (neg x), .slice A10 (dl x) c11]) henv hst (ty_anvil_anvilref02_Int.size) rfl rfl rfl rfl (by simp) rfl rfl ?_)
  clear henv hst a; intro a w19 henv hst
  refine wpList_nil ?_
  refine th_n ?_
  refine wp_seq ?_
  refine wp_seq ?_
  refine region_any (n := 12) (Sk [⟨g16, #[.bool (neg x), .slice A10 (dl x) c11], 30⟩, ⟨g14, #[.bool (neg x), .slice A7 (zl x) c8], 28⟩, ⟨g4, #[.bool b0, .slice A0 n0 c0], 24⟩, ⟨g1, #[.bool b0, .slice A0 n0 c0], 24⟩] [pfR A10 c11 x, pfZ A7 c8 x, pfU A0 n0 c0 xs0, pfT, pfZ none 0 0] [] []) mixed rfl henv hst ?_
  clear henv hst; intro w20 henv hst
  refine sAny_take (i := 0) [1, 3, 4, 5, 6, 7, 8, 9, 10, 11] (fun w' => w'.heap[g14]? = some (.cells #[.bool (neg x), .slice A7 (zl x) c8] 28 (0, 0))) (v := .agg #[.bool (neg x), .slice A7 (zl x) c8]) rfl (by kernel_rfl) (fun _ _ _ h => h) (fun _ _ _ hS => hS.1.oat (k := 1) rfl) henv rfl (hst.oat (k := 1) rfl) (fun w' hg => rn_load0 henv ty_anvil_integer_Int rfl hg rfl) ?_
  clear henv a; intro a henv
  refine sAny_take (i := 2) [3, 4, 5, 6, 7, 8, 9, 10, 11] (fun w' => w'.heap[g16]? = some (.cells #[.bool (neg x), .slice A10 (dl x) c11] 30 (0, 0))) (v := .agg #[.bool (neg x), .slice A10 (dl x) c11]) rfl (by kernel_rfl) (fun _ _ _ h => h) (fun _ _ _ hS => hS.1.oat (k := 0) rfl) henv rfl (hst.oat (k := 0) rfl) (fun w' hg => rn_load0 henv ty_anvil_anvilref02_Int rfl hg rfl) ?_
  clear henv a; intro a henv
  refine sAny_one (i := 1) (by kernel_rfl) rfl rfl (op_call henv rfl Tryd.call20 rfl (twos_z (x := x) (show ZIn _ A7 c8 x from hst.pat (k := 1) rfl) (by omega) hx0 (show Deb _ from hst.pat (k := 3) rfl)) ?_)
  rintro e w21 ⟨k1, rfl, ht1, hb⟩
  refine ⟨_, rfl, ?_⟩
  clear henv a; intro a henv
  replace hst := hst.call hb
  clear hb
  refine ⟨.inr ⟨hst.kn.pick [0, 1, 2, 3] [0, 1, 2, 3, 4], .inr (hst.kn.pick [] [])⟩, ?_⟩
  refine sAny_one (i := 3) (by kernel_rfl) rfl rfl (op_call henv rfl Tryd.call21 rfl (twos_r (x := x) (show RIn _ A10 c11 x from hst.pat (k := 0) rfl) (by omega) hx0) ?_)
  rintro e w22 ⟨k2, rfl, ht2, hb⟩
  refine ⟨_, rfl, ?_⟩
  clear henv a; intro a henv
  replace hst := hst.call hb
  clear hb
  refine ⟨.inr ⟨hst.kn.pick [0, 1, 2, 3] [0, 1, 2, 3, 4], .inr (hst.kn.pick [] [])⟩, ?_⟩
  refine sAny_take (i := 4) [5, 6, 7, 8, 9, 10, 11] (fun _ => True) (v := .bool (((k1 : Nat) : Int) != ((k2 : Nat) : Int))) rfl (by kernel_rfl) (fun _ _ _ h => h) (fun _ _ _ _ => trivial) henv rfl trivial (fun w' _ => rn_bin henv rfl rfl rfl) ?_
  clear henv a; intro a henv
  rw [show (((k1 : Nat) : Int) != ((k2 : Nat) : Int)) = false from (by rw [IsTz.uniq ht1 ht2]; simp)] at henv
  refine sAny_take (i := 5) [6, 7, 8, 9, 10, 11] (fun _ => True) (v := .bool false) rfl (by kernel_rfl) (fun _ _ _ h => h) (fun _ _ _ _ => trivial) henv rfl trivial (fun w' _ => rn_move henv rfl) ?_
  clear henv a; intro a henv
  refine sAny_takeg (i := 6) [7, 9, 10, 11] (fun w' => w'.heap[g14]? = some (.cells #[.bool (neg x), .slice A7 (zl x) c8] 28 (0, 0))) (v := .agg #[.bool (neg x), .slice A7 (zl x) c8]) rfl (by kernel_rfl) (fun _ _ _ h => h) (fun _ _ _ hS => hS.1.oat (k := 1) rfl) henv rfl rfl rfl rfl (hst.oat (k := 1) rfl) (fun w' hg => rn_load0 henv ty_anvil_integer_Int rfl hg rfl) ?_
  clear henv a; intro a henv
  refine sAny_takeg (i := 8) [9, 10, 11] (fun w' => w'.heap[g16]? = some (.cells #[.bool (neg x), .slice A10 (dl x) c11] 30 (0, 0))) (v := .agg #[.bool (neg x), .slice A10 (dl x) c11]) rfl (by kernel_rfl) (fun _ _ _ h => h) (fun _ _ _ hS => hS.1.oat (k := 0) rfl) henv rfl rfl rfl rfl (hst.oat (k := 0) rfl) (fun w' hg => rn_load0 henv ty_anvil_anvilref02_Int rfl hg rfl) ?_
  clear henv a; intro a henv
  refine sAny_oneg (i := 7) (by kernel_rfl) rfl rfl henv rfl rfl rfl (op_call henv rfl Tryd.call22 rfl (bits_z (z := x) (show ZIn _ A7 c8 x from hst.pat (k := 1) rfl) (by omega)) ?_)
  rintro e w23 ⟨rfl, hb⟩
  refine ⟨_, rfl, ?_⟩
  clear henv a; intro a henv
  replace hst := hst.call hb
  clear hb
  refine ⟨.inr ⟨hst.kn.pick [0, 1, 2, 3] [0, 1, 2, 3, 4], .inr (hst.kn.pick [] [])⟩, ?_⟩
  refine sAny_oneg (i := 9) (by kernel_rfl) rfl rfl henv rfl rfl rfl (op_call henv rfl Tryd.call23 rfl (bits_r (z := x) (show RIn _ A10 c11 x from hst.pat (k := 0) rfl) (by omega)) ?_)
  rintro e w24 ⟨rfl, hb⟩
  refine ⟨_, rfl, ?_⟩
  clear henv a; intro a henv
  replace hst := hst.call hb
  clear hb
  refine ⟨.inr ⟨hst.kn.pick [0, 1, 2, 3] [0, 1, 2, 3, 4], .inr (hst.kn.pick [] [])⟩, ?_⟩
  refine sAny_takeg (i := 10) [11] (fun _ => True) (v := .bool (((blen x.natAbs : Nat) : Int) != ((blen x.natAbs : Nat) : Int))) rfl (by kernel_rfl) (fun _ _ _ h => h) (fun _ _ _ _ => trivial) henv rfl rfl rfl rfl trivial (fun w' _ => rn_bin henv rfl rfl rfl) ?_
  clear henv a; intro a henv
  rw [show (((blen x.natAbs : Nat) : Int) != ((blen x.natAbs : Nat) : Int)) = false from (by simp)] at henv
  refine sAny_take (i := 11) [] (fun _ => True) (v := .bool false) rfl (by kernel_rfl) (fun _ _ _ h => h) (fun _ _ _ _ => trivial) henv rfl trivial (fun w' _ => rn_pick henv rfl rfl) ?_
  clear henv a; intro a henv
  refine sAny_done (by kernel_rfl) ?_ _
  refine th_n ?_
  refine if_f henv rfl (rfl) ?_
  refine wp_skip ?_
  refine th_n ?_
  refine wp_seq ?_
  refine region_seq ?_
  refine seq_step rfl (op_val (v := .agg #[.bool (neg x), .slice A7 (zl x) c8]) henv rfl (rn_load0 henv ty_anvil_integer_Int rfl (hst.oat (k := 1) rfl) rfl) ?_)
  clear henv a; intro a henv
  refine seq_step rfl (op_val (v := .int .i64 (n : Nat)) henv rfl (rn_move henv rfl) ?_)
  clear henv a; intro a henv
  refine seq_step rfl (op_call henv rfl Tryd.call24 rfl (zshl_ok (x := x) (n := n) (show ZIn _ A7 c8 x from hst.pat (k := 1) rfl) (by omega) (by omega)) ?_)
  rintro e w28 ⟨_, rfl, ⟨A25, c26, rfl, hz27⟩, hb⟩
  refine ⟨_, rfl, ?_⟩
  clear henv a; intro a henv
  replace hst := (hst.call hb).addZ hz27 rfl
  clear hz27
  clear hb
  refine seq_step rfl (op_val (v := .tuple #[.agg #[.bool (neg (x * 2 ^ n)), .slice A25 (zl (x * 2 ^ n)) c26], .int .i64 0]) henv rfl (rn_move henv rfl) ?_)
  clear henv a; intro a henv
  refine seq_step rfl (op_val (v := .agg #[.bool (neg (x * 2 ^ n)), .slice A25 (zl (x * 2 ^ n)) c26]) henv rfl (rn_extract henv rfl rfl) ?_)
  clear henv a; intro a henv
  refine seq_step rfl (op_val (v := .int .i64 0) henv rfl (rn_extract henv rfl rfl) ?_)
  clear henv a; intro a henv
  refine seq_step rfl (op_alloc (c := #[.bool (neg 0), .slice none (zl 0) 0]) henv hst rfl zero_anvil_integer_Int zcells ?_)
  clear henv hst a; intro a w30 g29 henv hst
  refine seq_step rfl (op_store (k := 0) (c' := #[.bool (neg (x * 2 ^ n)), .slice A25 (zl (x * 2 ^ n)) c26]) henv hst (ty_anvil_integer_Int.size) rfl rfl rfl rfl (by simp) rfl rfl ?_)
  clear henv hst a; intro a w31 henv hst
  refine seq_step rfl (op_val (v := .int .i64 0) henv rfl (rn_assign henv rfl) ?_)
  clear henv a; intro a henv
  refine wpList_nil ?_
  refine th_n ?_
  refine wp_seq ?_
  refine region_seq ?_
  refine seq_step rfl (op_val (v := .agg #[.bool (neg x), .slice A7 (zl x) c8]) henv rfl (rn_load0 henv ty_anvil_integer_Int rfl (hst.oat (k := 2) rfl) rfl) ?_)
  clear henv a; intro a henv
  refine seq_step rfl (op_val (v := .int .i64 (n : Nat)) henv rfl (rn_move henv rfl) ?_)
  clear henv a; intro a henv
  refine seq_step rfl (op_call henv rfl Tryd.call25 rfl (zshr_ok (x := x) (n := n) (show ZIn _ A7 c8 x from hst.pat (k := 2) rfl) (by omega) (by omega) hx0 hd (show Deb _ from hst.pat (k := 4) rfl)) ?_)
  rintro e w35 ⟨_, rfl, ⟨A32, c33, rfl, hz34⟩, hb⟩
  refine ⟨_, rfl, ?_⟩
  clear henv a; intro a henv
  replace hst := (hst.call hb).addZ hz34 rfl
  clear hz34
  clear hb
  refine seq_step rfl (op_val (v := .tuple #[.agg #[.bool (neg (x / 2 ^ n)), .slice A32 (zl (x / 2 ^ n)) c33], .int .i64 0]) henv rfl (rn_move henv rfl) ?_)
  clear henv a; intro a henv
  refine seq_step rfl (op_val (v := .agg #[.bool (neg (x / 2 ^ n)), .slice A32 (zl (x / 2 ^ n)) c33]) henv rfl (rn_extract henv rfl rfl) ?_)
  clear henv a; intro a henv
  refine seq_step rfl (op_val (v := .int .i64 0) henv rfl (rn_extract henv rfl rfl) ?_)
  clear henv a; intro a henv
  refine seq_step rfl (op_alloc (c := #[.bool (neg 0), .slice none (zl 0) 0]) henv hst rfl zero_anvil_integer_Int zcells ?_)
  clear henv hst a; intro a w37 g36 henv hst
  refine seq_step rfl (op_store (k := 0) (c' := #[.bool (neg (x / 2 ^ n)), .slice A32 (zl (x / 2 ^ n)) c33]) henv hst (ty_anvil_integer_Int.size) rfl rfl rfl rfl (by simp) rfl rfl ?_)
  clear henv hst a; intro a w38 henv hst
  refine seq_step rfl (op_val (v := .int .i64 0) henv rfl (rn_assign henv rfl) ?_)
  clear henv a; intro a henv
  refine wpList_nil ?_
  refine th_n ?_
  refine wp_seq ?_
  refine wp_seq ?_
  refine region_seq ?_
  refine seq_step rfl (op_val (v := .int .i64 (n : Nat)) henv rfl (rn_move henv rfl) ?_)
  clear henv a; intro a henv
  refine seq_step rfl (op_val (v := .bool (decide (((n : Nat) : Int) < (0 : Int)))) henv rfl (rn_bin henv rfl rfl rfl) ?_)
  clear henv a; intro a henv
  rw [show (decide (((n : Nat) : Int) < (0 : Int))) = false from (decide_eq_false (by omega))] at henv
  refine wpList_nil ?_
  refine th_n ?_
  refine if_f henv rfl (rfl) ?_
  refine wp_skip ?_
  refine th_n ?_
  refine wp_seq ?_
  refine wp_seq ?_
  refine region_seq ?_
  refine seq_step rfl (op_val (v := .int .i64 (n : Nat)) henv rfl (rn_move henv rfl) ?_)
  clear henv a; intro a henv
  refine seq_step rfl (op_val (v := .bool (decide (((n : Nat) : Int) > (65536 : Int)))) henv rfl (rn_bin henv rfl rfl rfl) ?_)
  clear henv a; intro a henv
  rw [show (decide (((n : Nat) : Int) > (65536 : Int))) = false from (decide_eq_false (by omega))] at henv
  refine wpList_nil ?_
  refine th_n ?_
  refine if_f henv rfl (rfl) ?_
  refine wp_skip ?_
  refine th_n ?_
  refine wp_seq ?_
  refine wp_seq ?_
  refine region_any (n := 11) (Sk [⟨g36, #[.bool (neg (x / 2 ^ n)), .slice A32 (zl (x / 2 ^ n)) c33], 28⟩, ⟨g29, #[.bool (neg (x * 2 ^ n)), .slice A25 (zl (x * 2 ^ n)) c26], 28⟩, ⟨g16, #[.bool (neg x), .slice A10 (dl x) c11], 30⟩, ⟨g14, #[.bool (neg x), .slice A7 (zl x) c8], 28⟩, ⟨g4, #[.bool b0, .slice A0 n0 c0], 24⟩, ⟨g1, #[.bool b0, .slice A0 n0 c0], 24⟩] [pfZ A32 c33 (x / 2 ^ n), pfZ A25 c26 (x * 2 ^ n), pfR A10 c11 x, pfZ A7 c8 x, pfU A0 n0 c0 xs0, pfT, pfZ none 0 0] [] []) mixed rfl henv hst ?_
  clear henv hst; intro w39 henv hst
  refine sAny_take (i := 0) [1, 2, 3, 4, 5, 6, 7, 8, 9, 10] (fun _ => True) (v := .int .i64 0) rfl (by kernel_rfl) (fun _ _ _ h => h) (fun _ _ _ _ => trivial) henv rfl trivial (fun w' _ => rn_move henv rfl) ?_
  clear henv a; intro a henv
  refine sAny_take (i := 1) [2, 3, 4, 5, 6, 7, 8, 9, 10] (fun _ => True) (v := .bool false) rfl (by kernel_rfl) (fun _ _ _ h => h) (fun _ _ _ _ => trivial) henv rfl trivial (fun w' _ => rn_bin henv rfl rfl rfl) ?_
  clear henv a; intro a henv
  refine sAny_take (i := 2) [3, 4, 5, 6, 7, 8, 9, 10] (fun _ => True) (v := .bool false) rfl (by kernel_rfl) (fun _ _ _ h => h) (fun _ _ _ _ => trivial) henv rfl trivial (fun w' _ => rn_move henv rfl) ?_
  clear henv a; intro a henv
  refine sAny_takeg (i := 3) [8, 9, 10] (fun w' => w'.heap[g29]? = some (.cells #[.bool (neg (x * 2 ^ n)), .slice A25 (zl (x * 2 ^ n)) c26] 28 (0, 0))) (v := .agg #[.bool (neg (x * 2 ^ n)), .slice A25 (zl (x * 2 ^ n)) c26]) rfl (by kernel_rfl) (fun _ _ _ h => h) (fun _ _ _ hS => hS.1.oat (k := 1) rfl) henv rfl rfl rfl rfl (hst.oat (k := 1) rfl) (fun w' hg => rn_load0 henv ty_anvil_integer_Int rfl hg rfl) ?_
  clear henv a; intro a henv
  refine sAny_takeg (i := 4) [7, 8, 9, 10] (fun w' => w'.heap[g16]? = some (.cells #[.bool (neg x), .slice A10 (dl x) c11] 30 (0, 0))) (v := .agg #[.bool (neg x), .slice A10 (dl x) c11]) rfl (by kernel_rfl) (fun _ _ _ h => h) (fun _ _ _ hS => hS.1.oat (k := 2) rfl) henv rfl rfl rfl rfl (hst.oat (k := 2) rfl) (fun w' hg => rn_load0 henv ty_anvil_anvilref02_Int rfl hg rfl) ?_
  clear henv a; intro a henv
  refine sAny_takeg (i := 5) [6, 7, 8, 9, 10] (fun _ => True) (v := .int .i64 (n : Nat)) rfl (by kernel_rfl) (fun _ _ _ h => h) (fun _ _ _ _ => trivial) henv rfl rfl rfl rfl trivial (fun w' _ => rn_move henv rfl) ?_
  clear henv a; intro a henv
  refine sAny_oneg (i := 6) (by kernel_rfl) rfl rfl henv rfl rfl rfl (op_call henv rfl Tryd.call30 rfl (power_r (n := n) (by omega)) ?_)
  rintro e w43 ⟨_, rfl, ⟨A40, c41, rfl, hz42⟩, hb⟩
  refine ⟨_, rfl, ?_⟩
  clear henv a; intro a henv
  replace hst := (hst.call hb).addR hz42 rfl
  clear hz42
  clear hb
  refine ⟨.inr ⟨hst.kn.pick [0, 1, 2, 3, 4, 5] [1, 2, 3, 4, 5, 6, 7], .inr (hst.kn.pick [] [])⟩, ?_⟩
  refine sAny_oneg (i := 7) (by kernel_rfl) rfl rfl henv rfl rfl rfl (op_call henv rfl Tryd.call29 rfl (mul_r (x := x) (y := 2 ^ n) (show RIn _ A10 c11 x from hst.pat (k := 3) rfl) (show RIn _ A40 c41 (2 ^ n) from hst.pat (k := 0) rfl) (by omega) (Nat.le_trans hpd (by omega))) ?_)
  rintro e w47 ⟨_, rfl, ⟨A44, c45, rfl, hz46⟩, hb⟩
  refine ⟨_, rfl, ?_⟩
  clear henv a; intro a henv
  replace hst := (hst.call hb).addR hz46 rfl
  clear hz46
  clear hb
  refine ⟨.inr ⟨hst.kn.pick [0, 1, 2, 3, 4, 5] [2, 3, 4, 5, 6, 7, 8], .inr (hst.kn.pick [] [])⟩, ?_⟩
  refine sAny_oneg (i := 8) (by kernel_rfl) rfl rfl henv rfl rfl rfl (op_call henv rfl Tryd.call28 rfl (is_same (z := x * 2 ^ n) (y := x * (2 ^ n)) (show ZIn _ A25 c26 (x * 2 ^ n) from hst.pat (k := 3) rfl) (show RIn _ A44 c45 (x * (2 ^ n)) from hst.pat (k := 0) rfl) rfl (Nat.le_trans hsh (by omega)) (Nat.le_trans hdsh (by omega))) ?_)
  rintro e w48 ⟨rfl, hb⟩
  refine ⟨_, rfl, ?_⟩
  clear henv a; intro a henv
  replace hst := hst.call hb
  clear hb
  refine ⟨.inr ⟨hst.kn.pick [0, 1, 2, 3, 4, 5] [2, 3, 4, 5, 6, 7, 8], .inr (hst.kn.pick [] [])⟩, ?_⟩
  refine sAny_takeg (i := 9) [10] (fun _ => True) (v := .bool false) rfl (by kernel_rfl) (fun _ _ _ h => h) (fun _ _ _ _ => trivial) henv rfl rfl rfl rfl trivial (fun w' _ => rn_un henv rfl rfl) ?_
  clear henv a; intro a henv
  refine sAny_take (i := 10) [] (fun _ => True) (v := .bool false) rfl (by kernel_rfl) (fun _ _ _ h => h) (fun _ _ _ _ => trivial) henv rfl trivial (fun w' _ => rn_pick henv rfl rfl) ?_
  clear henv a; intro a henv
  refine sAny_done (by kernel_rfl) ?_ _
  refine th_n ?_
  refine if_f henv rfl (rfl) ?_
  refine wp_skip ?_
  refine th_n ?_
  refine wp_seq ?_
  refine region_seq ?_
  refine seq_step rfl (op_val (v := .agg #[.bool (neg (x * 2 ^ n)), .slice A25 (zl (x * 2 ^ n)) c26]) henv rfl (rn_load0 henv ty_anvil_integer_Int rfl (hst.oat (k := 1) rfl) rfl) ?_)
  clear henv a; intro a henv
  refine seq_step rfl (op_val (v := .int .i64 (n : Nat)) henv rfl (rn_move henv rfl) ?_)
  clear henv a; intro a henv
  refine seq_step rfl (op_call henv rfl Tryd.call25 rfl (zshr_ok (x := x * 2 ^ n) (n := n) (show ZIn _ A25 c26 (x * 2 ^ n) from hst.pat (k := 3) rfl) hsh (by omega) hne (Int.dvd_mul_left _ _) (show Deb _ from hst.pat (k := 7) rfl)) ?_)
  rintro e w52 ⟨_, rfl, ⟨A49, c50, rfl, hz51⟩, hb⟩
  refine ⟨_, rfl, ?_⟩
  clear henv a; intro a henv
  replace hst := (hst.call hb).addZ hz51 rfl
  clear hz51
  clear hb
  refine seq_step rfl (op_val (v := .tuple #[.agg #[.bool (neg ((x * 2 ^ n) / 2 ^ n)), .slice A49 (zl ((x * 2 ^ n) / 2 ^ n)) c50], .int .i64 0]) henv rfl (rn_move henv rfl) ?_)
  clear henv a; intro a henv
  refine seq_step rfl (op_val (v := .agg #[.bool (neg ((x * 2 ^ n) / 2 ^ n)), .slice A49 (zl ((x * 2 ^ n) / 2 ^ n)) c50]) henv rfl (rn_extract henv rfl rfl) ?_)
  clear henv a; intro a henv
  refine seq_step rfl (op_val (v := .int .i64 0) henv rfl (rn_extract henv rfl rfl) ?_)
  clear henv a; intro a henv
  refine seq_step rfl (op_alloc (c := #[.bool (neg 0), .slice none (zl 0) 0]) henv hst rfl zero_anvil_integer_Int zcells ?_)
  clear henv hst a; intro a w54 g53 henv hst
  refine seq_step rfl (op_store (k := 0) (c' := #[.bool (neg ((x * 2 ^ n) / 2 ^ n)), .slice A49 (zl ((x * 2 ^ n) / 2 ^ n)) c50]) henv hst (ty_anvil_integer_Int.size) rfl rfl rfl rfl (by simp) rfl rfl ?_)
  clear henv hst a; intro a w55 henv hst
  refine seq_step rfl (op_val (v := .int .i64 0) henv rfl (rn_assign henv rfl) ?_)
  clear henv a; intro a henv
  refine wpList_nil ?_
  refine th_n ?_
  refine wp_seq ?_
  refine wp_seq ?_
  refine region_seq ?_
  refine seq_step rfl (op_val (v := .int .i64 0) henv rfl (rn_move henv rfl) ?_)
  clear henv a; intro a henv
  refine seq_step rfl (op_val (v := .bool false) henv rfl (rn_bin henv rfl rfl rfl) ?_)
  clear henv a; intro a henv
  refine seq_step rfl (op_val (v := .bool false) henv rfl (rn_move henv rfl) ?_)
  clear henv a; intro a henv
  refine seq_g rfl henv rfl rfl (op_val (v := .agg #[.bool (neg ((x * 2 ^ n) / 2 ^ n)), .slice A49 (zl ((x * 2 ^ n) / 2 ^ n)) c50]) henv rfl (rn_load0 henv ty_anvil_integer_Int rfl (hst.oat (k := 0) rfl) rfl) ?_)
  clear henv a; intro a henv
  refine seq_g rfl henv rfl rfl (op_val (v := .agg #[.bool (neg x), .slice A10 (dl x) c11]) henv rfl (rn_load0 henv ty_anvil_anvilref02_Int rfl (hst.oat (k := 3) rfl) rfl) ?_)
  clear henv a; intro a henv
  refine seq_g rfl henv rfl rfl (op_call henv rfl Tryd.call28 rfl (is_same (z := (x * 2 ^ n) / 2 ^ n) (y := x) (show ZIn _ A49 c50 ((x * 2 ^ n) / 2 ^ n) from hst.pat (k := 0) rfl) (show RIn _ A10 c11 x from hst.pat (k := 5) rfl) (Int.mul_ediv_cancel _ pow_ne).symm (by rw [Int.mul_ediv_cancel _ pow_ne]; omega) (by rw [Int.mul_ediv_cancel _ pow_ne]; omega)) ?_)
  rintro e w56 ⟨rfl, hb⟩
  refine ⟨_, rfl, ?_⟩
  clear henv a; intro a henv
  replace hst := hst.call hb
  clear hb
  refine seq_g rfl henv rfl rfl (op_val (v := .bool false) henv rfl (rn_un henv rfl rfl) ?_)
  clear henv a; intro a henv
  refine seq_step rfl (op_val (v := .bool false) henv rfl (rn_pick henv rfl rfl) ?_)
  clear henv a; intro a henv
  refine wpList_nil ?_
  refine th_n ?_
  refine if_f henv rfl (rfl) ?_
  refine wp_skip ?_
  refine th_n ?_
  refine wp_seq ?_
  refine cut (fun a w => ∃ A58 : Option Addr, ∃ c59 : Nat, ∃ A62 : Option Addr, ∃ c63 : Nat, ∃ g66 : Nat, Env 152 a [(0, .agg #[.bool b0, .slice A0 n0 c0]), (1, .int .i64 (n : Nat)), (2, .pointer (some ⟨g1, 0, none⟩)), (4, .bool false), (16, .bool true), (17, .bool false), (18, .agg #[.bool b0, .slice A0 n0 c0]), (19, .slice (some ⟨g4, 0, none⟩) 1 1), (20, .bool false), (21, .bool false), (22, .int .i64 (n : Nat)), (23, .bool false), (24, .bool false), (25, undef), (26, undef), (27, .bool false), (28, .bool false), (30, .agg #[.bool b0, .slice A0 n0 c0]), (31, .tuple #[.agg #[.bool (neg x), .slice A7 (zl x) c8], .agg #[.bool (neg x), .slice A10 (dl x) c11]]), (29, .tuple #[.agg #[.bool (neg x), .slice A7 (zl x) c8], .agg #[.bool (neg x), .slice A10 (dl x) c11]]), (32, .agg #[.bool (neg x), .slice A7 (zl x) c8]), (33, .agg #[.bool (neg x), .slice A10 (dl x) c11]), (5, .pointer (some ⟨g14, 0, none⟩)), (6, .pointer (some ⟨g16, 0, none⟩)), (34, .agg #[.bool (neg x), .slice A7 (zl x) c8]), (36, .agg #[.bool (neg x), .slice A10 (dl x) c11]), (35, .int .i64 (k1 : Nat)), (37, .int .i64 (k2 : Nat)), (38, .bool false), (39, .bool false), (40, .agg #[.bool (neg x), .slice A7 (zl x) c8]), (42, .agg #[.bool (neg x), .slice A10 (dl x) c11]), (41, .int .i64 (blen x.natAbs : Nat)), (43, .int .i64 (blen x.natAbs : Nat)), (44, .bool false), (45, .bool false), (47, .agg #[.bool (neg x), .slice A7 (zl x) c8]), (48, .int .i64 (n : Nat)), (49, .tuple #[.agg #[.bool (neg (x * 2 ^ n)), .slice A25 (zl (x * 2 ^ n)) c26], .int .i64 0]), (46, .tuple #[.agg #[.bool (neg (x * 2 ^ n)), .slice A25 (zl (x * 2 ^ n)) c26], .int .i64 0]), (50, .agg #[.bool (neg (x * 2 ^ n)), .slice A25 (zl (x * 2 ^ n)) c26]), (51, .int .i64 0), (7, .pointer (some ⟨g29, 0, none⟩)), (8, .int .i64 0), (53, .agg #[.bool (neg x), .slice A7 (zl x) c8]), (54, .int .i64 (n : Nat)), (55, .tuple #[.agg #[.bool (neg (x / 2 ^ n)), .slice A32 (zl (x / 2 ^ n)) c33], .int .i64 0]), (52, .tuple #[.agg #[.bool (neg (x / 2 ^ n)), .slice A32 (zl (x / 2 ^ n)) c33], .int .i64 0]), (56, .agg #[.bool (neg (x / 2 ^ n)), .slice A32 (zl (x / 2 ^ n)) c33]), (57, .int .i64 0), (9, .pointer (some ⟨g36, 0, none⟩)), (10, .int .i64 0), (58, .int .i64 (n : Nat)), (59, .bool false), (74, .int .i64 (n : Nat)), (75, .bool false), (105, .int .i64 0), (106, .bool false), (107, .bool false), (108, .agg #[.bool (neg (x * 2 ^ n)), .slice A25 (zl (x * 2 ^ n)) c26]), (109, .agg #[.bool (neg x), .slice A10 (dl x) c11]), (110, .int .i64 (n : Nat)), (111, .agg #[.bool (neg (2 ^ n)), .slice A40 (dl (2 ^ n)) c41]), (112, .agg #[.bool (neg (x * (2 ^ n))), .slice A44 (dl (x * (2 ^ n))) c45]), (113, .bool true), (114, .bool false), (115, .bool false), (117, .agg #[.bool (neg (x * 2 ^ n)), .slice A25 (zl (x * 2 ^ n)) c26]), (118, .int .i64 (n : Nat)), (119, .tuple #[.agg #[.bool (neg ((x * 2 ^ n) / 2 ^ n)), .slice A49 (zl ((x * 2 ^ n) / 2 ^ n)) c50], .int .i64 0]), (116, .tuple #[.agg #[.bool (neg ((x * 2 ^ n) / 2 ^ n)), .slice A49 (zl ((x * 2 ^ n) / 2 ^ n)) c50], .int .i64 0]), (120, .agg #[.bool (neg ((x * 2 ^ n) / 2 ^ n)), .slice A49 (zl ((x * 2 ^ n) / 2 ^ n)) c50]), (121, .int .i64 0), (12, .pointer (some ⟨g53, 0, none⟩)), (13, .int .i64 0), (122, .int .i64 0), (123, .bool false), (124, .bool false), (125, .agg #[.bool (neg ((x * 2 ^ n) / 2 ^ n)), .slice A49 (zl ((x * 2 ^ n) / 2 ^ n)) c50]), (126, .agg #[.bool (neg x), .slice A10 (dl x) c11]), (127, .bool true), (128, .bool false), (129, .bool false), (14, .pointer (some ⟨g66, 0, none⟩)), (15, .bool true)] ∧ St w0 w [⟨g66, #[.bool (neg (x / 2 ^ n)), .slice A62 (dl (x / 2 ^ n)) c63], 30⟩, ⟨g53, #[.bool (neg ((x * 2 ^ n) / 2 ^ n)), .slice A49 (zl ((x * 2 ^ n) / 2 ^ n)) c50], 28⟩, ⟨g36, #[.bool (neg (x / 2 ^ n)), .slice A32 (zl (x / 2 ^ n)) c33], 28⟩, ⟨g29, #[.bool (neg (x * 2 ^ n)), .slice A25 (zl (x * 2 ^ n)) c26], 28⟩, ⟨g16, #[.bool (neg x), .slice A10 (dl x) c11], 30⟩, ⟨g14, #[.bool (neg x), .slice A7 (zl x) c8], 28⟩, ⟨g4, #[.bool b0, .slice A0 n0 c0], 24⟩, ⟨g1, #[.bool b0, .slice A0 n0 c0], 24⟩] [pfR A62 c63 (x / 2 ^ n), pfR A58 c59 (2 ^ n), pfZ A49 c50 ((x * 2 ^ n) / 2 ^ n), pfR A44 c45 (x * (2 ^ n)), pfR A40 c41 (2 ^ n), pfZ A32 c33 (x / 2 ^ n), pfZ A25 c26 (x * 2 ^ n), pfR A10 c11 x, pfZ A7 c8 x, pfU A0 n0 c0 xs0, pfT, pfZ none 0 0]) ?_ ?_
  · refine region_any (n := 10) (Sk [⟨g53, #[.bool (neg ((x * 2 ^ n) / 2 ^ n)), .slice A49 (zl ((x * 2 ^ n) / 2 ^ n)) c50], 28⟩, ⟨g36, #[.bool (neg (x / 2 ^ n)), .slice A32 (zl (x / 2 ^ n)) c33], 28⟩, ⟨g29, #[.bool (neg (x * 2 ^ n)), .slice A25 (zl (x * 2 ^ n)) c26], 28⟩, ⟨g16, #[.bool (neg x), .slice A10 (dl x) c11], 30⟩, ⟨g14, #[.bool (neg x), .slice A7 (zl x) c8], 28⟩, ⟨g4, #[.bool b0, .slice A0 n0 c0], 24⟩, ⟨g1, #[.bool b0, .slice A0 n0 c0], 24⟩] [pfZ A49 c50 ((x * 2 ^ n) / 2 ^ n), pfR A44 c45 (x * (2 ^ n)), pfR A40 c41 (2 ^ n), pfZ A32 c33 (x / 2 ^ n), pfZ A25 c26 (x * 2 ^ n), pfR A10 c11 x, pfZ A7 c8 x, pfU A0 n0 c0 xs0, pfT, pfZ none 0 0] [8] []) mixed rfl henv hst ?_
    clear henv hst; intro w57 henv hst
    refine sAny_take (i := 0) [3, 4, 5, 6, 8, 9] (fun w' => w'.heap[g16]? = some (.cells #[.bool (neg x), .slice A10 (dl x) c11] 30 (0, 0))) (v := .agg #[.bool (neg x), .slice A10 (dl x) c11]) rfl (by kernel_rfl) (fun _ _ _ h => h) (fun _ _ _ hS => hS.1.oat (k := 3) rfl) henv rfl (hst.oat (k := 3) rfl) (fun w' hg => rn_load0 henv ty_anvil_anvilref02_Int rfl hg rfl) ?_
    clear henv a; intro a henv
    refine sAny_take (i := 1) [2, 3, 4, 5, 6, 8, 9] (fun _ => True) (v := .int .i64 (n : Nat)) rfl (by kernel_rfl) (fun _ _ _ h => h) (fun _ _ _ _ => trivial) henv rfl trivial (fun w' _ => rn_move henv rfl) ?_
    clear henv a; intro a henv
    refine sAny_all (rs := [2, 7]) (by kernel_rfl) (by simp) ?_
    simp only [List.forall_mem_cons, List.not_mem_nil, false_implies, implies_true, and_true]
    refine ⟨?_, ?_⟩
    · refine ⟨_, rfl, rfl, op_call henv rfl Tryd.call30 rfl (power_r (n := n) (by omega)) ?_⟩
      rintro e w61 ⟨_, rfl, ⟨A58, c59, rfl, hz60⟩, hb⟩
      refine ⟨_, rfl, ?_⟩
      clear henv a; intro a henv
      replace hst := (hst.call hb).addR hz60 rfl
      clear hz60
      clear hb
      refine ⟨.inr ⟨hst.kn.pick [0, 1, 2, 3, 4, 5, 6] [1, 2, 3, 4, 5, 6, 7, 8, 9, 10], .inr (hst.kn.pick [] [])⟩, ?_⟩
      refine sAny_all (rs := [3, 7]) (by kernel_rfl) (by simp) ?_
      simp only [List.forall_mem_cons, List.not_mem_nil, false_implies, implies_true, and_true]
      refine ⟨?_, ?_⟩
      · refine ⟨_, rfl, rfl, op_call henv rfl Tryd.call31 rfl (over_r (x := x) (y := 2 ^ n) (show RIn _ A10 c11 x from hst.pat (k := 6) rfl) (show RIn _ A58 c59 (2 ^ n) from hst.pat (k := 0) rfl) (by omega) hpd pow_ne hmod) ?_⟩
        rintro e w65 ⟨_, rfl, ⟨A62, c63, rfl, hz64⟩, hb⟩
        refine ⟨_, rfl, ?_⟩
        clear henv a; intro a henv
        replace hst := (hst.call hb).addR hz64 rfl
        clear hz64
        clear hb
        refine ⟨.inr ⟨hst.kn.pick [0, 1, 2, 3, 4, 5, 6] [2, 3, 4, 5, 6, 7, 8, 9, 10, 11], .inr (hst.kn.pick [] [])⟩, ?_⟩
        refine sAny_take (i := 4) [5, 6, 8, 9] (fun _ => True) (v := .tuple #[.agg #[.bool (neg (x / 2 ^ n)), .slice A62 (dl (x / 2 ^ n)) c63], .bool true]) rfl (by kernel_rfl) (fun _ _ _ h => h) (fun _ _ _ _ => trivial) henv rfl trivial (fun w' _ => rn_move henv rfl) ?_
        clear henv a; intro a henv
        refine sAny_take (i := 5) [8, 9] (fun _ => True) (v := .agg #[.bool (neg (x / 2 ^ n)), .slice A62 (dl (x / 2 ^ n)) c63]) rfl (by kernel_rfl) (fun _ _ _ h => h) (fun _ _ _ _ => trivial) henv rfl trivial (fun w' _ => rn_extract henv rfl rfl) ?_
        clear henv a; intro a henv
        refine sAny_take (i := 6) [9] (fun _ => True) (v := .bool true) rfl (by kernel_rfl) (fun _ _ _ h => h) (fun _ _ _ _ => trivial) henv rfl trivial (fun w' _ => rn_extract henv rfl rfl) ?_
        clear henv a; intro a henv
        refine sAny_one (i := 7) (by kernel_rfl) rfl rfl (op_alloc (c := #[.bool (neg 0), .slice none (dl 0) 0]) henv hst rfl zero_anvil_anvilref02_Int rcells ?_)
        clear henv hst a; intro a w67 g66 henv hst
        refine ⟨.inr ⟨hst.kn.pick [1, 2, 3, 4, 5, 6, 7] [2, 3, 4, 5, 6, 7, 8, 9, 10, 11], .inr (hst.kn.pick [] [])⟩, ?_⟩
        refine sAny_one (i := 8) (by kernel_rfl) rfl rfl (op_store (k := 0) (c' := #[.bool (neg (x / 2 ^ n)), .slice A62 (dl (x / 2 ^ n)) c63]) henv hst (ty_anvil_anvilref02_Int.size) rfl rfl rfl rfl (by simp) rfl rfl ?_)
        clear henv hst a; intro a w68 henv hst
        refine ⟨.inr ⟨hst.kn.pick [1, 2, 3, 4, 5, 6, 7] [2, 3, 4, 5, 6, 7, 8, 9, 10, 11], .inl rfl⟩, ?_⟩
        refine sAny_take (i := 9) [] (fun _ => True) (v := .bool true) rfl (by kernel_rfl) (fun _ _ _ h => h) (fun _ _ _ _ => trivial) henv rfl trivial (fun w' _ => rn_assign henv rfl) ?_
        clear henv a; intro a henv
        refine sAny_done (by kernel_rfl) ?_ _
        exact th_n ⟨A58, c59, A62, c63, g66, henv.sub ⟨rfl, rfl, rfl, rfl, rfl, rfl, rfl, rfl, rfl, rfl, rfl, rfl, rfl, rfl, rfl, rfl, rfl, rfl, rfl, rfl, rfl, rfl, rfl, rfl, rfl, rfl, rfl, rfl, rfl, rfl, rfl, rfl, rfl, rfl, rfl, rfl, rfl, rfl, rfl, rfl, rfl, rfl, rfl, rfl, rfl, rfl, rfl, rfl, rfl, rfl, rfl, rfl, rfl, rfl, rfl, rfl, rfl, rfl, rfl, rfl, rfl, rfl, rfl, rfl, rfl, rfl, rfl, rfl, rfl, rfl, rfl, rfl, rfl, rfl, rfl, rfl, rfl, rfl, rfl, rfl, rfl, rfl, rfl, rfl, rfl, trivial⟩, hst.pick [0, 1, 2, 3, 4, 5, 6, 7] [0, 1, 2, 3, 4, 5, 6, 7, 8, 9, 10, 11] (by decide)⟩
      · refine ⟨_, rfl, rfl, op_alloc (c := #[.bool (neg 0), .slice none (dl 0) 0]) henv hst rfl zero_anvil_anvilref02_Int rcells ?_⟩
        clear henv hst a; intro a w70 g69 henv hst
        refine ⟨.inr ⟨hst.kn.pick [1, 2, 3, 4, 5, 6, 7] [1, 2, 3, 4, 5, 6, 7, 8, 9, 10], .inr (hst.kn.pick [] [])⟩, ?_⟩
        refine sAny_one (i := 3) (by kernel_rfl) rfl rfl (op_call henv rfl Tryd.call31 rfl (over_r (x := x) (y := 2 ^ n) (show RIn _ A10 c11 x from hst.pat (k := 6) rfl) (show RIn _ A58 c59 (2 ^ n) from hst.pat (k := 0) rfl) (by omega) hpd pow_ne hmod) ?_)
        rintro e w74 ⟨_, rfl, ⟨A71, c72, rfl, hz73⟩, hb⟩
        refine ⟨_, rfl, ?_⟩
        clear henv a; intro a henv
        replace hst := (hst.call hb).addR hz73 rfl
        clear hz73
        clear hb
        refine ⟨.inr ⟨hst.kn.pick [1, 2, 3, 4, 5, 6, 7] [2, 3, 4, 5, 6, 7, 8, 9, 10, 11], .inr (hst.kn.pick [] [])⟩, ?_⟩
        refine sAny_take (i := 4) [5, 6, 8, 9] (fun _ => True) (v := .tuple #[.agg #[.bool (neg (x / 2 ^ n)), .slice A71 (dl (x / 2 ^ n)) c72], .bool true]) rfl (by kernel_rfl) (fun _ _ _ h => h) (fun _ _ _ _ => trivial) henv rfl trivial (fun w' _ => rn_move henv rfl) ?_
        clear henv a; intro a henv
        refine sAny_take (i := 5) [8, 9] (fun _ => True) (v := .agg #[.bool (neg (x / 2 ^ n)), .slice A71 (dl (x / 2 ^ n)) c72]) rfl (by kernel_rfl) (fun _ _ _ h => h) (fun _ _ _ _ => trivial) henv rfl trivial (fun w' _ => rn_extract henv rfl rfl) ?_
        clear henv a; intro a henv
        refine sAny_take (i := 6) [9] (fun _ => True) (v := .bool true) rfl (by kernel_rfl) (fun _ _ _ h => h) (fun _ _ _ _ => trivial) henv rfl trivial (fun w' _ => rn_extract henv rfl rfl) ?_
        clear henv a; intro a henv
        refine sAny_one (i := 8) (by kernel_rfl) rfl rfl (op_store (k := 0) (c' := #[.bool (neg (x / 2 ^ n)), .slice A71 (dl (x / 2 ^ n)) c72]) henv hst (ty_anvil_anvilref02_Int.size) rfl rfl rfl rfl (by simp) rfl rfl ?_)
        clear henv hst a; intro a w75 henv hst
        refine ⟨.inr ⟨hst.kn.pick [1, 2, 3, 4, 5, 6, 7] [2, 3, 4, 5, 6, 7, 8, 9, 10, 11], .inl rfl⟩, ?_⟩
        refine sAny_take (i := 9) [] (fun _ => True) (v := .bool true) rfl (by kernel_rfl) (fun _ _ _ h => h) (fun _ _ _ _ => trivial) henv rfl trivial (fun w' _ => rn_assign henv rfl) ?_
        clear henv a; intro a henv
        refine sAny_done (by kernel_rfl) ?_ _
        exact th_n ⟨A58, c59, A71, c72, g69, henv.sub ⟨rfl, rfl, rfl, rfl, rfl, rfl, rfl, rfl, rfl, rfl, rfl, rfl, rfl, rfl, rfl, rfl, rfl, rfl, rfl, rfl, rfl, rfl, rfl, rfl, rfl, rfl, rfl, rfl, rfl, rfl, rfl, rfl, rfl, rfl, rfl, rfl, rfl, rfl, rfl, rfl, rfl, rfl, rfl, rfl, rfl, rfl, rfl, rfl, rfl, rfl, rfl, rfl, rfl, rfl, rfl, rfl, rfl, rfl, rfl, rfl, rfl, rfl, rfl, rfl, rfl, rfl, rfl, rfl, rfl, rfl, rfl, rfl, rfl, rfl, rfl, rfl, rfl, rfl, rfl, rfl, rfl, rfl, rfl, rfl, rfl, trivial⟩, hst.pick [0, 1, 2, 3, 4, 5, 6, 7] [0, 1, 2, 3, 4, 5, 6, 7, 8, 9, 10, 11] (by decide)⟩
    · refine ⟨_, rfl, rfl, op_alloc (c := #[.bool (neg 0), .slice none (dl 0) 0]) henv hst rfl zero_anvil_anvilref02_Int rcells ?_⟩
      clear henv hst a; intro a w77 g76 henv hst
      refine ⟨.inr ⟨hst.kn.pick [1, 2, 3, 4, 5, 6, 7] [0, 1, 2, 3, 4, 5, 6, 7, 8, 9], .inr (hst.kn.pick [] [])⟩, ?_⟩
      refine sAny_one (i := 2) (by kernel_rfl) rfl rfl (op_call henv rfl Tryd.call30 rfl (power_r (n := n) (by omega)) ?_)
      rintro e w81 ⟨_, rfl, ⟨A78, c79, rfl, hz80⟩, hb⟩
      refine ⟨_, rfl, ?_⟩
      clear henv a; intro a henv
      replace hst := (hst.call hb).addR hz80 rfl
      clear hz80
      clear hb
      refine ⟨.inr ⟨hst.kn.pick [1, 2, 3, 4, 5, 6, 7] [1, 2, 3, 4, 5, 6, 7, 8, 9, 10], .inr (hst.kn.pick [] [])⟩, ?_⟩
      refine sAny_one (i := 3) (by kernel_rfl) rfl rfl (op_call henv rfl Tryd.call31 rfl (over_r (x := x) (y := 2 ^ n) (show RIn _ A10 c11 x from hst.pat (k := 6) rfl) (show RIn _ A78 c79 (2 ^ n) from hst.pat (k := 0) rfl) (by omega) hpd pow_ne hmod) ?_)
      rintro e w85 ⟨_, rfl, ⟨A82, c83, rfl, hz84⟩, hb⟩
      refine ⟨_, rfl, ?_⟩
      clear henv a; intro a henv
      replace hst := (hst.call hb).addR hz84 rfl
      clear hz84
      clear hb
      refine ⟨.inr ⟨hst.kn.pick [1, 2, 3, 4, 5, 6, 7] [2, 3, 4, 5, 6, 7, 8, 9, 10, 11], .inr (hst.kn.pick [] [])⟩, ?_⟩
      refine sAny_take (i := 4) [5, 6, 8, 9] (fun _ => True) (v := .tuple #[.agg #[.bool (neg (x / 2 ^ n)), .slice A82 (dl (x / 2 ^ n)) c83], .bool true]) rfl (by kernel_rfl) (fun _ _ _ h => h) (fun _ _ _ _ => trivial) henv rfl trivial (fun w' _ => rn_move henv rfl) ?_
      clear henv a; intro a henv
      refine sAny_take (i := 5) [8, 9] (fun _ => True) (v := .agg #[.bool (neg (x / 2 ^ n)), .slice A82 (dl (x / 2 ^ n)) c83]) rfl (by kernel_rfl) (fun _ _ _ h => h) (fun _ _ _ _ => trivial) henv rfl trivial (fun w' _ => rn_extract henv rfl rfl) ?_
      clear henv a; intro a henv
      refine sAny_take (i := 6) [9] (fun _ => True) (v := .bool true) rfl (by kernel_rfl) (fun _ _ _ h => h) (fun _ _ _ _ => trivial) henv rfl trivial (fun w' _ => rn_extract henv rfl rfl) ?_
      clear henv a; intro a henv
      refine sAny_one (i := 8) (by kernel_rfl) rfl rfl (op_store (k := 0) (c' := #[.bool (neg (x / 2 ^ n)), .slice A82 (dl (x / 2 ^ n)) c83]) henv hst (ty_anvil_anvilref02_Int.size) rfl rfl rfl rfl (by simp) rfl rfl ?_)
      clear henv hst a; intro a w86 henv hst
      refine ⟨.inr ⟨hst.kn.pick [1, 2, 3, 4, 5, 6, 7] [2, 3, 4, 5, 6, 7, 8, 9, 10, 11], .inl rfl⟩, ?_⟩
      refine sAny_take (i := 9) [] (fun _ => True) (v := .bool true) rfl (by kernel_rfl) (fun _ _ _ h => h) (fun _ _ _ _ => trivial) henv rfl trivial (fun w' _ => rn_assign henv rfl) ?_
      clear henv a; intro a henv
      refine sAny_done (by kernel_rfl) ?_ _
      exact th_n ⟨A78, c79, A82, c83, g76, henv.sub ⟨rfl, rfl, rfl, rfl, rfl, rfl, rfl, rfl, rfl, rfl, rfl, rfl, rfl, rfl, rfl, rfl, rfl, rfl, rfl, rfl, rfl, rfl, rfl, rfl, rfl, rfl, rfl, rfl, rfl, rfl, rfl, rfl, rfl, rfl, rfl, rfl, rfl, rfl, rfl, rfl, rfl, rfl, rfl, rfl, rfl, rfl, rfl, rfl, rfl, rfl, rfl, rfl, rfl, rfl, rfl, rfl, rfl, rfl, rfl, rfl, rfl, rfl, rfl, rfl, rfl, rfl, rfl, rfl, rfl, rfl, rfl, rfl, rfl, rfl, rfl, rfl, rfl, rfl, rfl, rfl, rfl, rfl, rfl, rfl, rfl, trivial⟩, hst.pick [0, 1, 2, 3, 4, 5, 6, 7] [0, 1, 2, 3, 4, 5, 6, 7, 8, 9, 10, 11] (by decide)⟩
  clear henv hst a
  rintro a w87 ⟨A58, c59, A62, c63, g66, henv, hst⟩
  refine wp_seq ?_
  refine wp_seq ?_
  refine region_seq ?_
  refine seq_step rfl (op_val (v := .bool true) henv rfl (rn_move henv rfl) ?_)
  clear henv a; intro a henv
  refine seq_step rfl (op_val (v := .bool false) henv rfl (rn_un henv rfl rfl) ?_)
  clear henv a; intro a henv
  refine wpList_nil ?_
  refine th_n ?_
  refine if_f henv rfl (rfl) ?_
  refine wp_skip ?_
  refine th_n ?_
  refine wp_seq ?_
  refine region_seq ?_
  refine seq_step rfl (op_val (v := .int .i64 0) henv rfl (rn_move henv rfl) ?_)
  clear henv a; intro a henv
  refine seq_step rfl (op_val (v := .bool true) henv rfl (rn_bin henv rfl rfl rfl) ?_)
  clear henv a; intro a henv
  refine seq_step rfl (op_val (v := .bool true) henv rfl (rn_move henv rfl) ?_)
  clear henv a; intro a henv
  refine seq_g rfl henv rfl rfl (op_val (v := .agg #[.bool (neg (x / 2 ^ n)), .slice A32 (zl (x / 2 ^ n)) c33]) henv rfl (rn_load0 henv ty_anvil_integer_Int rfl (hst.oat (k := 2) rfl) rfl) ?_)
  clear henv a; intro a henv
  refine seq_g rfl henv rfl rfl (op_val (v := .agg #[.bool (neg (x / 2 ^ n)), .slice A62 (dl (x / 2 ^ n)) c63]) henv rfl (rn_load0 henv ty_anvil_anvilref02_Int rfl (hst.oat (k := 0) rfl) rfl) ?_)
  clear henv a; intro a henv
  refine seq_g rfl henv rfl rfl (op_call henv rfl Tryd.call28 rfl (is_same (z := x / 2 ^ n) (y := x / 2 ^ n) (show ZIn _ A32 c33 (x / 2 ^ n) from hst.pat (k := 5) rfl) (show RIn _ A62 c63 (x / 2 ^ n) from hst.pat (k := 0) rfl) rfl (Nat.le_trans (zl_ediv _ _) (by omega)) (Nat.le_trans (dl_ediv _ _) (by omega))) ?_)
  rintro e w88 ⟨rfl, hb⟩
  refine ⟨_, rfl, ?_⟩
  clear henv a; intro a henv
  replace hst := hst.call hb
  clear hb
  refine seq_step rfl (op_val (v := .bool true) henv rfl (rn_pick henv rfl rfl) ?_)
  clear henv a; intro a henv
  refine seq_step rfl (op_val (v := .bool true) henv rfl (rn_assign henv rfl) ?_)
  clear henv a; intro a henv
  refine wpList_nil ?_
  refine th_n ?_
  refine wp_ret ?_
  refine leave henv (res1 Tryd.results3 (RV.tmp henv rfl)) ?_
  exact ⟨rfl, hst.below⟩

set_option maxRecDepth 100000 in
set_option maxHeartbeats 4000000 in
theorem law_C2 {b0 : Bool} {A0 : Option Addr} {n0 c0 : Nat} {xs0 : List Nat} {x : Int} {n : Nat} {w0 : World} (h0 : U32 w0 A0 n0 c0 xs0) (hs0 : n0 ≤ 60) (hz0 : sg b0 (val 4294967296 xs0) = x) (hT : Deb w0) (hi : n ≤ 3000) (hx0 : x ≠ 0) (hd : ¬ (2 : Int) ^ n ∣ x) :
    Calls Tryd.prog 3 #[.agg #[.bool b0, .slice A0 n0 c0], .int .i64 (n : Nat)] w0 fun e w' => e = .returned (.bool true) ∧ Below w0.heap.size w0 w' := by
  have hx60 : zl x ≤ 60 := by have := given_bd (b := b0) h0; rw [hz0] at this; omega
  have hdx := dl_zl x
  have hpd : dl (2 ^ n) ≤ 1000 := dl_pow2 hi
  have hsh : zl (x * 2 ^ n) ≤ 1000000 := zl_shl2 hx60 hi
  have hdsh : dl (x * 2 ^ n) ≤ 1000000 := by have := dl_mul x (2 ^ n); omega
  have pow_ne : (2 : Int) ^ n ≠ 0 := by have := pow_pos2 n; omega
  have hne : x * 2 ^ n ≠ 0 := Int.mul_ne_zero hx0 pow_ne
  have hnd : ¬ x % 2 ^ n = 0 := fun h => hd (Int.dvd_of_emod_eq_zero h)
  have hno : ∀ k, IsTz x.natAbs k → (k : Int) < (n : Nat) := fun k hk => tz_no hk hd
  refine enter Tryd.func3 rfl Tryd.ntmps3 rfl ?_
  intro a henv hst
  replace hst := (hst.addZ (zin_none _) rfl).addT hT hT
  replace hst := hst.addU h0 rfl
  have hL0 := Nat.le_trans h0.cap h0.big
  clear h0
  refine wp_seq ?_
  refine region_seq ?_
  refine seq_step rfl (op_box (c := #[.bool b0, .slice A0 n0 c0]) henv hst rfl rfl rfl ?_)
  clear henv hst a; intro a w2 g1 henv hst
  refine seq_step rfl (op_val (v := .bool false) henv rfl (rn_assign henv rfl) ?_)
  clear henv a; intro a henv
  refine wpList_nil ?_
  refine th_n ?_
  refine wp_seq ?_
  refine wp_seq ?_
  refine region_seq ?_
  refine seq_step rfl (op_call henv rfl Tryd.call17 rfl (live_true _) ?_)
  rintro e w3 ⟨rfl, hb⟩
  refine ⟨_, rfl, ?_⟩
  clear henv a; intro a henv
  replace hst := hst.call hb
  clear hb
  refine seq_step rfl (op_val (v := .bool false) henv rfl (rn_un henv rfl rfl) ?_)
  clear henv a; intro a henv
  refine wpList_nil ?_
  refine th_n ?_
  refine if_f henv rfl (rfl) ?_
  refine wp_skip ?_
  refine th_n ?_
  refine wp_seq ?_
  refine wp_seq ?_
  refine region_seq ?_
  refine seq_step rfl (op_val (v := .agg #[.bool b0, .slice A0 n0 c0]) henv rfl (rn_load0 henv ty_anvil_anvillaw02_Num rfl (hst.oat (k := 0) rfl) rfl) ?_)
  clear henv a; intro a henv
  refine seq_step rfl (op_buildSlice (z := 2) (pv := #[(0, .agg #[.bool b0, .slice A0 n0 c0])]) (c := #[.bool b0, .slice A0 n0 c0]) henv hst rfl Tryd.underlying95 (ty_anvil_anvillaw02_Num.size) zero_anvil_anvillaw02_Num (by decide) (by decide) rfl (by kernel_rfl) ?_)
  clear henv hst a; intro a w5 g4 henv hst
  refine seq_step rfl (op_call henv rfl Tryd.call18 rfl (long_own1 (hst.oat (k := 0) rfl) hL0 false (by simp; omega)) ?_)
  rintro e w6 ⟨rfl, hb⟩
  refine ⟨_, rfl, ?_⟩
  clear henv a; intro a henv
  replace hst := hst.call hb
  clear hb
  refine seq_step rfl (op_val (v := .bool false) henv rfl (rn_move henv rfl) ?_)
  clear henv a; intro a henv
  refine seq_g rfl henv rfl rfl (op_val (v := .int .i64 (n : Nat)) henv rfl (rn_move henv rfl) ?_)
  clear henv a; intro a henv
  refine seq_g rfl henv rfl rfl (op_val (v := .bool (decide (((n : Nat) : Int) > (3000 : Int)))) henv rfl (rn_bin henv rfl rfl rfl) ?_)
  clear henv a; intro a henv
  rw [show (decide (((n : Nat) : Int) > (3000 : Int))) = false from (decide_eq_false (by omega))] at henv
  refine seq_g rfl henv rfl rfl (op_val (v := .bool false) henv rfl (rn_move henv rfl) ?_)
  clear henv a; intro a henv
  refine seq_skip rfl henv rfl rfl rfl rfl ?_
  clear henv a; intro a henv
  refine seq_skip rfl henv rfl rfl rfl rfl ?_
  clear henv a; intro a henv
  refine seq_g rfl henv rfl rfl (op_val (v := .bool false) henv rfl (rn_pick henv rfl rfl) ?_)
  clear henv a; intro a henv
  refine seq_step rfl (op_val (v := .bool false) henv rfl (rn_pick henv rfl rfl) ?_)
  clear henv a; intro a henv
  refine wpList_nil ?_
  refine th_n ?_
  refine if_f henv rfl (rfl) ?_
  refine wp_skip ?_
  refine th_n ?_
  refine wp_seq ?_
  refine region_seq ?_
  refine seq_step rfl (op_val (v := .agg #[.bool b0, .slice A0 n0 c0]) henv rfl (rn_load0 henv ty_anvil_anvillaw02_Num rfl (hst.oat (k := 1) rfl) rfl) ?_)
  clear henv a; intro a henv
  refine seq_step rfl (op_call henv rfl Tryd.call19 rfl (of_given (z := x) (show U32 _ A0 n0 c0 xs0 from hst.pat (k := 0) rfl) hs0 hz0) ?_)
  rintro e w13 ⟨_, _, rfl, ⟨A7, c8, rfl, hz9⟩, ⟨A10, c11, rfl, hz12⟩, hb⟩
  refine ⟨_, rfl, ?_⟩
  clear henv a; intro a henv
  replace hst := ((hst.call hb).addZ hz9 rfl).addR hz12 rfl
  clear hz9 hz12
  clear hb
  refine seq_step rfl (op_val (v := .tuple #[.agg #[.bool (neg x), .slice A7 (zl x) c8], .agg #[.bool (neg x), .slice A10 (dl x) c11]]) henv rfl (rn_move henv rfl) ?_)
  clear henv a; intro a henv
  refine seq_step rfl (op_val (v := .agg #[.bool (neg x), .slice A7 (zl x) c8]) henv rfl (rn_extract henv rfl rfl) ?_)
  clear henv a; intro a henv
  refine seq_step rfl (op_val (v := .agg #[.bool (neg x), .slice A10 (dl x) c11]) henv rfl (rn_extract henv rfl rfl) ?_)
  clear henv a; intro a henv
  refine seq_step rfl (op_alloc (c := #[.bool (neg 0), .slice none (zl 0) 0]) henv hst rfl zero_anvil_integer_Int zcells ?_)
  clear henv hst a; intro a w15 g14 henv hst
  refine seq_step rfl (op_alloc (c := #[.bool (neg 0), .slice none (dl 0) 0]) henv hst rfl zero_anvil_anvilref02_Int rcells ?_)
  clear henv hst a; intro a w17 g16 henv hst
  refine seq_step rfl (op_store (k := 1) (c' := #[.bool (neg x), .slice A7 (zl x) c8]) henv hst (ty_anvil_integer_Int.size) rfl rfl rfl rfl (by simp) rfl rfl ?_)
  clear henv hst a; intro a w18 henv hst
  refine seq_step rfl (op_store (k := 0) (c' := #[.bool (neg x), .slice A10 (dl x) c11]) henv hst (ty_anvil_anvilref02_Int.size) rfl rfl rfl rfl (by simp) rfl rfl ?_)
  clear henv hst a; intro a w19 henv hst
  refine wpList_nil ?_
  refine th_n ?_
  refine wp_seq ?_
  refine wp_seq ?_
  refine region_any (n := 12) (Sk [⟨g16, #[.bool (neg x), .slice A10 (dl x) c11], 30⟩, ⟨g14, #[.bool (neg x), .slice A7 (zl x) c8], 28⟩, ⟨g4, #[.bool b0, .slice A0 n0 c0], 24⟩, ⟨g1, #[.bool b0, .slice A0 n0 c0], 24⟩] [pfR A10 c11 x, pfZ A7 c8 x, pfU A0 n0 c0 xs0, pfT, pfZ none 0 0] [] []) mixed rfl henv hst ?_
  clear henv hst; intro w20 henv hst
  refine sAny_take (i := 0) [1, 3, 4, 5, 6, 7, 8, 9, 10, 11] (fun w' => w'.heap[g14]? = some (.cells #[.bool (neg x), .slice A7 (zl x) c8] 28 (0, 0))) (v := .agg #[.bool (neg x), .slice A7 (zl x) c8]) rfl (by kernel_rfl) (fun _ _ _ h => h) (fun _ _ _ hS => hS.1.oat (k := 1) rfl) henv rfl (hst.oat (k := 1) rfl) (fun w' hg => rn_load0 henv ty_anvil_integer_Int rfl hg rfl) ?_
  clear henv a; intro a henv
  refine sAny_take (i := 2) [3, 4, 5, 6, 7, 8, 9, 10, 11] (fun w' => w'.heap[g16]? = some (.cells #[.bool (neg x), .slice A10 (dl x) c11] 30 (0, 0))) (v := .agg #[.bool (neg x), .slice A10 (dl x) c11]) rfl (by kernel_rfl) (fun _ _ _ h => h) (fun _ _ _ hS => hS.1.oat (k := 0) rfl) henv rfl (hst.oat (k := 0) rfl) (fun w' hg => rn_load0 henv ty_anvil_anvilref02_Int rfl hg rfl) ?_
  clear henv a; intro a henv
  refine sAny_one (i := 1) (by kernel_rfl) rfl rfl (op_call henv rfl Tryd.call20 rfl (twos_z (x := x) (show ZIn _ A7 c8 x from hst.pat (k := 1) rfl) (by omega) hx0 (show Deb _ from hst.pat (k := 3) rfl)) ?_)
  rintro e w21 ⟨k1, rfl, ht1, hb⟩
  refine ⟨_, rfl, ?_⟩
  clear henv a; intro a henv
  replace hst := hst.call hb
  clear hb
  refine ⟨.inr ⟨hst.kn.pick [0, 1, 2, 3] [0, 1, 2, 3, 4], .inr (hst.kn.pick [] [])⟩, ?_⟩
  refine sAny_one (i := 3) (by kernel_rfl) rfl rfl (op_call henv rfl Tryd.call21 rfl (twos_r (x := x) (show RIn _ A10 c11 x from hst.pat (k := 0) rfl) (by omega) hx0) ?_)
  rintro e w22 ⟨k2, rfl, ht2, hb⟩
  refine ⟨_, rfl, ?_⟩
  clear henv a; intro a henv
  replace hst := hst.call hb
  clear hb
  refine ⟨.inr ⟨hst.kn.pick [0, 1, 2, 3] [0, 1, 2, 3, 4], .inr (hst.kn.pick [] [])⟩, ?_⟩
  refine sAny_take (i := 4) [5, 6, 7, 8, 9, 10, 11] (fun _ => True) (v := .bool (((k1 : Nat) : Int) != ((k2 : Nat) : Int))) rfl (by kernel_rfl) (fun _ _ _ h => h) (fun _ _ _ _ => trivial) henv rfl trivial (fun w' _ => rn_bin henv rfl rfl rfl) ?_
  clear henv a; intro a henv
  rw [show (((k1 : Nat) : Int) != ((k2 : Nat) : Int)) = false from (by rw [IsTz.uniq ht1 ht2]; simp)] at henv
  refine sAny_take (i := 5) [6, 7, 8, 9, 10, 11] (fun _ => True) (v := .bool false) rfl (by kernel_rfl) (fun _ _ _ h => h) (fun _ _ _ _ => trivial) henv rfl trivial (fun w' _ => rn_move henv rfl) ?_
  clear henv a; intro a henv
  refine sAny_takeg (i := 6) [7, 9, 10, 11] (fun w' => w'.heap[g14]? = some (.cells #[.bool (neg x), .slice A7 (zl x) c8] 28 (0, 0))) (v := .agg #[.bool (neg x), .slice A7 (zl x) c8]) rfl (by kernel_rfl) (fun _ _ _ h => h) (fun _ _ _ hS => hS.1.oat (k := 1) rfl) henv rfl rfl rfl rfl (hst.oat (k := 1) rfl) (fun w' hg => rn_load0 henv ty_anvil_integer_Int rfl hg rfl) ?_
  clear henv a; intro a henv
  refine sAny_takeg (i := 8) [9, 10, 11] (fun w' => w'.heap[g16]? = some (.cells #[.bool (neg x), .slice A10 (dl x) c11] 30 (0, 0))) (v := .agg #[.bool (neg x), .slice A10 (dl x) c11]) rfl (by kernel_rfl) (fun _ _ _ h => h) (fun _ _ _ hS => hS.1.oat (k := 0) rfl) henv rfl rfl rfl rfl (hst.oat (k := 0) rfl) (fun w' hg => rn_load0 henv ty_anvil_anvilref02_Int rfl hg rfl) ?_
  clear henv a; intro a henv
  refine sAny_oneg (i := 7) (by kernel_rfl) rfl rfl henv rfl rfl rfl (op_call henv rfl Tryd.call22 rfl (bits_z (z := x) (show ZIn _ A7 c8 x from hst.pat (k := 1) rfl) (by omega)) ?_)
  rintro e w23 ⟨rfl, hb⟩
  refine ⟨_, rfl, ?_⟩
  clear henv a; intro a henv
  replace hst := hst.call hb
  clear hb
  refine ⟨.inr ⟨hst.kn.pick [0, 1, 2, 3] [0, 1, 2, 3, 4], .inr (hst.kn.pick [] [])⟩, ?_⟩
  refine sAny_oneg (i := 9) (by kernel_rfl) rfl rfl henv rfl rfl rfl (op_call henv rfl Tryd.call23 rfl (bits_r (z := x) (show RIn _ A10 c11 x from hst.pat (k := 0) rfl) (by omega)) ?_)
  rintro e w24 ⟨rfl, hb⟩
  refine ⟨_, rfl, ?_⟩
  clear henv a; intro a henv
  replace hst := hst.call hb
  clear hb
  refine ⟨.inr ⟨hst.kn.pick [0, 1, 2, 3] [0, 1, 2, 3, 4], .inr (hst.kn.pick [] [])⟩, ?_⟩
  refine sAny_takeg (i := 10) [11] (fun _ => True) (v := .bool (((blen x.natAbs : Nat) : Int) != ((blen x.natAbs : Nat) : Int))) rfl (by kernel_rfl) (fun _ _ _ h => h) (fun _ _ _ _ => trivial) henv rfl rfl rfl rfl trivial (fun w' _ => rn_bin henv rfl rfl rfl) ?_
  clear henv a; intro a henv
  rw [show (((blen x.natAbs : Nat) : Int) != ((blen x.natAbs : Nat) : Int)) = false from (by simp)] at henv
  refine sAny_take (i := 11) [] (fun _ => True) (v := .bool false) rfl (by kernel_rfl) (fun _ _ _ h => h) (fun _ _ _ _ => trivial) henv rfl trivial (fun w' _ => rn_pick henv rfl rfl) ?_
  clear henv a; intro a henv
  refine sAny_done (by kernel_rfl) ?_ _
  refine th_n ?_
  refine if_f henv rfl (rfl) ?_
  refine wp_skip ?_
  refine th_n ?_
  refine wp_seq ?_
  refine region_seq ?_
  refine seq_step rfl (op_val (v := .agg #[.bool (neg x), .slice A7 (zl x) c8]) henv rfl (rn_load0 henv ty_anvil_integer_Int rfl (hst.oat (k := 1) rfl) rfl) ?_)
  clear henv a; intro a henv
  refine seq_step rfl (op_val (v := .int .i64 (n : Nat)) henv rfl (rn_move henv rfl) ?_)
  clear henv a; intro a henv
  refine seq_step rfl (op_call henv rfl Tryd.call24 rfl (zshl_ok (x := x) (n := n) (show ZIn _ A7 c8 x from hst.pat (k := 1) rfl) (by omega) (by omega)) ?_)
  rintro e w28 ⟨_, rfl, ⟨A25, c26, rfl, hz27⟩, hb⟩
  refine ⟨_, rfl, ?_⟩
  clear henv a; intro a henv
  replace hst := (hst.call hb).addZ hz27 rfl
  clear hz27
  clear hb
  refine seq_step rfl (op_val (v := .tuple #[.agg #[.bool (neg (x * 2 ^ n)), .slice A25 (zl (x * 2 ^ n)) c26], .int .i64 0]) henv rfl (rn_move henv rfl) ?_)
  clear henv a; intro a henv
  refine seq_step rfl (op_val (v := .agg #[.bool (neg (x * 2 ^ n)), .slice A25 (zl (x * 2 ^ n)) c26]) henv rfl (rn_extract henv rfl rfl) ?_)
  clear henv a; intro a henv
  refine seq_step rfl (op_val (v := .int .i64 0) henv rfl (rn_extract henv rfl rfl) ?_)
  clear henv a; intro a henv
  refine seq_step rfl (op_alloc (c := #[.bool (neg 0), .slice none (zl 0) 0]) henv hst rfl zero_anvil_integer_Int zcells ?_)
  clear henv hst a; intro a w30 g29 henv hst
  refine seq_step rfl (op_store (k := 0) (c' := #[.bool (neg (x * 2 ^ n)), .slice A25 (zl (x * 2 ^ n)) c26]) henv hst (ty_anvil_integer_Int.size) rfl rfl rfl rfl (by simp) rfl rfl ?_)
  clear henv hst a; intro a w31 henv hst
  refine seq_step rfl (op_val (v := .int .i64 0) henv rfl (rn_assign henv rfl) ?_)
  clear henv a; intro a henv
  refine wpList_nil ?_
  refine th_n ?_
  refine wp_seq ?_
  refine region_seq ?_
  refine seq_step rfl (op_val (v := .agg #[.bool (neg x), .slice A7 (zl x) c8]) henv rfl (rn_load0 henv ty_anvil_integer_Int rfl (hst.oat (k := 2) rfl) rfl) ?_)
  clear henv a; intro a henv
  refine seq_step rfl (op_val (v := .int .i64 (n : Nat)) henv rfl (rn_move henv rfl) ?_)
  clear henv a; intro a henv
  refine seq_step rfl (op_call henv rfl Tryd.call25 rfl (zshr_no (x := x) (i := (n : Nat)) (show ZIn _ A7 c8 x from hst.pat (k := 2) rfl) (by omega) (by omega) hx0 hno (show Deb _ from hst.pat (k := 4) rfl)) ?_)
  rintro e w32 ⟨rfl, hb⟩
  refine ⟨_, rfl, ?_⟩
  clear henv a; intro a henv
  replace hst := hst.call hb
  clear hb
  refine seq_step rfl (op_val (v := .tuple #[.agg #[.bool (neg 0), .slice none (zl 0) 0], .int .i64 20]) henv rfl (rn_move henv rfl) ?_)
  clear henv a; intro a henv
  refine seq_step rfl (op_val (v := .agg #[.bool (neg 0), .slice none (zl 0) 0]) henv rfl (rn_extract henv rfl rfl) ?_)
  clear henv a; intro a henv
  refine seq_step rfl (op_val (v := .int .i64 20) henv rfl (rn_extract henv rfl rfl) ?_)
  clear henv a; intro a henv
  refine seq_step rfl (op_alloc (c := #[.bool (neg 0), .slice none (zl 0) 0]) henv hst rfl zero_anvil_integer_Int zcells ?_)
  clear henv hst a; intro a w34 g33 henv hst
  refine seq_step rfl (op_store (k := 0) (c' := #[.bool (neg 0), .slice none (zl 0) 0]) henv hst (ty_anvil_integer_Int.size) rfl rfl rfl rfl (by simp) rfl rfl ?_)
  clear henv hst a; intro a w35 henv hst
  refine seq_step rfl (op_val (v := .int .i64 20) henv rfl (rn_assign henv rfl) ?_)
  clear henv a; intro a henv
  refine wpList_nil ?_
  refine th_n ?_
  refine wp_seq ?_
  refine wp_seq ?_
  refine region_seq ?_
  refine seq_step rfl (op_val (v := .int .i64 (n : Nat)) henv rfl (rn_move henv rfl) ?_)
  clear henv a; intro a henv
  refine seq_step rfl (op_val (v := .bool (decide (((n : Nat) : Int) < (0 : Int)))) henv rfl (rn_bin henv rfl rfl rfl) ?_)
  clear henv a; intro a henv
  rw [show (decide (((n : Nat) : Int) < (0 : Int))) = false from (decide_eq_false (by omega))] at henv
  refine wpList_nil ?_
  refine th_n ?_
  refine if_f henv rfl (rfl) ?_
  refine wp_skip ?_
  refine th_n ?_
  refine wp_seq ?_
  refine wp_seq ?_
  refine region_seq ?_
  refine seq_step rfl (op_val (v := .int .i64 (n : Nat)) henv rfl (rn_move henv rfl) ?_)
  clear henv a; intro a henv
  refine seq_step rfl (op_val (v := .bool (decide (((n : Nat) : Int) > (65536 : Int)))) henv rfl (rn_bin henv rfl rfl rfl) ?_)
  clear henv a; intro a henv
  rw [show (decide (((n : Nat) : Int) > (65536 : Int))) = false from (decide_eq_false (by omega))] at henv
  refine wpList_nil ?_
  refine th_n ?_
  refine if_f henv rfl (rfl) ?_
  refine wp_skip ?_
  refine th_n ?_
  refine wp_seq ?_
  refine wp_seq ?_
  refine region_any (n := 11) (Sk [⟨g33, #[.bool (neg 0), .slice none (zl 0) 0], 28⟩, ⟨g29, #[.bool (neg (x * 2 ^ n)), .slice A25 (zl (x * 2 ^ n)) c26], 28⟩, ⟨g16, #[.bool (neg x), .slice A10 (dl x) c11], 30⟩, ⟨g14, #[.bool (neg x), .slice A7 (zl x) c8], 28⟩, ⟨g4, #[.bool b0, .slice A0 n0 c0], 24⟩, ⟨g1, #[.bool b0, .slice A0 n0 c0], 24⟩] [pfZ A25 c26 (x * 2 ^ n), pfR A10 c11 x, pfZ A7 c8 x, pfU A0 n0 c0 xs0, pfT, pfZ none 0 0] [] []) mixed rfl henv hst ?_
  clear henv hst; intro w36 henv hst
  refine sAny_take (i := 0) [1, 2, 3, 4, 5, 6, 7, 8, 9, 10] (fun _ => True) (v := .int .i64 0) rfl (by kernel_rfl) (fun _ _ _ h => h) (fun _ _ _ _ => trivial) henv rfl trivial (fun w' _ => rn_move henv rfl) ?_
  clear henv a; intro a henv
  refine sAny_take (i := 1) [2, 3, 4, 5, 6, 7, 8, 9, 10] (fun _ => True) (v := .bool false) rfl (by kernel_rfl) (fun _ _ _ h => h) (fun _ _ _ _ => trivial) henv rfl trivial (fun w' _ => rn_bin henv rfl rfl rfl) ?_
  clear henv a; intro a henv
  refine sAny_take (i := 2) [3, 4, 5, 6, 7, 8, 9, 10] (fun _ => True) (v := .bool false) rfl (by kernel_rfl) (fun _ _ _ h => h) (fun _ _ _ _ => trivial) henv rfl trivial (fun w' _ => rn_move henv rfl) ?_
  clear henv a; intro a henv
  refine sAny_takeg (i := 3) [8, 9, 10] (fun w' => w'.heap[g29]? = some (.cells #[.bool (neg (x * 2 ^ n)), .slice A25 (zl (x * 2 ^ n)) c26] 28 (0, 0))) (v := .agg #[.bool (neg (x * 2 ^ n)), .slice A25 (zl (x * 2 ^ n)) c26]) rfl (by kernel_rfl) (fun _ _ _ h => h) (fun _ _ _ hS => hS.1.oat (k := 1) rfl) henv rfl rfl rfl rfl (hst.oat (k := 1) rfl) (fun w' hg => rn_load0 henv ty_anvil_integer_Int rfl hg rfl) ?_
  clear henv a; intro a henv
  refine sAny_takeg (i := 4) [7, 8, 9, 10] (fun w' => w'.heap[g16]? = some (.cells #[.bool (neg x), .slice A10 (dl x) c11] 30 (0, 0))) (v := .agg #[.bool (neg x), .slice A10 (dl x) c11]) rfl (by kernel_rfl) (fun _ _ _ h => h) (fun _ _ _ hS => hS.1.oat (k := 2) rfl) henv rfl rfl rfl rfl (hst.oat (k := 2) rfl) (fun w' hg => rn_load0 henv ty_anvil_anvilref02_Int rfl hg rfl) ?_
  clear henv a; intro a henv
  refine sAny_takeg (i := 5) [6, 7, 8, 9, 10] (fun _ => True) (v := .int .i64 (n : Nat)) rfl (by kernel_rfl) (fun _ _ _ h => h) (fun _ _ _ _ => trivial) henv rfl rfl rfl rfl trivial (fun w' _ => rn_move henv rfl) ?_
  clear henv a; intro a henv
  refine sAny_oneg (i := 6) (by kernel_rfl) rfl rfl henv rfl rfl rfl (op_call henv rfl Tryd.call30 rfl (power_r (n := n) (by omega)) ?_)
  rintro e w40 ⟨_, rfl, ⟨A37, c38, rfl, hz39⟩, hb⟩
  refine ⟨_, rfl, ?_⟩
  clear henv a; intro a henv
  replace hst := (hst.call hb).addR hz39 rfl
  clear hz39
  clear hb
  refine ⟨.inr ⟨hst.kn.pick [0, 1, 2, 3, 4, 5] [1, 2, 3, 4, 5, 6], .inr (hst.kn.pick [] [])⟩, ?_⟩
  refine sAny_oneg (i := 7) (by kernel_rfl) rfl rfl henv rfl rfl rfl (op_call henv rfl Tryd.call29 rfl (mul_r (x := x) (y := 2 ^ n) (show RIn _ A10 c11 x from hst.pat (k := 2) rfl) (show RIn _ A37 c38 (2 ^ n) from hst.pat (k := 0) rfl) (by omega) (Nat.le_trans hpd (by omega))) ?_)
  rintro e w44 ⟨_, rfl, ⟨A41, c42, rfl, hz43⟩, hb⟩
  refine ⟨_, rfl, ?_⟩
  clear henv a; intro a henv
  replace hst := (hst.call hb).addR hz43 rfl
  clear hz43
  clear hb
  refine ⟨.inr ⟨hst.kn.pick [0, 1, 2, 3, 4, 5] [2, 3, 4, 5, 6, 7], .inr (hst.kn.pick [] [])⟩, ?_⟩
  refine sAny_oneg (i := 8) (by kernel_rfl) rfl rfl henv rfl rfl rfl (op_call henv rfl Tryd.call28 rfl (is_same (z := x * 2 ^ n) (y := x * (2 ^ n)) (show ZIn _ A25 c26 (x * 2 ^ n) from hst.pat (k := 2) rfl) (show RIn _ A41 c42 (x * (2 ^ n)) from hst.pat (k := 0) rfl) rfl (Nat.le_trans hsh (by omega)) (Nat.le_trans hdsh (by omega))) ?_)
  rintro e w45 ⟨rfl, hb⟩
  refine ⟨_, rfl, ?_⟩
  clear henv a; intro a henv
  replace hst := hst.call hb
  clear hb
  refine ⟨.inr ⟨hst.kn.pick [0, 1, 2, 3, 4, 5] [2, 3, 4, 5, 6, 7], .inr (hst.kn.pick [] [])⟩, ?_⟩
  refine sAny_takeg (i := 9) [10] (fun _ => True) (v := .bool false) rfl (by kernel_rfl) (fun _ _ _ h => h) (fun _ _ _ _ => trivial) henv rfl rfl rfl rfl trivial (fun w' _ => rn_un henv rfl rfl) ?_
  clear henv a; intro a henv
  refine sAny_take (i := 10) [] (fun _ => True) (v := .bool false) rfl (by kernel_rfl) (fun _ _ _ h => h) (fun _ _ _ _ => trivial) henv rfl trivial (fun w' _ => rn_pick henv rfl rfl) ?_
  clear henv a; intro a henv
  refine sAny_done (by kernel_rfl) ?_ _
  refine th_n ?_
  refine if_f henv rfl (rfl) ?_
  refine wp_skip ?_
  refine th_n ?_
  refine wp_seq ?_
  refine region_seq ?_
  refine seq_step rfl (op_val (v := .agg #[.bool (neg (x * 2 ^ n)), .slice A25 (zl (x * 2 ^ n)) c26]) henv rfl (rn_load0 henv ty_anvil_integer_Int rfl (hst.oat (k := 1) rfl) rfl) ?_)
  clear henv a; intro a henv
  refine seq_step rfl (op_val (v := .int .i64 (n : Nat)) henv rfl (rn_move henv rfl) ?_)
  clear henv a; intro a henv
  refine seq_step rfl (op_call henv rfl Tryd.call25 rfl (zshr_ok (x := x * 2 ^ n) (n := n) (show ZIn _ A25 c26 (x * 2 ^ n) from hst.pat (k := 2) rfl) hsh (by omega) hne (Int.dvd_mul_left _ _) (show Deb _ from hst.pat (k := 6) rfl)) ?_)
  rintro e w49 ⟨_, rfl, ⟨A46, c47, rfl, hz48⟩, hb⟩
  refine ⟨_, rfl, ?_⟩
  clear henv a; intro a henv
  replace hst := (hst.call hb).addZ hz48 rfl
  clear hz48
  clear hb
  refine seq_step rfl (op_val (v := .tuple #[.agg #[.bool (neg ((x * 2 ^ n) / 2 ^ n)), .slice A46 (zl ((x * 2 ^ n) / 2 ^ n)) c47], .int .i64 0]) henv rfl (rn_move henv rfl) ?_)
  clear henv a; intro a henv
  refine seq_step rfl (op_val (v := .agg #[.bool (neg ((x * 2 ^ n) / 2 ^ n)), .slice A46 (zl ((x * 2 ^ n) / 2 ^ n)) c47]) henv rfl (rn_extract henv rfl rfl) ?_)
  clear henv a; intro a henv
  refine seq_step rfl (op_val (v := .int .i64 0) henv rfl (rn_extract henv rfl rfl) ?_)
  clear henv a; intro a henv
  refine seq_step rfl (op_alloc (c := #[.bool (neg 0), .slice none (zl 0) 0]) henv hst rfl zero_anvil_integer_Int zcells ?_)
  clear henv hst a; intro a w51 g50 henv hst
  refine seq_step rfl (op_store (k := 0) (c' := #[.bool (neg ((x * 2 ^ n) / 2 ^ n)), .slice A46 (zl ((x * 2 ^ n) / 2 ^ n)) c47]) henv hst (ty_anvil_integer_Int.size) rfl rfl rfl rfl (by simp) rfl rfl ?_)
  clear henv hst a; intro a w52 henv hst
  refine seq_step rfl (op_val (v := .int .i64 0) henv rfl (rn_assign henv rfl) ?_)
  clear henv a; intro a henv
  refine wpList_nil ?_
  refine th_n ?_
  refine wp_seq ?_
  refine wp_seq ?_
  refine region_seq ?_
  refine seq_step rfl (op_val (v := .int .i64 0) henv rfl (rn_move henv rfl) ?_)
  clear henv a; intro a henv
  refine seq_step rfl (op_val (v := .bool false) henv rfl (rn_bin henv rfl rfl rfl) ?_)
  clear henv a; intro a henv
  refine seq_step rfl (op_val (v := .bool false) henv rfl (rn_move henv rfl) ?_)
  clear henv a; intro a henv
  refine seq_g rfl henv rfl rfl (op_val (v := .agg #[.bool (neg ((x * 2 ^ n) / 2 ^ n)), .slice A46 (zl ((x * 2 ^ n) / 2 ^ n)) c47]) henv rfl (rn_load0 henv ty_anvil_integer_Int rfl (hst.oat (k := 0) rfl) rfl) ?_)
  clear henv a; intro a henv
  refine seq_g rfl henv rfl rfl (op_val (v := .agg #[.bool (neg x), .slice A10 (dl x) c11]) henv rfl (rn_load0 henv ty_anvil_anvilref02_Int rfl (hst.oat (k := 3) rfl) rfl) ?_)
  clear henv a; intro a henv
  refine seq_g rfl henv rfl rfl (op_call henv rfl Tryd.call28 rfl (is_same (z := (x * 2 ^ n) / 2 ^ n) (y := x) (show ZIn _ A46 c47 ((x * 2 ^ n) / 2 ^ n) from hst.pat (k := 0) rfl) (show RIn _ A10 c11 x from hst.pat (k := 4) rfl) (Int.mul_ediv_cancel _ pow_ne).symm (by rw [Int.mul_ediv_cancel _ pow_ne]; omega) (by rw [Int.mul_ediv_cancel _ pow_ne]; omega)) ?_)
  rintro e w53 ⟨rfl, hb⟩
  refine ⟨_, rfl, ?_⟩
  clear henv a; intro a henv
  replace hst := hst.call hb
  clear hb
  refine seq_g rfl henv rfl rfl (op_val (v := .bool false) henv rfl (rn_un henv rfl rfl) ?_)
  clear henv a; intro a henv
  refine seq_step rfl (op_val (v := .bool false) henv rfl (rn_pick henv rfl rfl) ?_)
  clear henv a; intro a henv
  refine wpList_nil ?_
  refine th_n ?_
  refine if_f henv rfl (rfl) ?_
  refine wp_skip ?_
  refine th_n ?_
  refine wp_seq ?_
  refine cut (fun a w => ∃ A55 : Option Addr, ∃ c56 : Nat, ∃ g60 : Nat, Env 152 a [(0, .agg #[.bool b0, .slice A0 n0 c0]), (1, .int .i64 (n : Nat)), (2, .pointer (some ⟨g1, 0, none⟩)), (4, .bool false), (16, .bool true), (17, .bool false), (18, .agg #[.bool b0, .slice A0 n0 c0]), (19, .slice (some ⟨g4, 0, none⟩) 1 1), (20, .bool false), (21, .bool false), (22, .int .i64 (n : Nat)), (23, .bool false), (24, .bool false), (25, undef), (26, undef), (27, .bool false), (28, .bool false), (30, .agg #[.bool b0, .slice A0 n0 c0]), (31, .tuple #[.agg #[.bool (neg x), .slice A7 (zl x) c8], .agg #[.bool (neg x), .slice A10 (dl x) c11]]), (29, .tuple #[.agg #[.bool (neg x), .slice A7 (zl x) c8], .agg #[.bool (neg x), .slice A10 (dl x) c11]]), (32, .agg #[.bool (neg x), .slice A7 (zl x) c8]), (33, .agg #[.bool (neg x), .slice A10 (dl x) c11]), (5, .pointer (some ⟨g14, 0, none⟩)), (6, .pointer (some ⟨g16, 0, none⟩)), (34, .agg #[.bool (neg x), .slice A7 (zl x) c8]), (36, .agg #[.bool (neg x), .slice A10 (dl x) c11]), (35, .int .i64 (k1 : Nat)), (37, .int .i64 (k2 : Nat)), (38, .bool false), (39, .bool false), (40, .agg #[.bool (neg x), .slice A7 (zl x) c8]), (42, .agg #[.bool (neg x), .slice A10 (dl x) c11]), (41, .int .i64 (blen x.natAbs : Nat)), (43, .int .i64 (blen x.natAbs : Nat)), (44, .bool false), (45, .bool false), (47, .agg #[.bool (neg x), .slice A7 (zl x) c8]), (48, .int .i64 (n : Nat)), (49, .tuple #[.agg #[.bool (neg (x * 2 ^ n)), .slice A25 (zl (x * 2 ^ n)) c26], .int .i64 0]), (46, .tuple #[.agg #[.bool (neg (x * 2 ^ n)), .slice A25 (zl (x * 2 ^ n)) c26], .int .i64 0]), (50, .agg #[.bool (neg (x * 2 ^ n)), .slice A25 (zl (x * 2 ^ n)) c26]), (51, .int .i64 0), (7, .pointer (some ⟨g29, 0, none⟩)), (8, .int .i64 0), (53, .agg #[.bool (neg x), .slice A7 (zl x) c8]), (54, .int .i64 (n : Nat)), (55, .tuple #[.agg #[.bool (neg 0), .slice none (zl 0) 0], .int .i64 20]), (52, .tuple #[.agg #[.bool (neg 0), .slice none (zl 0) 0], .int .i64 20]), (56, .agg #[.bool (neg 0), .slice none (zl 0) 0]), (57, .int .i64 20), (9, .pointer (some ⟨g33, 0, none⟩)), (10, .int .i64 20), (58, .int .i64 (n : Nat)), (59, .bool false), (74, .int .i64 (n : Nat)), (75, .bool false), (105, .int .i64 0), (106, .bool false), (107, .bool false), (108, .agg #[.bool (neg (x * 2 ^ n)), .slice A25 (zl (x * 2 ^ n)) c26]), (109, .agg #[.bool (neg x), .slice A10 (dl x) c11]), (110, .int .i64 (n : Nat)), (111, .agg #[.bool (neg (2 ^ n)), .slice A37 (dl (2 ^ n)) c38]), (112, .agg #[.bool (neg (x * (2 ^ n))), .slice A41 (dl (x * (2 ^ n))) c42]), (113, .bool true), (114, .bool false), (115, .bool false), (117, .agg #[.bool (neg (x * 2 ^ n)), .slice A25 (zl (x * 2 ^ n)) c26]), (118, .int .i64 (n : Nat)), (119, .tuple #[.agg #[.bool (neg ((x * 2 ^ n) / 2 ^ n)), .slice A46 (zl ((x * 2 ^ n) / 2 ^ n)) c47], .int .i64 0]), (116, .tuple #[.agg #[.bool (neg ((x * 2 ^ n) / 2 ^ n)), .slice A46 (zl ((x * 2 ^ n) / 2 ^ n)) c47], .int .i64 0]), (120, .agg #[.bool (neg ((x * 2 ^ n) / 2 ^ n)), .slice A46 (zl ((x * 2 ^ n) / 2 ^ n)) c47]), (121, .int .i64 0), (12, .pointer (some ⟨g50, 0, none⟩)), (13, .int .i64 0), (122, .int .i64 0), (123, .bool false), (124, .bool false), (125, .agg #[.bool (neg ((x * 2 ^ n) / 2 ^ n)), .slice A46 (zl ((x * 2 ^ n) / 2 ^ n)) c47]), (126, .agg #[.bool (neg x), .slice A10 (dl x) c11]), (127, .bool true), (128, .bool false), (129, .bool false), (14, .pointer (some ⟨g60, 0, none⟩)), (15, .bool false)] ∧ St w0 w [⟨g60, #[.bool false, .slice none 0 0], 30⟩, ⟨g50, #[.bool (neg ((x * 2 ^ n) / 2 ^ n)), .slice A46 (zl ((x * 2 ^ n) / 2 ^ n)) c47], 28⟩, ⟨g33, #[.bool (neg 0), .slice none (zl 0) 0], 28⟩, ⟨g29, #[.bool (neg (x * 2 ^ n)), .slice A25 (zl (x * 2 ^ n)) c26], 28⟩, ⟨g16, #[.bool (neg x), .slice A10 (dl x) c11], 30⟩, ⟨g14, #[.bool (neg x), .slice A7 (zl x) c8], 28⟩, ⟨g4, #[.bool b0, .slice A0 n0 c0], 24⟩, ⟨g1, #[.bool b0, .slice A0 n0 c0], 24⟩] [pfR A55 c56 (2 ^ n), pfZ A46 c47 ((x * 2 ^ n) / 2 ^ n), pfR A41 c42 (x * (2 ^ n)), pfR A37 c38 (2 ^ n), pfZ A25 c26 (x * 2 ^ n), pfR A10 c11 x, pfZ A7 c8 x, pfU A0 n0 c0 xs0, pfT, pfZ none 0 0]) ?_ ?_
  · refine region_any (n := 10) (Sk [⟨g50, #[.bool (neg ((x * 2 ^ n) / 2 ^ n)), .slice A46 (zl ((x * 2 ^ n) / 2 ^ n)) c47], 28⟩, ⟨g33, #[.bool (neg 0), .slice none (zl 0) 0], 28⟩, ⟨g29, #[.bool (neg (x * 2 ^ n)), .slice A25 (zl (x * 2 ^ n)) c26], 28⟩, ⟨g16, #[.bool (neg x), .slice A10 (dl x) c11], 30⟩, ⟨g14, #[.bool (neg x), .slice A7 (zl x) c8], 28⟩, ⟨g4, #[.bool b0, .slice A0 n0 c0], 24⟩, ⟨g1, #[.bool b0, .slice A0 n0 c0], 24⟩] [pfZ A46 c47 ((x * 2 ^ n) / 2 ^ n), pfR A41 c42 (x * (2 ^ n)), pfR A37 c38 (2 ^ n), pfZ A25 c26 (x * 2 ^ n), pfR A10 c11 x, pfZ A7 c8 x, pfU A0 n0 c0 xs0, pfT, pfZ none 0 0] [8] []) mixed rfl henv hst ?_
    clear henv hst; intro w54 henv hst
    refine sAny_take (i := 0) [3, 4, 5, 6, 8, 9] (fun w' => w'.heap[g16]? = some (.cells #[.bool (neg x), .slice A10 (dl x) c11] 30 (0, 0))) (v := .agg #[.bool (neg x), .slice A10 (dl x) c11]) rfl (by kernel_rfl) (fun _ _ _ h => h) (fun _ _ _ hS => hS.1.oat (k := 3) rfl) henv rfl (hst.oat (k := 3) rfl) (fun w' hg => rn_load0 henv ty_anvil_anvilref02_Int rfl hg rfl) ?_
    clear henv a; intro a henv
    refine sAny_take (i := 1) [2, 3, 4, 5, 6, 8, 9] (fun _ => True) (v := .int .i64 (n : Nat)) rfl (by kernel_rfl) (fun _ _ _ h => h) (fun _ _ _ _ => trivial) henv rfl trivial (fun w' _ => rn_move henv rfl) ?_
    clear henv a; intro a henv
    refine sAny_all (rs := [2, 7]) (by kernel_rfl) (by simp) ?_
    simp only [List.forall_mem_cons, List.not_mem_nil, false_implies, implies_true, and_true]
    refine ⟨?_, ?_⟩
    · refine ⟨_, rfl, rfl, op_call henv rfl Tryd.call30 rfl (power_r (n := n) (by omega)) ?_⟩
      rintro e w58 ⟨_, rfl, ⟨A55, c56, rfl, hz57⟩, hb⟩
      refine ⟨_, rfl, ?_⟩
      clear henv a; intro a henv
      replace hst := (hst.call hb).addR hz57 rfl
      clear hz57
      clear hb
      refine ⟨.inr ⟨hst.kn.pick [0, 1, 2, 3, 4, 5, 6] [1, 2, 3, 4, 5, 6, 7, 8, 9], .inr (hst.kn.pick [] [])⟩, ?_⟩
      refine sAny_all (rs := [3, 7]) (by kernel_rfl) (by simp) ?_
      simp only [List.forall_mem_cons, List.not_mem_nil, false_implies, implies_true, and_true]
      refine ⟨?_, ?_⟩
      · refine ⟨_, rfl, rfl, op_call henv rfl Tryd.call31 rfl (over_r_no (x := x) (y := 2 ^ n) (show RIn _ A10 c11 x from hst.pat (k := 5) rfl) (show RIn _ A55 c56 (2 ^ n) from hst.pat (k := 0) rfl) (by omega) hpd pow_ne hnd) ?_⟩
        rintro e w59 ⟨rfl, hb⟩
        refine ⟨_, rfl, ?_⟩
        clear henv a; intro a henv
        replace hst := hst.call hb
        clear hb
        refine ⟨.inr ⟨hst.kn.pick [0, 1, 2, 3, 4, 5, 6] [1, 2, 3, 4, 5, 6, 7, 8, 9], .inr (hst.kn.pick [] [])⟩, ?_⟩
        refine sAny_take (i := 4) [5, 6, 8, 9] (fun _ => True) (v := .tuple #[.agg #[.bool false, .slice none 0 0], .bool false]) rfl (by kernel_rfl) (fun _ _ _ h => h) (fun _ _ _ _ => trivial) henv rfl trivial (fun w' _ => rn_move henv rfl) ?_
        clear henv a; intro a henv
        refine sAny_take (i := 5) [8, 9] (fun _ => True) (v := .agg #[.bool false, .slice none 0 0]) rfl (by kernel_rfl) (fun _ _ _ h => h) (fun _ _ _ _ => trivial) henv rfl trivial (fun w' _ => rn_extract henv rfl rfl) ?_
        clear henv a; intro a henv
        refine sAny_take (i := 6) [9] (fun _ => True) (v := .bool false) rfl (by kernel_rfl) (fun _ _ _ h => h) (fun _ _ _ _ => trivial) henv rfl trivial (fun w' _ => rn_extract henv rfl rfl) ?_
        clear henv a; intro a henv
        refine sAny_one (i := 7) (by kernel_rfl) rfl rfl (op_alloc (c := #[.bool (neg 0), .slice none (dl 0) 0]) henv hst rfl zero_anvil_anvilref02_Int rcells ?_)
        clear henv hst a; intro a w61 g60 henv hst
        refine ⟨.inr ⟨hst.kn.pick [1, 2, 3, 4, 5, 6, 7] [1, 2, 3, 4, 5, 6, 7, 8, 9], .inr (hst.kn.pick [] [])⟩, ?_⟩
        refine sAny_one (i := 8) (by kernel_rfl) rfl rfl (op_store (k := 0) (c' := #[.bool false, .slice none 0 0]) henv hst (ty_anvil_anvilref02_Int.size) rfl rfl rfl rfl (by simp) rfl rfl ?_)
        clear henv hst a; intro a w62 henv hst
        refine ⟨.inr ⟨hst.kn.pick [1, 2, 3, 4, 5, 6, 7] [1, 2, 3, 4, 5, 6, 7, 8, 9], .inl rfl⟩, ?_⟩
        refine sAny_take (i := 9) [] (fun _ => True) (v := .bool false) rfl (by kernel_rfl) (fun _ _ _ h => h) (fun _ _ _ _ => trivial) henv rfl trivial (fun w' _ => rn_assign henv rfl) ?_
        clear henv a; intro a henv
        refine sAny_done (by kernel_rfl) ?_ _
        exact th_n ⟨A55, c56, g60, henv.sub ⟨rfl, rfl, rfl, rfl, rfl, rfl, rfl, rfl, rfl, rfl, rfl, rfl, rfl, rfl, rfl, rfl, rfl, rfl, rfl, rfl, rfl, rfl, rfl, rfl, rfl, rfl, rfl, rfl, rfl, rfl, rfl, rfl, rfl, rfl, rfl, rfl, rfl, rfl, rfl, rfl, rfl, rfl, rfl, rfl, rfl, rfl, rfl, rfl, rfl, rfl, rfl, rfl, rfl, rfl, rfl, rfl, rfl, rfl, rfl, rfl, rfl, rfl, rfl, rfl, rfl, rfl, rfl, rfl, rfl, rfl, rfl, rfl, rfl, rfl, rfl, rfl, rfl, rfl, rfl, rfl, rfl, rfl, rfl, rfl, rfl, trivial⟩, hst.pick [0, 1, 2, 3, 4, 5, 6, 7] [0, 1, 2, 3, 4, 5, 6, 7, 8, 9] (by decide)⟩
      · refine ⟨_, rfl, rfl, op_alloc (c := #[.bool (neg 0), .slice none (dl 0) 0]) henv hst rfl zero_anvil_anvilref02_Int rcells ?_⟩
        clear henv hst a; intro a w64 g63 henv hst
        refine ⟨.inr ⟨hst.kn.pick [1, 2, 3, 4, 5, 6, 7] [1, 2, 3, 4, 5, 6, 7, 8, 9], .inr (hst.kn.pick [] [])⟩, ?_⟩
        refine sAny_one (i := 3) (by kernel_rfl) rfl rfl (op_call henv rfl Tryd.call31 rfl (over_r_no (x := x) (y := 2 ^ n) (show RIn _ A10 c11 x from hst.pat (k := 5) rfl) (show RIn _ A55 c56 (2 ^ n) from hst.pat (k := 0) rfl) (by omega) hpd pow_ne hnd) ?_)
        rintro e w65 ⟨rfl, hb⟩
        refine ⟨_, rfl, ?_⟩
        clear henv a; intro a henv
        replace hst := hst.call hb
        clear hb
        refine ⟨.inr ⟨hst.kn.pick [1, 2, 3, 4, 5, 6, 7] [1, 2, 3, 4, 5, 6, 7, 8, 9], .inr (hst.kn.pick [] [])⟩, ?_⟩
        refine sAny_take (i := 4) [5, 6, 8, 9] (fun _ => True) (v := .tuple #[.agg #[.bool false, .slice none 0 0], .bool false]) rfl (by kernel_rfl) (fun _ _ _ h => h) (fun _ _ _ _ => trivial) henv rfl trivial (fun w' _ => rn_move henv rfl) ?_
        clear henv a; intro a henv
        refine sAny_take (i := 5) [8, 9] (fun _ => True) (v := .agg #[.bool false, .slice none 0 0]) rfl (by kernel_rfl) (fun _ _ _ h => h) (fun _ _ _ _ => trivial) henv rfl trivial (fun w' _ => rn_extract henv rfl rfl) ?_
        clear henv a; intro a henv
        refine sAny_take (i := 6) [9] (fun _ => True) (v := .bool false) rfl (by kernel_rfl) (fun _ _ _ h => h) (fun _ _ _ _ => trivial) henv rfl trivial (fun w' _ => rn_extract henv rfl rfl) ?_
        clear henv a; intro a henv
        refine sAny_one (i := 8) (by kernel_rfl) rfl rfl (op_store (k := 0) (c' := #[.bool false, .slice none 0 0]) henv hst (ty_anvil_anvilref02_Int.size) rfl rfl rfl rfl (by simp) rfl rfl ?_)
        clear henv hst a; intro a w66 henv hst
        refine ⟨.inr ⟨hst.kn.pick [1, 2, 3, 4, 5, 6, 7] [1, 2, 3, 4, 5, 6, 7, 8, 9], .inl rfl⟩, ?_⟩
        refine sAny_take (i := 9) [] (fun _ => True) (v := .bool false) rfl (by kernel_rfl) (fun _ _ _ h => h) (fun _ _ _ _ => trivial) henv rfl trivial (fun w' _ => rn_assign henv rfl) ?_
        clear henv a; intro a henv
        refine sAny_done (by kernel_rfl) ?_ _
        exact th_n ⟨A55, c56, g63, henv.sub ⟨rfl, rfl, rfl, rfl, rfl, rfl, rfl, rfl, rfl, rfl, rfl, rfl, rfl, rfl, rfl, rfl, rfl, rfl, rfl, rfl, rfl, rfl, rfl, rfl, rfl, rfl, rfl, rfl, rfl, rfl, rfl, rfl, rfl, rfl, rfl, rfl, rfl, rfl, rfl, rfl, rfl, rfl, rfl, rfl, rfl, rfl, rfl, rfl, rfl, rfl, rfl, rfl, rfl, rfl, rfl, rfl, rfl, rfl, rfl, rfl, rfl, rfl, rfl, rfl, rfl, rfl, rfl, rfl, rfl, rfl, rfl, rfl, rfl, rfl, rfl, rfl, rfl, rfl, rfl, rfl, rfl, rfl, rfl, rfl, rfl, trivial⟩, hst.pick [0, 1, 2, 3, 4, 5, 6, 7] [0, 1, 2, 3, 4, 5, 6, 7, 8, 9] (by decide)⟩
    · refine ⟨_, rfl, rfl, op_alloc (c := #[.bool (neg 0), .slice none (dl 0) 0]) henv hst rfl zero_anvil_anvilref02_Int rcells ?_⟩
      clear henv hst a; intro a w68 g67 henv hst
      refine ⟨.inr ⟨hst.kn.pick [1, 2, 3, 4, 5, 6, 7] [0, 1, 2, 3, 4, 5, 6, 7, 8], .inr (hst.kn.pick [] [])⟩, ?_⟩
      refine sAny_one (i := 2) (by kernel_rfl) rfl rfl (op_call henv rfl Tryd.call30 rfl (power_r (n := n) (by omega)) ?_)
      rintro e w72 ⟨_, rfl, ⟨A69, c70, rfl, hz71⟩, hb⟩
      refine ⟨_, rfl, ?_⟩
      clear henv a; intro a henv
      replace hst := (hst.call hb).addR hz71 rfl
      clear hz71
      clear hb
      refine ⟨.inr ⟨hst.kn.pick [1, 2, 3, 4, 5, 6, 7] [1, 2, 3, 4, 5, 6, 7, 8, 9], .inr (hst.kn.pick [] [])⟩, ?_⟩
      refine sAny_one (i := 3) (by kernel_rfl) rfl rfl (op_call henv rfl Tryd.call31 rfl (over_r_no (x := x) (y := 2 ^ n) (show RIn _ A10 c11 x from hst.pat (k := 5) rfl) (show RIn _ A69 c70 (2 ^ n) from hst.pat (k := 0) rfl) (by omega) hpd pow_ne hnd) ?_)
      rintro e w73 ⟨rfl, hb⟩
      refine ⟨_, rfl, ?_⟩
      clear henv a; intro a henv
      replace hst := hst.call hb
      clear hb
      refine ⟨.inr ⟨hst.kn.pick [1, 2, 3, 4, 5, 6, 7] [1, 2, 3, 4, 5, 6, 7, 8, 9], .inr (hst.kn.pick [] [])⟩, ?_⟩
      refine sAny_take (i := 4) [5, 6, 8, 9] (fun _ => True) (v := .tuple #[.agg #[.bool false, .slice none 0 0], .bool false]) rfl (by kernel_rfl) (fun _ _ _ h => h) (fun _ _ _ _ => trivial) henv rfl trivial (fun w' _ => rn_move henv rfl) ?_
      clear henv a; intro a henv
      refine sAny_take (i := 5) [8, 9] (fun _ => True) (v := .agg #[.bool false, .slice none 0 0]) rfl (by kernel_rfl) (fun _ _ _ h => h) (fun _ _ _ _ => trivial) henv rfl trivial (fun w' _ => rn_extract henv rfl rfl) ?_
      clear henv a; intro a henv
      refine sAny_take (i := 6) [9] (fun _ => True) (v := .bool false) rfl (by kernel_rfl) (fun _ _ _ h => h) (fun _ _ _ _ => trivial) henv rfl trivial (fun w' _ => rn_extract henv rfl rfl) ?_
      clear henv a; intro a henv
      refine sAny_one (i := 8) (by kernel_rfl) rfl rfl (op_store (k := 0) (c' := #[.bool false, .slice none 0 0]) henv hst (ty_anvil_anvilref02_Int.size) rfl rfl rfl rfl (by simp) rfl rfl ?_)
      clear henv hst a; intro a w74 henv hst
      refine ⟨.inr ⟨hst.kn.pick [1, 2, 3, 4, 5, 6, 7] [1, 2, 3, 4, 5, 6, 7, 8, 9], .inl rfl⟩, ?_⟩
      refine sAny_take (i := 9) [] (fun _ => True) (v := .bool false) rfl (by kernel_rfl) (fun _ _ _ h => h) (fun _ _ _ _ => trivial) henv rfl trivial (fun w' _ => rn_assign henv rfl) ?_
      clear henv a; intro a henv
      refine sAny_done (by kernel_rfl) ?_ _
      exact th_n ⟨A69, c70, g67, henv.sub ⟨rfl, rfl, rfl, rfl, rfl, rfl, rfl, rfl, rfl, rfl, rfl, rfl, rfl, rfl, rfl, rfl, rfl, rfl, rfl, rfl, rfl, rfl, rfl, rfl, rfl, rfl, rfl, rfl, rfl, rfl, rfl, rfl, rfl, rfl, rfl, rfl, rfl, rfl, rfl, rfl, rfl, rfl, rfl, rfl, rfl, rfl, rfl, rfl, rfl, rfl, rfl, rfl, rfl, rfl, rfl, rfl, rfl, rfl, rfl, rfl, rfl, rfl, rfl, rfl, rfl, rfl, rfl, rfl, rfl, rfl, rfl, rfl, rfl, rfl, rfl, rfl, rfl, rfl, rfl, rfl, rfl, rfl, rfl, rfl, rfl, trivial⟩, hst.pick [0, 1, 2, 3, 4, 5, 6, 7] [0, 1, 2, 3, 4, 5, 6, 7, 8, 9] (by decide)⟩
  clear henv hst a
  rintro a w75 ⟨A55, c56, g60, henv, hst⟩
  refine wp_seq ?_
  refine wp_seq ?_
  refine region_seq ?_
  refine seq_step rfl (op_val (v := .bool false) henv rfl (rn_move henv rfl) ?_)
  clear henv a; intro a henv
  refine seq_step rfl (op_val (v := .bool true) henv rfl (rn_un henv rfl rfl) ?_)
  clear henv a; intro a henv
  refine wpList_nil ?_
  refine th_n ?_
  refine if_t henv rfl (rfl) ?_
  refine wp_seq ?_
  refine region_seq ?_
  refine seq_step rfl (op_val (v := .agg #[.bool (neg 0), .slice none (zl 0) 0]) henv rfl (rn_load0 henv ty_anvil_integer_Int rfl (hst.oat (k := 2) rfl) rfl) ?_)
  clear henv a; intro a henv
  refine seq_step rfl (op_call henv rfl Tryd.call26 rfl (zero_z (show ZIn _ none 0 0 from hst.pat (k := 9) rfl)) ?_)
  rintro e w76 ⟨rfl, hb⟩
  refine ⟨_, rfl, ?_⟩
  clear henv a; intro a henv
  replace hst := hst.call hb
  clear hb
  refine seq_step rfl (op_val (v := .bool true) henv rfl (rn_move henv rfl) ?_)
  clear henv a; intro a henv
  refine seq_g rfl henv rfl rfl (op_val (v := .int .i64 20) henv rfl (rn_move henv rfl) ?_)
  clear henv a; intro a henv
  refine seq_g rfl henv rfl rfl (op_val (v := .bool true) henv rfl (rn_bin henv rfl rfl rfl) ?_)
  clear henv a; intro a henv
  refine seq_step rfl (op_val (v := .bool true) henv rfl (rn_pick henv rfl rfl) ?_)
  clear henv a; intro a henv
  refine seq_step rfl (op_val (v := .bool true) henv rfl (rn_assign henv rfl) ?_)
  clear henv a; intro a henv
  refine wpList_nil ?_
  refine th_n ?_
  refine wp_ret ?_
  refine th_r ?_
  refine leave henv (res1 Tryd.results3 (RV.tmp henv rfl)) ?_
  exact ⟨rfl, hst.below⟩

set_option maxRecDepth 100000 in
theorem law_long {b0 : Bool} {A0 : Option Addr} {n0 c0 : Nat} {xs0 : List Nat} {i : Int} {w0 : World} (h0 : U32 w0 A0 n0 c0 xs0) (hl : 60 < n0) :
    Calls Tryd.prog 3 #[.agg #[.bool b0, .slice A0 n0 c0], .int .i64 i] w0 fun e w' => e = .returned (.bool true) ∧ Below w0.heap.size w0 w' := by
  refine enter Tryd.func3 rfl Tryd.ntmps3 rfl ?_
  intro a henv hst
  have hL0 := Nat.le_trans h0.cap h0.big
  refine wp_seq ?_
  refine region_seq ?_
  refine seq_step rfl (op_box (c := #[.bool b0, .slice A0 n0 c0]) henv hst rfl rfl rfl ?_)
  clear henv hst a; intro a w2 g1 henv hst
  refine seq_step rfl (op_val (v := .bool false) henv rfl (rn_assign henv rfl) ?_)
  clear henv a; intro a henv
  refine wpList_nil ?_
  refine th_n ?_
  refine wp_seq ?_
  refine wp_seq ?_
  refine region_seq ?_
  refine seq_step rfl (op_call henv rfl Tryd.call17 rfl (live_true _) ?_)
  rintro e w3 ⟨rfl, hb⟩
  refine ⟨_, rfl, ?_⟩
  clear henv a; intro a henv
  replace hst := hst.call hb
  clear hb
  refine seq_step rfl (op_val (v := .bool false) henv rfl (rn_un henv rfl rfl) ?_)
  clear henv a; intro a henv
  refine wpList_nil ?_
  refine th_n ?_
  refine if_f henv rfl (rfl) ?_
  refine wp_skip ?_
  refine th_n ?_
  refine wp_seq ?_
  refine wp_seq ?_
  refine region_seq ?_
  refine seq_step rfl (op_val (v := .agg #[.bool b0, .slice A0 n0 c0]) henv rfl (rn_load0 henv ty_anvil_anvillaw02_Num rfl (hst.oat (k := 0) rfl) rfl) ?_)
  clear henv a; intro a henv
  refine seq_step rfl (op_buildSlice (z := 2) (pv := #[(0, .agg #[.bool b0, .slice A0 n0 c0])]) (c := #[.bool b0, .slice A0 n0 c0]) henv hst rfl Tryd.underlying95 (ty_anvil_anvillaw02_Num.size) zero_anvil_anvillaw02_Num (by decide) (by decide) rfl (by kernel_rfl) ?_)
  clear henv hst a; intro a w5 g4 henv hst
  refine seq_step rfl (op_call henv rfl Tryd.call18 rfl (long_own1 (hst.oat (k := 0) rfl) hL0 true (by simp; omega)) ?_)
  rintro e w6 ⟨rfl, hb⟩
  refine ⟨_, rfl, ?_⟩
  clear henv a; intro a henv
  replace hst := hst.call hb
  clear hb
  refine seq_step rfl (op_val (v := .bool true) henv rfl (rn_move henv rfl) ?_)
  clear henv a; intro a henv
  refine seq_skip rfl henv rfl rfl rfl rfl ?_
  clear henv a; intro a henv
  refine seq_skip rfl henv rfl rfl rfl rfl ?_
  clear henv a; intro a henv
  refine seq_skip rfl henv rfl rfl rfl rfl ?_
  clear henv a; intro a henv
  refine seq_skip rfl henv rfl rfl rfl rfl ?_
  clear henv a; intro a henv
  refine seq_skip rfl henv rfl rfl rfl rfl ?_
  clear henv a; intro a henv
  refine seq_skip rfl henv rfl rfl rfl rfl ?_
  clear henv a; intro a henv
  refine seq_step rfl (op_val (v := .bool true) henv rfl (rn_pick henv rfl rfl) ?_)
  clear henv a; intro a henv
  refine wpList_nil ?_
  refine th_n ?_
  refine if_t henv rfl (rfl) ?_
  refine wp_seq ?_
  refine region_seq ?_
  refine seq_step rfl (op_val (v := .bool true) henv rfl (rn_assign henv rfl) ?_)
  clear henv a; intro a henv
  refine wpList_nil ?_
  refine th_n ?_
  refine wp_ret ?_
  refine th_r ?_
  refine leave henv (res1 Tryd.results3 (RV.tmp henv rfl)) ?_
  exact ⟨rfl, hst.below⟩

set_option maxRecDepth 100000 in
theorem law_mid {b0 : Bool} {A0 : Option Addr} {n0 c0 : Nat} {xs0 : List Nat} {i : Int} {w0 : World} (h0 : U32 w0 A0 n0 c0 xs0) (hl : n0 ≤ 60) (hi : 3000 < i) (hj : i ≤ 65536) :
    Calls Tryd.prog 3 #[.agg #[.bool b0, .slice A0 n0 c0], .int .i64 i] w0 fun e w' => e = .returned (.bool true) ∧ Below w0.heap.size w0 w' := by
  refine enter Tryd.func3 rfl Tryd.ntmps3 rfl ?_
  intro a henv hst
  have hL0 := Nat.le_trans h0.cap h0.big
  refine wp_seq ?_
  refine region_seq ?_
  refine seq_step rfl (op_box (c := #[.bool b0, .slice A0 n0 c0]) henv hst rfl rfl rfl ?_)
  clear henv hst a; intro a w2 g1 henv hst
  refine seq_step rfl (op_val (v := .bool false) henv rfl (rn_assign henv rfl) ?_)
  clear henv a; intro a henv
  refine wpList_nil ?_
  refine th_n ?_
  refine wp_seq ?_
  refine wp_seq ?_
  refine region_seq ?_
  refine seq_step rfl (op_call henv rfl Tryd.call17 rfl (live_true _) ?_)
  rintro e w3 ⟨rfl, hb⟩
  refine ⟨_, rfl, ?_⟩
  clear henv a; intro a henv
  replace hst := hst.call hb
  clear hb
  refine seq_step rfl (op_val (v := .bool false) henv rfl (rn_un henv rfl rfl) ?_)
  clear henv a; intro a henv
  refine wpList_nil ?_
  refine th_n ?_
  refine if_f henv rfl (rfl) ?_
  refine wp_skip ?_
  refine th_n ?_
  refine wp_seq ?_
  refine wp_seq ?_
  refine region_seq ?_
  refine seq_step rfl (op_val (v := .agg #[.bool b0, .slice A0 n0 c0]) henv rfl (rn_load0 henv ty_anvil_anvillaw02_Num rfl (hst.oat (k := 0) rfl) rfl) ?_)
  clear henv a; intro a henv
  refine seq_step rfl (op_buildSlice (z := 2) (pv := #[(0, .agg #[.bool b0, .slice A0 n0 c0])]) (c := #[.bool b0, .slice A0 n0 c0]) henv hst rfl Tryd.underlying95 (ty_anvil_anvillaw02_Num.size) zero_anvil_anvillaw02_Num (by decide) (by decide) rfl (by kernel_rfl) ?_)
  clear henv hst a; intro a w5 g4 henv hst
  refine seq_step rfl (op_call henv rfl Tryd.call18 rfl (long_own1 (hst.oat (k := 0) rfl) hL0 false (by simp; omega)) ?_)
  rintro e w6 ⟨rfl, hb⟩
  refine ⟨_, rfl, ?_⟩
  clear henv a; intro a henv
  replace hst := hst.call hb
  clear hb
  refine seq_step rfl (op_val (v := .bool false) henv rfl (rn_move henv rfl) ?_)
  clear henv a; intro a henv
  refine seq_g rfl henv rfl rfl (op_val (v := .int .i64 i) henv rfl (rn_move henv rfl) ?_)
  clear henv a; intro a henv
  refine seq_g rfl henv rfl rfl (op_val (v := .bool (decide (i > (3000 : Int)))) henv rfl (rn_bin henv rfl rfl rfl) ?_)
  clear henv a; intro a henv
  rw [show (decide (i > (3000 : Int))) = true from (decide_eq_true (by omega))] at henv
  refine seq_g rfl henv rfl rfl (op_val (v := .bool true) henv rfl (rn_move henv rfl) ?_)
  clear henv a; intro a henv
  refine seq_g rfl henv rfl rfl (op_val (v := .int .i64 i) henv rfl (rn_move henv rfl) ?_)
  clear henv a; intro a henv
  refine seq_g rfl henv rfl rfl (op_val (v := .bool (decide (i ≤ (65536 : Int)))) henv rfl (rn_bin henv rfl rfl rfl) ?_)
  clear henv a; intro a henv
  rw [show (decide (i ≤ (65536 : Int))) = true from (decide_eq_true (by omega))] at henv
  refine seq_g rfl henv rfl rfl (op_val (v := .bool true) henv rfl (rn_pick henv rfl rfl) ?_)
  clear henv a; intro a henv
  refine seq_step rfl (op_val (v := .bool true) henv rfl (rn_pick henv rfl rfl) ?_)
  clear henv a; intro a henv
  refine wpList_nil ?_
  refine th_n ?_
  refine if_t henv rfl (rfl) ?_
  refine wp_seq ?_
  refine region_seq ?_
  refine seq_step rfl (op_val (v := .bool true) henv rfl (rn_assign henv rfl) ?_)
  clear henv a; intro a henv
  refine wpList_nil ?_
  refine th_n ?_
  refine wp_ret ?_
  refine th_r ?_
  refine leave henv (res1 Tryd.results3 (RV.tmp henv rfl)) ?_
  exact ⟨rfl, hst.below⟩

theorem twos_short {b0 : Bool} {A0 : Option Addr} {n0 c0 : Nat} {xs0 : List Nat} {i : Int} {w : World} (h0 : U32 w A0 n0 c0 xs0) (hs0 : n0 ≤ 60) (hT : Deb w) (hi : i ≤ 3000 ∨ 65536 < i) :
    Calls Tryd.prog 3 #[.agg #[.bool b0, .slice A0 n0 c0], .int .i64 i] w fun e w' => e = .returned (.bool true) ∧ Below w.heap.size w w' := by
  by_cases hx : sg b0 (val 4294967296 xs0) = 0
  · by_cases h1 : i < 0
    · exact law_A0 h0 hs0 hx hT h1
    · by_cases h2 : 65536 < i
      · exact law_B0 h0 hs0 hx hT h2
      · obtain ⟨n, rfl⟩ : ∃ n : Nat, i = n := ⟨i.toNat, by omega⟩
        exact law_C0 h0 hs0 hx hT (by omega)
  · by_cases h1 : i < 0
    · exact law_A1 h0 hs0 rfl hT h1 hx
    · by_cases h2 : 65536 < i
      · exact law_B1 h0 hs0 rfl hT h2 hx
      · obtain ⟨n, rfl⟩ : ∃ n : Nat, i = n := ⟨i.toNat, by omega⟩
        by_cases hd : (2 : Int) ^ n ∣ sg b0 (val 4294967296 xs0)
        · exact law_C1 h0 hs0 rfl hT (by omega) hx hd
        · exact law_C2 h0 hs0 rfl hT (by omega) hx hd

theorem twos_law {b0 : Bool} {A0 : Option Addr} {n0 c0 : Nat} {xs0 : List Nat} {i : Int} {w : World} (h0 : U32 w A0 n0 c0 xs0) (hT : Deb w) :
    Calls Tryd.prog 3 #[.agg #[.bool b0, .slice A0 n0 c0], .int .i64 i] w fun e w' => e = .returned (.bool true) ∧ Below w.heap.size w w' := by
  by_cases hl : 60 < n0
  · exact law_long h0 hl
  · by_cases hi : i ≤ 3000 ∨ 65536 < i
    · exact twos_short h0 (by omega) hT hi
    · exact law_mid h0 (by omega) (by omega) (by omega)

end Go.Proofs.YtnldopjbiacbfaaDoor
