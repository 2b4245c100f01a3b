/- What the law of common divisors needs: contracts in the walk's form. No condition. -/
import Derived.Test.YtnldopjbiacbfaaM11
import Derived.Test.YtnldopjbiacbfaaM17
import Derived.Test.YtnldopjbiacbfaaM19
import Derived.Test.YtnldopjbiacbfaaM23
import Derived.Test.YtnldopjbiacbfaaM22

namespace Go.Proofs.Ytnldopjbiacbfaa
open Go.RowKit Anv

/-- How great the second coefficient is. -/
theorem zl_coef {x y u v : Int} (hy : y ≠ 0) (h0 : 0 ≤ u) (h1 : u < (y.natAbs : Int) / (Int.gcd x y : Int)) (h2 : u * x + v * y = (Int.gcd x y : Int)) (hx : zl x ≤ 60) (hm : zl y ≤ 60) : zl u ≤ 60 ∧ zl v ≤ 200 := by
  have hG := gcd_pos (x := x) hy
  have hq : (y.natAbs : Int) / (Int.gcd x y : Int) ≤ y.natAbs := Int.ediv_le_self _ (by omega)
  have hu : zl u ≤ zl y := nl_mono (by omega)
  refine ⟨by omega, ?_⟩
  have hv : v.natAbs ≤ (v * y).natAbs := by rw [Int.natAbs_mul]; exact Nat.le_mul_of_pos_right _ (by omega)
  have he : v * y = (Int.gcd x y : Int) - u * x := by omega
  rw [he] at hv
  have h3 : zl v ≤ zl ((Int.gcd x y : Int) - u * x) := nl_mono hv
  have h4 := zl_sub (Int.gcd x y : Int) (u * x)
  have h5 := zl_mul u x
  have h6 := gcd_zl (x := x) hy
  omega
theorem gcd_zl' (x y : Int) : zl (Int.gcd x y : Int) ≤ zl x + zl y := by
  by_cases hy : y = 0
  · subst hy; rw [Int.gcd_zero_right, zl_abs]; omega
  · have := gcd_zl (x := x) hy; omega
theorem sign_mul_abs (x : Int) : x.sign * x = (x.natAbs : Int) := by
  rcases Int.lt_trichotomy x 0 with h | h | h
  · rw [Int.sign_eq_neg_one_of_neg h]; omega
  · subst h; rfl
  · rw [Int.sign_eq_one_of_pos h]; omega
theorem zl_sign (x : Int) : zl x.sign ≤ 1 := nl_le_of_lt (by have := sign_bd x; omega)

theorem same_true {A B : Option Addr} {c d : Nat} {x y : Int} {w : World} (hx : RIn w A c x) (hy : RIn w B d y) (h : x = y) :
    Calls Try.prog 45 #[.agg #[.bool (neg x), .slice A (dl x) c], .agg #[.bool (neg y), .slice B (dl y) d]] w fun e w' => e = .returned (.bool true) ∧ Below w.heap.size w w' := by
  subst h
  refine (same_r hx hy).mono ?_
  rintro e w' ⟨rfl, hb⟩
  exact ⟨by rw [Int.sub_self]; rfl, hb⟩

end Go.Proofs.Ytnldopjbiacbfaa

/- The law of common divisors, for short numbers. No condition. Printed by pv/gen_common.py. -/
namespace Go.Proofs.Ytnldopjbiacbfaa
open Go.RowKit Anv

set_option maxRecDepth 100000 in
set_option maxHeartbeats 4000000 in
theorem common_y0 {b0 b1 : Bool} {A0 A1 : Option Addr} {n0 n1 c0 c1 : Nat} {xs0 xs1 : List Nat} {x : Int} {w0 : World} (h0 : U32 w0 A0 n0 c0 xs0) (h1 : U32 w0 A1 n1 c1 xs1) (hs0 : n0 ≤ 60) (hs1 : n1 ≤ 60) (hz0 : sg b0 (val 4294967296 xs0) = x) (hz1 : sg b1 (val 4294967296 xs1) = 0) :
    Calls Try.prog 7 #[.agg #[.bool b0, .slice A0 n0 c0], .agg #[.bool b1, .slice A1 n1 c1]] w0 fun e w' => e = .returned (.bool true) ∧ Below w0.heap.size w0 w' := by
  have hx60 : zl x ≤ 60 := by have := given_bd (b := b0) h0; rw [hz0] at this; omega
  have hy60 : zl 0 ≤ 60 := by rw [zl_zero]; omega
  have hdx := dl_zl x
  have hdy := dl_zl 0
  refine enter Try.func7 rfl Try.ntmps7 rfl ?_
  intro a henv hst
  replace hst := hst.addU h0 rfl
  replace hst := hst.addU h1 rfl
  have hL0 := Nat.le_trans h0.cap h0.big
  have hL1 := Nat.le_trans h1.cap h1.big
  clear h0 h1
  refine wp_seq ?_
  refine region_seq ?_
  refine seq_step rfl (op_box (c := #[.bool b0, .slice A0 n0 c0]) henv hst rfl rfl rfl ?_)
  clear henv hst a; intro a w2 g1 henv hst
  refine seq_step rfl (op_box (c := #[.bool b1, .slice A1 n1 c1]) henv hst rfl rfl rfl ?_)
  clear henv hst a; intro a w4 g3 henv hst
  refine seq_step rfl (op_val (v := .bool false) henv rfl (rn_assign henv rfl) ?_)
  clear henv a; intro a henv
  refine wpList_nil ?_
  refine th_n ?_
  refine wp_seq ?_
  refine wp_seq ?_
  refine region_seq ?_
  refine seq_step rfl (op_call henv rfl Try.call8 rfl (live_true _) ?_)
  rintro e w5 ⟨rfl, hb⟩
  refine ⟨_, rfl, ?_⟩
  clear henv a; intro a henv
  replace hst := hst.call hb
  clear hb
  refine seq_step rfl (op_val (v := .bool false) henv rfl (rn_un henv rfl rfl) ?_)
  clear henv a; intro a henv
  refine wpList_nil ?_
  refine th_n ?_
  refine if_f henv rfl (rfl) ?_
  refine wp_skip ?_
  refine th_n ?_
  refine wp_seq ?_
  refine wp_seq ?_
  refine region_seq ?_
  refine seq_step rfl (op_val (v := .agg #[.bool b0, .slice A0 n0 c0]) henv rfl (rn_load0 henv ty_anvil_anvillaw02_Num rfl (hst.oat (k := 1) rfl) rfl) ?_)
  clear henv a; intro a henv
  refine seq_step rfl (op_val (v := .agg #[.bool b1, .slice A1 n1 c1]) henv rfl (rn_load0 henv ty_anvil_anvillaw02_Num rfl (hst.oat (k := 0) rfl) rfl) ?_)
  clear henv a; intro a henv
  refine seq_step rfl (op_buildSlice (z := 2) (pv := #[(0, .agg #[.bool b0, .slice A0 n0 c0]), (1, .agg #[.bool b1, .slice A1 n1 c1])]) (c := #[.bool b0, .slice A0 n0 c0, .bool b1, .slice A1 n1 c1]) henv hst rfl Try.underlying71 (ty_anvil_anvillaw02_Num.size) zero_anvil_anvillaw02_Num (by decide) (by decide) rfl (by kernel_rfl) ?_)
  clear henv hst a; intro a w7 g6 henv hst
  refine seq_step rfl (op_call henv rfl Try.call9 rfl (long_own2 (hst.oat (k := 0) rfl) hL0 hL1 false (by simp; omega)) ?_)
  rintro e w8 ⟨rfl, hb⟩
  refine ⟨_, rfl, ?_⟩
  clear henv a; intro a henv
  replace hst := hst.call hb
  clear hb
  refine wpList_nil ?_
  refine th_n ?_
  refine if_f henv rfl (rfl) ?_
  refine wp_skip ?_
  refine th_n ?_
  refine wp_seq ?_
  refine region_seq ?_
  refine seq_step rfl (op_val (v := .agg #[.bool b0, .slice A0 n0 c0]) henv rfl (rn_load0 henv ty_anvil_anvillaw02_Num rfl (hst.oat (k := 2) rfl) rfl) ?_)
  clear henv a; intro a henv
  refine seq_step rfl (op_call henv rfl Try.call10 rfl (of_given (z := x) (show U32 _ A0 n0 c0 xs0 from hst.pat (k := 1) rfl) hs0 hz0) ?_)
  rintro e w15 ⟨_, _, rfl, ⟨A9, c10, rfl, hz11⟩, ⟨A12, c13, rfl, hz14⟩, hb⟩
  refine ⟨_, rfl, ?_⟩
  clear henv a; intro a henv
  replace hst := ((hst.call hb).addZ hz11 rfl).addR hz14 rfl
  clear hz11 hz14
  clear hb
  refine seq_step rfl (op_val (v := .tuple #[.agg #[.bool (neg x), .slice A9 (zl x) c10], .agg #[.bool (neg x), .slice A12 (dl x) c13]]) henv rfl (rn_move henv rfl) ?_)
  clear henv a; intro a henv
  refine seq_step rfl (op_val (v := .agg #[.bool (neg x), .slice A9 (zl x) c10]) henv rfl (rn_extract henv rfl rfl) ?_)
  clear henv a; intro a henv
  refine seq_step rfl (op_val (v := .agg #[.bool (neg x), .slice A12 (dl x) c13]) henv rfl (rn_extract henv rfl rfl) ?_)
  clear henv a; intro a henv
  refine seq_step rfl (op_alloc (c := #[.bool (neg 0), .slice none (zl 0) 0]) henv hst rfl zero_anvil_integer_Int zcells ?_)
  clear henv hst a; intro a w17 g16 henv hst
  refine seq_step rfl (op_alloc (c := #[.bool (neg 0), .slice none (dl 0) 0]) henv hst rfl zero_anvil_anvilref02_Int rcells ?_)
  clear henv hst a; intro a w19 g18 henv hst
  refine seq_step rfl (op_store (k := 1) (c' := #[.bool (neg x), .slice A9 (zl x) c10]) henv hst (ty_anvil_integer_Int.size) rfl rfl rfl rfl (by simp) rfl rfl ?_)
  clear henv hst a; intro a w20 henv hst
  refine seq_step rfl (op_store (k := 0) (c' := #[.bool (neg x), .slice A12 (dl x) c13]) henv hst (ty_anvil_anvilref02_Int.size) rfl rfl rfl rfl (by simp) rfl rfl ?_)
  clear henv hst a; intro a w21 henv hst
  refine wpList_nil ?_
  refine th_n ?_
  refine wp_seq ?_
  refine region_seq ?_
  refine seq_step rfl (op_val (v := .agg #[.bool b1, .slice A1 n1 c1]) henv rfl (rn_load0 henv ty_anvil_anvillaw02_Num rfl (hst.oat (k := 3) rfl) rfl) ?_)
  clear henv a; intro a henv
  refine seq_step rfl (op_call henv rfl Try.call10 rfl (of_given (z := 0) (show U32 _ A1 n1 c1 xs1 from hst.pat (k := 2) rfl) hs1 hz1) ?_)
  rintro e w28 ⟨_, _, rfl, ⟨A22, c23, rfl, hz24⟩, ⟨A25, c26, rfl, hz27⟩, hb⟩
  refine ⟨_, rfl, ?_⟩
  clear henv a; intro a henv
  replace hst := ((hst.call hb).addZ hz24 rfl).addR hz27 rfl
  clear hz24 hz27
  clear hb
  refine seq_step rfl (op_val (v := .tuple #[.agg #[.bool (neg 0), .slice A22 (zl 0) c23], .agg #[.bool (neg 0), .slice A25 (dl 0) c26]]) henv rfl (rn_move henv rfl) ?_)
  clear henv a; intro a henv
  refine seq_step rfl (op_val (v := .agg #[.bool (neg 0), .slice A22 (zl 0) c23]) henv rfl (rn_extract henv rfl rfl) ?_)
  clear henv a; intro a henv
  refine seq_step rfl (op_val (v := .agg #[.bool (neg 0), .slice A25 (dl 0) c26]) henv rfl (rn_extract henv rfl rfl) ?_)
  clear henv a; intro a henv
  refine seq_step rfl (op_alloc (c := #[.bool (neg 0), .slice none (zl 0) 0]) henv hst rfl zero_anvil_integer_Int zcells ?_)
  clear henv hst a; intro a w30 g29 henv hst
  refine seq_step rfl (op_alloc (c := #[.bool (neg 0), .slice none (dl 0) 0]) henv hst rfl zero_anvil_anvilref02_Int rcells ?_)
  clear henv hst a; intro a w32 g31 henv hst
  refine seq_step rfl (op_store (k := 1) (c' := #[.bool (neg 0), .slice A22 (zl 0) c23]) henv hst (ty_anvil_integer_Int.size) rfl rfl rfl rfl (by simp) rfl rfl ?_)
  clear henv hst a; intro a w33 henv hst
  refine seq_step rfl (op_store (k := 0) (c' := #[.bool (neg 0), .slice A25 (dl 0) c26]) henv hst (ty_anvil_anvilref02_Int.size) rfl rfl rfl rfl (by simp) rfl rfl ?_)
  clear henv hst a; intro a w34 henv hst
  refine wpList_nil ?_
  refine th_n ?_
  refine wp_seq ?_
  refine region_seq ?_
  refine seq_step rfl (op_val (v := .agg #[.bool (neg x), .slice A12 (dl x) c13]) henv rfl (rn_load0 henv ty_anvil_anvilref02_Int rfl (hst.oat (k := 2) rfl) rfl) ?_)
  clear henv a; intro a henv
  refine seq_step rfl (op_val (v := .agg #[.bool (neg 0), .slice A25 (dl 0) c26]) henv rfl (rn_load0 henv ty_anvil_anvilref02_Int rfl (hst.oat (k := 0) rfl) rfl) ?_)
  clear henv a; intro a henv
  refine seq_step rfl (op_call henv rfl Try.call40 rfl (gcd_r (x := x) (y := 0) (show RIn _ A12 c13 x from hst.pat (k := 2) rfl) (show RIn _ A25 c26 0 from hst.pat (k := 0) rfl) (by omega) (by rw [dl_zero]; omega)) ?_)
  rintro e w38 ⟨_, rfl, ⟨A35, c36, rfl, hz37⟩, hb⟩
  refine ⟨_, rfl, ?_⟩
  clear henv a; intro a henv
  replace hst := (hst.call hb).addR hz37 rfl
  clear hz37
  clear hb
  refine seq_step rfl (op_alloc (c := #[.bool (neg 0), .slice none (dl 0) 0]) henv hst rfl zero_anvil_anvilref02_Int rcells ?_)
  clear henv hst a; intro a w40 g39 henv hst
  refine seq_step rfl (op_store (k := 0) (c' := #[.bool (neg ((Int.gcd x 0 : Nat) : Int)), .slice A35 (dl ((Int.gcd x 0 : Nat) : Int)) c36]) henv hst (ty_anvil_anvilref02_Int.size) rfl rfl rfl rfl (by simp) rfl rfl ?_)
  clear henv hst a; intro a w41 henv hst
  refine wpList_nil ?_
  refine th_n ?_
  refine wp_seq ?_
  refine region_seq ?_
  refine seq_step rfl (op_val (v := .agg #[.bool (neg x), .slice A9 (zl x) c10]) henv rfl (rn_load0 henv ty_anvil_integer_Int rfl (hst.oat (k := 4) rfl) rfl) ?_)
  clear henv a; intro a henv
  refine seq_step rfl (op_val (v := .agg #[.bool (neg 0), .slice A22 (zl 0) c23]) henv rfl (rn_load0 henv ty_anvil_integer_Int rfl (hst.oat (k := 2) rfl) rfl) ?_)
  clear henv a; intro a henv
  refine seq_step rfl (op_call henv rfl Try.call41 rfl (bezout_z0 (x := x) (show ZIn _ A9 c10 x from hst.pat (k := 4) rfl) (show ZIn _ A22 c23 0 from hst.pat (k := 2) rfl)) ?_)
  rintro e w51 ⟨_, _, _, rfl, ⟨A42, c43, rfl, hz44⟩, ⟨A45, c46, rfl, hz47⟩, ⟨A48, c49, rfl, hz50⟩, hb⟩
  refine ⟨_, rfl, ?_⟩
  clear henv a; intro a henv
  replace hst := (((hst.call hb).addZ hz44 rfl).addZ hz47 rfl).addZ hz50 rfl
  clear hz44 hz47 hz50
  clear hb
  refine seq_step rfl (op_val (v := .tuple #[.agg #[.bool (neg (x.natAbs : Int)), .slice A42 (zl (x.natAbs : Int)) c43], .agg #[.bool (neg x.sign), .slice A45 (zl x.sign) c46], .agg #[.bool (neg 0), .slice A48 (zl 0) c49]]) henv rfl (rn_move henv rfl) ?_)
  clear henv a; intro a henv
  refine seq_step rfl (op_val (v := .agg #[.bool (neg (x.natAbs : Int)), .slice A42 (zl (x.natAbs : Int)) c43]) henv rfl (rn_extract henv rfl rfl) ?_)
  clear henv a; intro a henv
  refine seq_step rfl (op_val (v := .agg #[.bool (neg x.sign), .slice A45 (zl x.sign) c46]) henv rfl (rn_extract henv rfl rfl) ?_)
  clear henv a; intro a henv
  refine seq_step rfl (op_val (v := .agg #[.bool (neg 0), .slice A48 (zl 0) c49]) henv rfl (rn_extract henv rfl rfl) ?_)
  clear henv a; intro a henv
  refine seq_step rfl (op_alloc (c := #[.bool (neg 0), .slice none (zl 0) 0]) henv hst rfl zero_anvil_integer_Int zcells ?_)
  clear henv hst a; intro a w53 g52 henv hst
  refine seq_step rfl (op_alloc (c := #[.bool (neg 0), .slice none (zl 0) 0]) henv hst rfl zero_anvil_integer_Int zcells ?_)
  clear henv hst a; intro a w55 g54 henv hst
  refine seq_step rfl (op_alloc (c := #[.bool (neg 0), .slice none (zl 0) 0]) henv hst rfl zero_anvil_integer_Int zcells ?_)
  clear henv hst a; intro a w57 g56 henv hst
  refine seq_step rfl (op_store (k := 2) (c' := #[.bool (neg (x.natAbs : Int)), .slice A42 (zl (x.natAbs : Int)) c43]) henv hst (ty_anvil_integer_Int.size) rfl rfl rfl rfl (by simp) rfl rfl ?_)
  clear henv hst a; intro a w58 henv hst
  refine seq_step rfl (op_store (k := 1) (c' := #[.bool (neg x.sign), .slice A45 (zl x.sign) c46]) henv hst (ty_anvil_integer_Int.size) rfl rfl rfl rfl (by simp) rfl rfl ?_)
  clear henv hst a; intro a w59 henv hst
  refine seq_step rfl (op_store (k := 0) (c' := #[.bool (neg 0), .slice A48 (zl 0) c49]) henv hst (ty_anvil_integer_Int.size) rfl rfl rfl rfl (by simp) rfl rfl ?_)
  clear henv hst a; intro a w60 henv hst
  refine wpList_nil ?_
  have hu60 : zl x.sign ≤ 200 := by have := zl_sign x; omega
  have hv200 : zl 0 ≤ 200 := by rw [zl_zero]; omega
  have hdu := dl_zl x.sign
  have hdv := dl_zl 0
  have hdx := dl_zl x
  have hdy := dl_zl 0
  have hd1 : dl (x.sign * x) ≤ 1000 := by have := dl_mul x.sign x; omega
  have hd2 : dl (0 * 0) ≤ 1000 := by have := dl_mul 0 0; omega
  have hgz := gcd_zl' x 0
  have hgd := dl_zl (Int.gcd x 0 : Int)
  have hxa : zl (x.natAbs : Int) ≤ 1000 := by rw [zl_abs]; omega
  have hxd : dl (x.natAbs : Int) ≤ 1000 := by rw [dl_abs]; omega
  refine th_n ?_
  refine wp_seq ?_
  refine wp_seq ?_
  refine region_any (n := 16) (Sk [⟨g56, #[.bool (neg 0), .slice A48 (zl 0) c49], 28⟩, ⟨g54, #[.bool (neg x.sign), .slice A45 (zl x.sign) c46], 28⟩, ⟨g52, #[.bool (neg (x.natAbs : Int)), .slice A42 (zl (x.natAbs : Int)) c43], 28⟩, ⟨g39, #[.bool (neg ((Int.gcd x 0 : Nat) : Int)), .slice A35 (dl ((Int.gcd x 0 : Nat) : Int)) c36], 30⟩, ⟨g31, #[.bool (neg 0), .slice A25 (dl 0) c26], 30⟩, ⟨g29, #[.bool (neg 0), .slice A22 (zl 0) c23], 28⟩, ⟨g18, #[.bool (neg x), .slice A12 (dl x) c13], 30⟩, ⟨g16, #[.bool (neg x), .slice A9 (zl x) c10], 28⟩, ⟨g6, #[.bool b0, .slice A0 n0 c0, .bool b1, .slice A1 n1 c1], 24⟩, ⟨g3, #[.bool b1, .slice A1 n1 c1], 24⟩, ⟨g1, #[.bool b0, .slice A0 n0 c0], 24⟩] [pfZ A48 c49 0, pfZ A45 c46 x.sign, pfZ A42 c43 (x.natAbs : Int), pfR A35 c36 ((Int.gcd x 0 : Nat) : Int), pfR A25 c26 0, pfZ A22 c23 0, pfR A12 c13 x, pfZ A9 c10 x, pfU A1 n1 c1 xs1, pfU A0 n0 c0 xs0] [] []) mixed rfl henv hst ?_
  clear henv hst; intro w61 henv hst
  refine sAny_take (i := 0) [2, 4, 5, 6, 7, 8, 9, 10, 11, 12, 13, 14, 15] (fun w' => w'.heap[g16]? = some (.cells #[.bool (neg x), .slice A9 (zl x) c10] 28 (0, 0))) (v := .agg #[.bool (neg x), .slice A9 (zl x) c10]) rfl (by kernel_rfl) (fun _ _ _ h => h) (fun _ _ _ hS => hS.1.oat (k := 7) rfl) henv rfl (hst.oat (k := 7) rfl) (fun w' hg => rn_load0 henv ty_anvil_integer_Int rfl hg rfl) ?_
  clear henv a; intro a henv
  refine sAny_take (i := 1) [2, 4, 5, 6, 7, 8, 9, 10, 11, 12, 13, 14, 15] (fun w' => w'.heap[g29]? = some (.cells #[.bool (neg 0), .slice A22 (zl 0) c23] 28 (0, 0))) (v := .agg #[.bool (neg 0), .slice A22 (zl 0) c23]) rfl (by kernel_rfl) (fun _ _ _ h => h) (fun _ _ _ hS => hS.1.oat (k := 5) rfl) henv rfl (hst.oat (k := 5) rfl) (fun w' hg => rn_load0 henv ty_anvil_integer_Int rfl hg rfl) ?_
  clear henv a; intro a henv
  refine sAny_take (i := 3) [4, 5, 6, 7, 8, 9, 10, 11, 12, 13, 14, 15] (fun w' => w'.heap[g39]? = some (.cells #[.bool (neg ((Int.gcd x 0 : Nat) : Int)), .slice A35 (dl ((Int.gcd x 0 : Nat) : Int)) c36] 30 (0, 0))) (v := .agg #[.bool (neg ((Int.gcd x 0 : Nat) : Int)), .slice A35 (dl ((Int.gcd x 0 : Nat) : Int)) c36]) rfl (by kernel_rfl) (fun _ _ _ h => h) (fun _ _ _ hS => hS.1.oat (k := 3) rfl) henv rfl (hst.oat (k := 3) rfl) (fun w' hg => rn_load0 henv ty_anvil_anvilref02_Int rfl hg rfl) ?_
  clear henv a; intro a henv
  refine sAny_one (i := 2) (by kernel_rfl) rfl rfl (op_call henv rfl Try.call42 rfl (gcd_z (x := x) (y := 0) (show ZIn _ A9 c10 x from hst.pat (k := 7) rfl) (show ZIn _ A22 c23 0 from hst.pat (k := 5) rfl) (by omega) (by rw [zl_zero]; omega)) ?_)
  rintro e w65 ⟨_, rfl, ⟨A62, c63, rfl, hz64⟩, hb⟩
  refine ⟨_, rfl, ?_⟩
  clear henv a; intro a henv
  replace hst := (hst.call hb).addZ hz64 rfl
  clear hz64
  clear hb
  refine ⟨.inr ⟨hst.kn.pick [0, 1, 2, 3, 4, 5, 6, 7, 8, 9, 10] [1, 2, 3, 4, 5, 6, 7, 8, 9, 10], .inr (hst.kn.pick [] [])⟩, ?_⟩
  refine sAny_one (i := 4) (by kernel_rfl) rfl rfl (op_call henv rfl Try.call15 rfl (is_same (z := ((Int.gcd x 0 : Nat) : Int)) (y := ((Int.gcd x 0 : Nat) : Int)) (show ZIn _ A62 c63 ((Int.gcd x 0 : Nat) : Int) from hst.pat (k := 0) rfl) (show RIn _ A35 c36 ((Int.gcd x 0 : Nat) : Int) from hst.pat (k := 4) rfl) rfl (by omega) (by omega)) ?_)
  rintro e w66 ⟨rfl, hb⟩
  refine ⟨_, rfl, ?_⟩
  clear henv a; intro a henv
  replace hst := hst.call hb
  clear hb
  refine ⟨.inr ⟨hst.kn.pick [0, 1, 2, 3, 4, 5, 6, 7, 8, 9, 10] [1, 2, 3, 4, 5, 6, 7, 8, 9, 10], .inr (hst.kn.pick [] [])⟩, ?_⟩
  refine sAny_take (i := 5) [6, 7, 8, 9, 10, 11, 12, 13, 14, 15] (fun _ => True) (v := .bool false) rfl (by kernel_rfl) (fun _ _ _ h => h) (fun _ _ _ _ => trivial) henv rfl trivial (fun w' _ => rn_un henv rfl rfl) ?_
  clear henv a; intro a henv
  refine sAny_take (i := 6) [7, 8, 9, 10, 11, 12, 13, 14, 15] (fun _ => True) (v := .bool false) rfl (by kernel_rfl) (fun _ _ _ h => h) (fun _ _ _ _ => trivial) henv rfl trivial (fun w' _ => rn_move henv rfl) ?_
  clear henv a; intro a henv
  refine sAny_takeg (i := 7) [9, 10, 11, 12, 13, 14, 15] (fun w' => w'.heap[g52]? = some (.cells #[.bool (neg (x.natAbs : Int)), .slice A42 (zl (x.natAbs : Int)) c43] 28 (0, 0))) (v := .agg #[.bool (neg (x.natAbs : Int)), .slice A42 (zl (x.natAbs : Int)) c43]) rfl (by kernel_rfl) (fun _ _ _ h => h) (fun _ _ _ hS => hS.1.oat (k := 2) rfl) henv rfl rfl rfl rfl (hst.oat (k := 2) rfl) (fun w' hg => rn_load0 henv ty_anvil_integer_Int rfl hg rfl) ?_
  clear henv a; intro a henv
  refine sAny_takeg (i := 8) [9, 10, 11, 12, 13, 14, 15] (fun w' => w'.heap[g39]? = some (.cells #[.bool (neg ((Int.gcd x 0 : Nat) : Int)), .slice A35 (dl ((Int.gcd x 0 : Nat) : Int)) c36] 30 (0, 0))) (v := .agg #[.bool (neg ((Int.gcd x 0 : Nat) : Int)), .slice A35 (dl ((Int.gcd x 0 : Nat) : Int)) c36]) rfl (by kernel_rfl) (fun _ _ _ h => h) (fun _ _ _ hS => hS.1.oat (k := 3) rfl) henv rfl rfl rfl rfl (hst.oat (k := 3) rfl) (fun w' hg => rn_load0 henv ty_anvil_anvilref02_Int rfl hg rfl) ?_
  clear henv a; intro a henv
  refine sAny_oneg (i := 9) (by kernel_rfl) rfl rfl henv rfl rfl rfl (op_call henv rfl Try.call15 rfl (is_same (z := (x.natAbs : Int)) (y := ((Int.gcd x 0 : Nat) : Int)) (show ZIn _ A42 c43 (x.natAbs : Int) from hst.pat (k := 3) rfl) (show RIn _ A35 c36 ((Int.gcd x 0 : Nat) : Int) from hst.pat (k := 4) rfl) (by rw [Int.gcd_zero_right]) (by omega) (by omega)) ?_)
  rintro e w67 ⟨rfl, hb⟩
  refine ⟨_, rfl, ?_⟩
  clear henv a; intro a henv
  replace hst := hst.call hb
  clear hb
  refine ⟨.inr ⟨hst.kn.pick [0, 1, 2, 3, 4, 5, 6, 7, 8, 9, 10] [1, 2, 3, 4, 5, 6, 7, 8, 9, 10], .inr (hst.kn.pick [] [])⟩, ?_⟩
  refine sAny_takeg (i := 10) [11, 12, 13, 14, 15] (fun _ => True) (v := .bool false) rfl (by kernel_rfl) (fun _ _ _ h => h) (fun _ _ _ _ => trivial) henv rfl rfl rfl rfl trivial (fun w' _ => rn_un henv rfl rfl) ?_
  clear henv a; intro a henv
  refine sAny_take (i := 11) [12, 13, 14, 15] (fun _ => True) (v := .bool false) rfl (by kernel_rfl) (fun _ _ _ h => h) (fun _ _ _ _ => trivial) henv rfl trivial (fun w' _ => rn_pick henv rfl rfl) ?_
  clear henv a; intro a henv
  refine sAny_take (i := 12) [13, 14, 15] (fun _ => True) (v := .bool false) rfl (by kernel_rfl) (fun _ _ _ h => h) (fun _ _ _ _ => trivial) henv rfl trivial (fun w' _ => rn_move henv rfl) ?_
  clear henv a; intro a henv
  refine sAny_oneg (i := 13) (by kernel_rfl) rfl rfl henv rfl rfl rfl (op_call henv rfl Try.call8 rfl (live_true _) ?_)
  rintro e w68 ⟨rfl, hb⟩
  refine ⟨_, rfl, ?_⟩
  clear henv a; intro a henv
  replace hst := hst.call hb
  clear hb
  refine ⟨.inr ⟨hst.kn.pick [0, 1, 2, 3, 4, 5, 6, 7, 8, 9, 10] [1, 2, 3, 4, 5, 6, 7, 8, 9, 10], .inr (hst.kn.pick [] [])⟩, ?_⟩
  refine sAny_takeg (i := 14) [15] (fun _ => True) (v := .bool false) rfl (by kernel_rfl) (fun _ _ _ h => h) (fun _ _ _ _ => trivial) henv rfl rfl rfl rfl trivial (fun w' _ => rn_un henv rfl rfl) ?_
  clear henv a; intro a henv
  refine sAny_take (i := 15) [] (fun _ => True) (v := .bool false) rfl (by kernel_rfl) (fun _ _ _ h => h) (fun _ _ _ _ => trivial) henv rfl trivial (fun w' _ => rn_pick henv rfl rfl) ?_
  clear henv a; intro a henv
  refine sAny_done (by kernel_rfl) ?_ _
  refine th_n ?_
  refine if_f henv rfl (rfl) ?_
  refine wp_skip ?_
  refine th_n ?_
  refine wp_seq ?_
  refine region_seq ?_
  refine seq_step rfl (op_val (v := .agg #[.bool (neg x.sign), .slice A45 (zl x.sign) c46]) henv rfl (rn_load0 henv ty_anvil_integer_Int rfl (hst.oat (k := 1) rfl) rfl) ?_)
  clear henv a; intro a henv
  refine seq_step rfl (op_call henv rfl Try.call43 rfl (limbs_z (z := x.sign) (show ZIn _ A45 c46 x.sign from hst.pat (k := 2) rfl) (by omega)) ?_)
  rintro e w72 ⟨A69, c70, rfl, hz71, -, hb⟩
  refine ⟨_, rfl, ?_⟩
  clear henv a; intro a henv
  replace hst := (hst.call hb).addZ hz71 rfl
  clear hz71
  clear hb
  refine seq_step rfl (op_val (v := .tuple #[.bool (neg x.sign), .slice A69 (zl x.sign) c70]) henv rfl (rn_move henv rfl) ?_)
  clear henv a; intro a henv
  refine seq_step rfl (op_val (v := .bool (neg x.sign)) henv rfl (rn_extract henv rfl rfl) ?_)
  clear henv a; intro a henv
  refine seq_step rfl (op_val (v := .slice A69 (zl x.sign) c70) henv rfl (rn_extract henv rfl rfl) ?_)
  clear henv a; intro a henv
  refine seq_step rfl (op_val (v := .bool (neg x.sign)) henv rfl (rn_assign henv rfl) ?_)
  clear henv a; intro a henv
  refine seq_step rfl (op_val (v := .slice A69 (zl x.sign) c70) henv rfl (rn_assign henv rfl) ?_)
  clear henv a; intro a henv
  refine wpList_nil ?_
  refine th_n ?_
  refine wp_seq ?_
  refine region_seq ?_
  refine seq_step rfl (op_val (v := .agg #[.bool (neg 0), .slice A48 (zl 0) c49]) henv rfl (rn_load0 henv ty_anvil_integer_Int rfl (hst.oat (k := 0) rfl) rfl) ?_)
  clear henv a; intro a henv
  refine seq_step rfl (op_call henv rfl Try.call43 rfl (limbs_z (z := 0) (show ZIn _ A48 c49 0 from hst.pat (k := 2) rfl) (by rw [zl_zero]; omega)) ?_)
  rintro e w76 ⟨A73, c74, rfl, hz75, -, hb⟩
  refine ⟨_, rfl, ?_⟩
  clear henv a; intro a henv
  replace hst := (hst.call hb).addZ hz75 rfl
  clear hz75
  clear hb
  refine seq_step rfl (op_val (v := .tuple #[.bool (neg 0), .slice A73 (zl 0) c74]) henv rfl (rn_move henv rfl) ?_)
  clear henv a; intro a henv
  refine seq_step rfl (op_val (v := .bool (neg 0)) henv rfl (rn_extract henv rfl rfl) ?_)
  clear henv a; intro a henv
  refine seq_step rfl (op_val (v := .slice A73 (zl 0) c74) henv rfl (rn_extract henv rfl rfl) ?_)
  clear henv a; intro a henv
  refine seq_step rfl (op_val (v := .bool (neg 0)) henv rfl (rn_assign henv rfl) ?_)
  clear henv a; intro a henv
  refine seq_step rfl (op_val (v := .slice A73 (zl 0) c74) henv rfl (rn_assign henv rfl) ?_)
  clear henv a; intro a henv
  refine wpList_nil ?_
  refine th_n ?_
  refine wp_seq ?_
  refine region_seq ?_
  refine seq_step rfl (op_val (v := .bool (neg x.sign)) henv rfl (rn_move henv rfl) ?_)
  clear henv a; intro a henv
  refine seq_step rfl (op_val (v := .slice A69 (zl x.sign) c70) henv rfl (rn_move henv rfl) ?_)
  clear henv a; intro a henv
  refine seq_step rfl (op_call henv rfl Try.call44 rfl (make_rz (z := x.sign) (show ZIn _ A69 c70 x.sign from hst.pat (k := 1) rfl) (by omega)) ?_)
  rintro e w80 ⟨_, rfl, ⟨A77, c78, rfl, hz79⟩, hb⟩
  refine ⟨_, rfl, ?_⟩
  clear henv a; intro a henv
  replace hst := (hst.call hb).addR hz79 rfl
  clear hz79
  clear hb
  refine seq_step rfl (op_val (v := .bool (neg 0)) henv rfl (rn_move henv rfl) ?_)
  clear henv a; intro a henv
  refine seq_step rfl (op_val (v := .slice A73 (zl 0) c74) henv rfl (rn_move henv rfl) ?_)
  clear henv a; intro a henv
  refine seq_step rfl (op_call henv rfl Try.call44 rfl (make_rz (z := 0) (show ZIn _ A73 c74 0 from hst.pat (k := 1) rfl) (by rw [zl_zero]; omega)) ?_)
  rintro e w84 ⟨_, rfl, ⟨A81, c82, rfl, hz83⟩, hb⟩
  refine ⟨_, rfl, ?_⟩
  clear henv a; intro a henv
  replace hst := (hst.call hb).addR hz83 rfl
  clear hz83
  clear hb
  refine seq_step rfl (op_alloc (c := #[.bool (neg 0), .slice none (dl 0) 0]) henv hst rfl zero_anvil_anvilref02_Int rcells ?_)
  clear henv hst a; intro a w86 g85 henv hst
  refine seq_step rfl (op_alloc (c := #[.bool (neg 0), .slice none (dl 0) 0]) henv hst rfl zero_anvil_anvilref02_Int rcells ?_)
  clear henv hst a; intro a w88 g87 henv hst
  refine seq_step rfl (op_store (k := 1) (c' := #[.bool (neg x.sign), .slice A77 (dl x.sign) c78]) henv hst (ty_anvil_anvilref02_Int.size) rfl rfl rfl rfl (by simp) rfl rfl ?_)
  clear henv hst a; intro a w89 henv hst
  refine seq_step rfl (op_store (k := 0) (c' := #[.bool (neg 0), .slice A81 (dl 0) c82]) henv hst (ty_anvil_anvilref02_Int.size) rfl rfl rfl rfl (by simp) rfl rfl ?_)
  clear henv hst a; intro a w90 henv hst
  refine wpList_nil ?_
  refine th_n ?_
  refine wp_seq ?_
  refine cut (fun a w => ∃ A92 : Option Addr, ∃ c93 : Nat, ∃ A96 : Option Addr, ∃ c97 : Nat, ∃ A100 : Option Addr, ∃ c101 : Nat, ∃ g104 : Nat, Env 120 a [(0, .agg #[.bool b0, .slice A0 n0 c0]), (1, .agg #[.bool b1, .slice A1 n1 c1]), (2, .pointer (some ⟨g1, 0, none⟩)), (3, .pointer (some ⟨g3, 0, none⟩)), (4, .bool false), (22, .bool true), (23, .bool false), (24, .agg #[.bool b0, .slice A0 n0 c0]), (25, .agg #[.bool b1, .slice A1 n1 c1]), (26, .slice (some ⟨g6, 0, none⟩) 2 2), (27, .bool false), (29, .agg #[.bool b0, .slice A0 n0 c0]), (30, .tuple #[.agg #[.bool (neg x), .slice A9 (zl x) c10], .agg #[.bool (neg x), .slice A12 (dl x) c13]]), (28, .tuple #[.agg #[.bool (neg x), .slice A9 (zl x) c10], .agg #[.bool (neg x), .slice A12 (dl x) c13]]), (31, .agg #[.bool (neg x), .slice A9 (zl x) c10]), (32, .agg #[.bool (neg x), .slice A12 (dl x) c13]), (5, .pointer (some ⟨g16, 0, none⟩)), (6, .pointer (some ⟨g18, 0, none⟩)), (34, .agg #[.bool b1, .slice A1 n1 c1]), (35, .tuple #[.agg #[.bool (neg 0), .slice A22 (zl 0) c23], .agg #[.bool (neg 0), .slice A25 (dl 0) c26]]), (33, .tuple #[.agg #[.bool (neg 0), .slice A22 (zl 0) c23], .agg #[.bool (neg 0), .slice A25 (dl 0) c26]]), (36, .agg #[.bool (neg 0), .slice A22 (zl 0) c23]), (37, .agg #[.bool (neg 0), .slice A25 (dl 0) c26]), (7, .pointer (some ⟨g29, 0, none⟩)), (8, .pointer (some ⟨g31, 0, none⟩)), (38, .agg #[.bool (neg x), .slice A12 (dl x) c13]), (39, .agg #[.bool (neg 0), .slice A25 (dl 0) c26]), (40, .agg #[.bool (neg ((Int.gcd x 0 : Nat) : Int)), .slice A35 (dl ((Int.gcd x 0 : Nat) : Int)) c36]), (9, .pointer (some ⟨g39, 0, none⟩)), (42, .agg #[.bool (neg x), .slice A9 (zl x) c10]), (43, .agg #[.bool (neg 0), .slice A22 (zl 0) c23]), (44, .tuple #[.agg #[.bool (neg (x.natAbs : Int)), .slice A42 (zl (x.natAbs : Int)) c43], .agg #[.bool (neg x.sign), .slice A45 (zl x.sign) c46], .agg #[.bool (neg 0), .slice A48 (zl 0) c49]]), (41, .tuple #[.agg #[.bool (neg (x.natAbs : Int)), .slice A42 (zl (x.natAbs : Int)) c43], .agg #[.bool (neg x.sign), .slice A45 (zl x.sign) c46], .agg #[.bool (neg 0), .slice A48 (zl 0) c49]]), (45, .agg #[.bool (neg (x.natAbs : Int)), .slice A42 (zl (x.natAbs : Int)) c43]), (46, .agg #[.bool (neg x.sign), .slice A45 (zl x.sign) c46]), (47, .agg #[.bool (neg 0), .slice A48 (zl 0) c49]), (10, .pointer (some ⟨g52, 0, none⟩)), (11, .pointer (some ⟨g54, 0, none⟩)), (12, .pointer (some ⟨g56, 0, none⟩)), (48, .agg #[.bool (neg x), .slice A9 (zl x) c10]), (49, .agg #[.bool (neg 0), .slice A22 (zl 0) c23]), (51, .agg #[.bool (neg ((Int.gcd x 0 : Nat) : Int)), .slice A35 (dl ((Int.gcd x 0 : Nat) : Int)) c36]), (50, .agg #[.bool (neg ((Int.gcd x 0 : Nat) : Int)), .slice A62 (zl ((Int.gcd x 0 : Nat) : Int)) c63]), (52, .bool true), (53, .bool false), (54, .bool false), (55, .agg #[.bool (neg (x.natAbs : Int)), .slice A42 (zl (x.natAbs : Int)) c43]), (56, .agg #[.bool (neg ((Int.gcd x 0 : Nat) : Int)), .slice A35 (dl ((Int.gcd x 0 : Nat) : Int)) c36]), (57, .bool true), (58, .bool false), (59, .bool false), (60, .bool false), (61, .bool true), (62, .bool false), (63, .bool false), (65, .agg #[.bool (neg x.sign), .slice A45 (zl x.sign) c46]), (66, .tuple #[.bool (neg x.sign), .slice A69 (zl x.sign) c70]), (64, .tuple #[.bool (neg x.sign), .slice A69 (zl x.sign) c70]), (67, .bool (neg x.sign)), (68, .slice A69 (zl x.sign) c70), (13, .bool (neg x.sign)), (14, .slice A69 (zl x.sign) c70), (70, .agg #[.bool (neg 0), .slice A48 (zl 0) c49]), (71, .tuple #[.bool (neg 0), .slice A73 (zl 0) c74]), (69, .tuple #[.bool (neg 0), .slice A73 (zl 0) c74]), (72, .bool (neg 0)), (73, .slice A73 (zl 0) c74), (15, .bool (neg 0)), (16, .slice A73 (zl 0) c74), (74, .bool (neg x.sign)), (75, .slice A69 (zl x.sign) c70), (76, .agg #[.bool (neg x.sign), .slice A77 (dl x.sign) c78]), (77, .bool (neg 0)), (78, .slice A73 (zl 0) c74), (79, .agg #[.bool (neg 0), .slice A81 (dl 0) c82]), (17, .pointer (some ⟨g85, 0, none⟩)), (18, .pointer (some ⟨g87, 0, none⟩)), (19, .pointer (some ⟨g104, 0, none⟩))] ∧ St w0 w [⟨g104, #[.bool (neg ((x.sign * x) + (0 * 0))), .slice A100 (dl ((x.sign * x) + (0 * 0))) c101], 30⟩, ⟨g87, #[.bool (neg 0), .slice A81 (dl 0) c82], 30⟩, ⟨g85, #[.bool (neg x.sign), .slice A77 (dl x.sign) c78], 30⟩, ⟨g56, #[.bool (neg 0), .slice A48 (zl 0) c49], 28⟩, ⟨g54, #[.bool (neg x.sign), .slice A45 (zl x.sign) c46], 28⟩, ⟨g52, #[.bool (neg (x.natAbs : Int)), .slice A42 (zl (x.natAbs : Int)) c43], 28⟩, ⟨g39, #[.bool (neg ((Int.gcd x 0 : Nat) : Int)), .slice A35 (dl ((Int.gcd x 0 : Nat) : Int)) c36], 30⟩, ⟨g31, #[.bool (neg 0), .slice A25 (dl 0) c26], 30⟩, ⟨g29, #[.bool (neg 0), .slice A22 (zl 0) c23], 28⟩, ⟨g18, #[.bool (neg x), .slice A12 (dl x) c13], 30⟩, ⟨g16, #[.bool (neg x), .slice A9 (zl x) c10], 28⟩, ⟨g6, #[.bool b0, .slice A0 n0 c0, .bool b1, .slice A1 n1 c1], 24⟩, ⟨g3, #[.bool b1, .slice A1 n1 c1], 24⟩, ⟨g1, #[.bool b0, .slice A0 n0 c0], 24⟩] [pfR A100 c101 ((x.sign * x) + (0 * 0)), pfR A96 c97 (0 * 0), pfR A92 c93 (x.sign * x), pfR A81 c82 0, pfR A77 c78 x.sign, pfZ A73 c74 0, pfZ A69 c70 x.sign, pfZ A62 c63 ((Int.gcd x 0 : Nat) : Int), pfZ A48 c49 0, pfZ A45 c46 x.sign, pfZ A42 c43 (x.natAbs : Int), pfR A35 c36 ((Int.gcd x 0 : Nat) : Int), pfR A25 c26 0, pfZ A22 c23 0, pfR A12 c13 x, pfZ A9 c10 x, pfU A1 n1 c1 xs1, pfU A0 n0 c0 xs0]) ?_ ?_
  · refine region_any (n := 9) (Sk [⟨g87, #[.bool (neg 0), .slice A81 (dl 0) c82], 30⟩, ⟨g85, #[.bool (neg x.sign), .slice A77 (dl x.sign) c78], 30⟩, ⟨g56, #[.bool (neg 0), .slice A48 (zl 0) c49], 28⟩, ⟨g54, #[.bool (neg x.sign), .slice A45 (zl x.sign) c46], 28⟩, ⟨g52, #[.bool (neg (x.natAbs : Int)), .slice A42 (zl (x.natAbs : Int)) c43], 28⟩, ⟨g39, #[.bool (neg ((Int.gcd x 0 : Nat) : Int)), .slice A35 (dl ((Int.gcd x 0 : Nat) : Int)) c36], 30⟩, ⟨g31, #[.bool (neg 0), .slice A25 (dl 0) c26], 30⟩, ⟨g29, #[.bool (neg 0), .slice A22 (zl 0) c23], 28⟩, ⟨g18, #[.bool (neg x), .slice A12 (dl x) c13], 30⟩, ⟨g16, #[.bool (neg x), .slice A9 (zl x) c10], 28⟩, ⟨g6, #[.bool b0, .slice A0 n0 c0, .bool b1, .slice A1 n1 c1], 24⟩, ⟨g3, #[.bool b1, .slice A1 n1 c1], 24⟩, ⟨g1, #[.bool b0, .slice A0 n0 c0], 24⟩] [pfR A81 c82 0, pfR A77 c78 x.sign, pfZ A73 c74 0, pfZ A69 c70 x.sign, pfZ A62 c63 ((Int.gcd x 0 : Nat) : Int), pfZ A48 c49 0, pfZ A45 c46 x.sign, pfZ A42 c43 (x.natAbs : Int), pfR A35 c36 ((Int.gcd x 0 : Nat) : Int), pfR A25 c26 0, pfZ A22 c23 0, pfR A12 c13 x, pfZ A9 c10 x, pfU A1 n1 c1 xs1, pfU A0 n0 c0 xs0] [8] []) mixed rfl henv hst ?_
    clear henv hst; intro w91 henv hst
    refine sAny_take (i := 0) [2, 5, 6, 8] (fun w' => w'.heap[g85]? = some (.cells #[.bool (neg x.sign), .slice A77 (dl x.sign) c78] 30 (0, 0))) (v := .agg #[.bool (neg x.sign), .slice A77 (dl x.sign) c78]) rfl (by kernel_rfl) (fun _ _ _ h => h) (fun _ _ _ hS => hS.1.oat (k := 1) rfl) henv rfl (hst.oat (k := 1) rfl) (fun w' hg => rn_load0 henv ty_anvil_anvilref02_Int rfl hg rfl) ?_
    clear henv a; intro a henv
    refine sAny_take (i := 1) [2, 5, 6, 8] (fun w' => w'.heap[g18]? = some (.cells #[.bool (neg x), .slice A12 (dl x) c13] 30 (0, 0))) (v := .agg #[.bool (neg x), .slice A12 (dl x) c13]) rfl (by kernel_rfl) (fun _ _ _ h => h) (fun _ _ _ hS => hS.1.oat (k := 8) rfl) henv rfl (hst.oat (k := 8) rfl) (fun w' hg => rn_load0 henv ty_anvil_anvilref02_Int rfl hg rfl) ?_
    clear henv a; intro a henv
    refine sAny_take (i := 3) [5, 6, 8] (fun w' => w'.heap[g87]? = some (.cells #[.bool (neg 0), .slice A81 (dl 0) c82] 30 (0, 0))) (v := .agg #[.bool (neg 0), .slice A81 (dl 0) c82]) rfl (by kernel_rfl) (fun _ _ _ h => h) (fun _ _ _ hS => hS.1.oat (k := 0) rfl) henv rfl (hst.oat (k := 0) rfl) (fun w' hg => rn_load0 henv ty_anvil_anvilref02_Int rfl hg rfl) ?_
    clear henv a; intro a henv
    refine sAny_take (i := 4) [5, 6, 8] (fun w' => w'.heap[g31]? = some (.cells #[.bool (neg 0), .slice A25 (dl 0) c26] 30 (0, 0))) (v := .agg #[.bool (neg 0), .slice A25 (dl 0) c26]) rfl (by kernel_rfl) (fun _ _ _ h => h) (fun _ _ _ hS => hS.1.oat (k := 6) rfl) henv rfl (hst.oat (k := 6) rfl) (fun w' hg => rn_load0 henv ty_anvil_anvilref02_Int rfl hg rfl) ?_
    clear henv a; intro a henv
    refine sAny_all (rs := [2, 7]) (by kernel_rfl) (by simp) ?_
    simp only [List.forall_mem_cons, List.not_mem_nil, false_implies, implies_true, and_true]
    refine ⟨?_, ?_⟩
    · refine ⟨_, rfl, rfl, op_call henv rfl Try.call25 rfl (mul_r (x := x.sign) (y := x) (show RIn _ A77 c78 x.sign from hst.pat (k := 1) rfl) (show RIn _ A12 c13 x from hst.pat (k := 11) rfl) (by omega) (by omega)) ?_⟩
      rintro e w95 ⟨_, rfl, ⟨A92, c93, rfl, hz94⟩, hb⟩
      refine ⟨_, rfl, ?_⟩
      clear henv a; intro a henv
      replace hst := (hst.call hb).addR hz94 rfl
      clear hz94
      clear hb
      refine ⟨.inr ⟨hst.kn.pick [0, 1, 2, 3, 4, 5, 6, 7, 8, 9, 10, 11, 12] [1, 2, 3, 4, 5, 6, 7, 8, 9, 10, 11, 12, 13, 14, 15], .inr (hst.kn.pick [] [])⟩, ?_⟩
      refine sAny_all (rs := [5, 7]) (by kernel_rfl) (by simp) ?_
      simp only [List.forall_mem_cons, List.not_mem_nil, false_implies, implies_true, and_true]
      refine ⟨?_, ?_⟩
      · refine ⟨_, rfl, rfl, op_call henv rfl Try.call25 rfl (mul_r (x := 0) (y := 0) (show RIn _ A81 c82 0 from hst.pat (k := 1) rfl) (show RIn _ A25 c26 0 from hst.pat (k := 10) rfl) (by rw [dl_zero]; omega) (by rw [dl_zero]; omega)) ?_⟩
        rintro e w99 ⟨_, rfl, ⟨A96, c97, rfl, hz98⟩, hb⟩
        refine ⟨_, rfl, ?_⟩
        clear henv a; intro a henv
        replace hst := (hst.call hb).addR hz98 rfl
        clear hz98
        clear hb
        refine ⟨.inr ⟨hst.kn.pick [0, 1, 2, 3, 4, 5, 6, 7, 8, 9, 10, 11, 12] [2, 3, 4, 5, 6, 7, 8, 9, 10, 11, 12, 13, 14, 15, 16], .inr (hst.kn.pick [] [])⟩, ?_⟩
        refine sAny_all (rs := [6, 7]) (by kernel_rfl) (by simp) ?_
        simp only [List.forall_mem_cons, List.not_mem_nil, false_implies, implies_true, and_true]
        refine ⟨?_, ?_⟩
        · refine ⟨_, rfl, rfl, op_call henv rfl Try.call21 rfl (add_r (x := x.sign * x) (y := 0 * 0) (show RIn _ A92 c93 (x.sign * x) from hst.pat (k := 1) rfl) (show RIn _ A96 c97 (0 * 0) from hst.pat (k := 0) rfl) (by omega) (by omega)) ?_⟩
          rintro e w103 ⟨_, rfl, ⟨A100, c101, rfl, hz102⟩, hb⟩
          refine ⟨_, rfl, ?_⟩
          clear henv a; intro a henv
          replace hst := (hst.call hb).addR hz102 rfl
          clear hz102
          clear hb
          refine ⟨.inr ⟨hst.kn.pick [0, 1, 2, 3, 4, 5, 6, 7, 8, 9, 10, 11, 12] [3, 4, 5, 6, 7, 8, 9, 10, 11, 12, 13, 14, 15, 16, 17], .inr (hst.kn.pick [] [])⟩, ?_⟩
          refine sAny_one (i := 7) (by kernel_rfl) rfl rfl (op_alloc (c := #[.bool (neg 0), .slice none (dl 0) 0]) henv hst rfl zero_anvil_anvilref02_Int rcells ?_)
          clear henv hst a; intro a w105 g104 henv hst
          refine ⟨.inr ⟨hst.kn.pick [1, 2, 3, 4, 5, 6, 7, 8, 9, 10, 11, 12, 13] [3, 4, 5, 6, 7, 8, 9, 10, 11, 12, 13, 14, 15, 16, 17], .inr (hst.kn.pick [] [])⟩, ?_⟩
          refine sAny_one (i := 8) (by kernel_rfl) rfl rfl (op_store (k := 0) (c' := #[.bool (neg ((x.sign * x) + (0 * 0))), .slice A100 (dl ((x.sign * x) + (0 * 0))) c101]) henv hst (ty_anvil_anvilref02_Int.size) rfl rfl rfl rfl (by simp) rfl rfl ?_)
          clear henv hst a; intro a w106 henv hst
          refine ⟨.inr ⟨hst.kn.pick [1, 2, 3, 4, 5, 6, 7, 8, 9, 10, 11, 12, 13] [3, 4, 5, 6, 7, 8, 9, 10, 11, 12, 13, 14, 15, 16, 17], .inl rfl⟩, ?_⟩
          refine sAny_done (by kernel_rfl) ?_ _
          exact th_n ⟨A92, c93, A96, c97, A100, c101, g104, henv.sub ⟨rfl, rfl, rfl, rfl, rfl, rfl, rfl, rfl, rfl, rfl, rfl, rfl, rfl, rfl, rfl, rfl, rfl, rfl, rfl, rfl, rfl, rfl, rfl, rfl, rfl, rfl, rfl, rfl, rfl, rfl, rfl, rfl, rfl, rfl, rfl, rfl, rfl, rfl, rfl, rfl, rfl, rfl, rfl, rfl, rfl, rfl, rfl, rfl, rfl, rfl, rfl, rfl, rfl, rfl, rfl, rfl, rfl, rfl, rfl, rfl, rfl, rfl, rfl, rfl, rfl, rfl, rfl, rfl, rfl, rfl, rfl, rfl, rfl, rfl, rfl, rfl, rfl, rfl, trivial⟩, hst.pick [0, 1, 2, 3, 4, 5, 6, 7, 8, 9, 10, 11, 12, 13] [0, 1, 2, 3, 4, 5, 6, 7, 8, 9, 10, 11, 12, 13, 14, 15, 16, 17] (by decide)⟩
        · refine ⟨_, rfl, rfl, op_alloc (c := #[.bool (neg 0), .slice none (dl 0) 0]) henv hst rfl zero_anvil_anvilref02_Int rcells ?_⟩
          clear henv hst a; intro a w108 g107 henv hst
          refine ⟨.inr ⟨hst.kn.pick [1, 2, 3, 4, 5, 6, 7, 8, 9, 10, 11, 12, 13] [2, 3, 4, 5, 6, 7, 8, 9, 10, 11, 12, 13, 14, 15, 16], .inr (hst.kn.pick [] [])⟩, ?_⟩
          refine sAny_one (i := 6) (by kernel_rfl) rfl rfl (op_call henv rfl Try.call21 rfl (add_r (x := x.sign * x) (y := 0 * 0) (show RIn _ A92 c93 (x.sign * x) from hst.pat (k := 1) rfl) (show RIn _ A96 c97 (0 * 0) from hst.pat (k := 0) rfl) (by omega) (by omega)) ?_)
          rintro e w112 ⟨_, rfl, ⟨A109, c110, rfl, hz111⟩, hb⟩
          refine ⟨_, rfl, ?_⟩
          clear henv a; intro a henv
          replace hst := (hst.call hb).addR hz111 rfl
          clear hz111
          clear hb
          refine ⟨.inr ⟨hst.kn.pick [1, 2, 3, 4, 5, 6, 7, 8, 9, 10, 11, 12, 13] [3, 4, 5, 6, 7, 8, 9, 10, 11, 12, 13, 14, 15, 16, 17], .inr (hst.kn.pick [] [])⟩, ?_⟩
          refine sAny_one (i := 8) (by kernel_rfl) rfl rfl (op_store (k := 0) (c' := #[.bool (neg ((x.sign * x) + (0 * 0))), .slice A109 (dl ((x.sign * x) + (0 * 0))) c110]) henv hst (ty_anvil_anvilref02_Int.size) rfl rfl rfl rfl (by simp) rfl rfl ?_)
          clear henv hst a; intro a w113 henv hst
          refine ⟨.inr ⟨hst.kn.pick [1, 2, 3, 4, 5, 6, 7, 8, 9, 10, 11, 12, 13] [3, 4, 5, 6, 7, 8, 9, 10, 11, 12, 13, 14, 15, 16, 17], .inl rfl⟩, ?_⟩
          refine sAny_done (by kernel_rfl) ?_ _
          exact th_n ⟨A92, c93, A96, c97, A109, c110, g107, henv.sub ⟨rfl, rfl, rfl, rfl, rfl, rfl, rfl, rfl, rfl, rfl, rfl, rfl, rfl, rfl, rfl, rfl, rfl, rfl, rfl, rfl, rfl, rfl, rfl, rfl, rfl, rfl, rfl, rfl, rfl, rfl, rfl, rfl, rfl, rfl, rfl, rfl, rfl, rfl, rfl, rfl, rfl, rfl, rfl, rfl, rfl, rfl, rfl, rfl, rfl, rfl, rfl, rfl, rfl, rfl, rfl, rfl, rfl, rfl, rfl, rfl, rfl, rfl, rfl, rfl, rfl, rfl, rfl, rfl, rfl, rfl, rfl, rfl, rfl, rfl, rfl, rfl, rfl, rfl, trivial⟩, hst.pick [0, 1, 2, 3, 4, 5, 6, 7, 8, 9, 10, 11, 12, 13] [0, 1, 2, 3, 4, 5, 6, 7, 8, 9, 10, 11, 12, 13, 14, 15, 16, 17] (by decide)⟩
      · refine ⟨_, rfl, rfl, op_alloc (c := #[.bool (neg 0), .slice none (dl 0) 0]) henv hst rfl zero_anvil_anvilref02_Int rcells ?_⟩
        clear henv hst a; intro a w115 g114 henv hst
        refine ⟨.inr ⟨hst.kn.pick [1, 2, 3, 4, 5, 6, 7, 8, 9, 10, 11, 12, 13] [1, 2, 3, 4, 5, 6, 7, 8, 9, 10, 11, 12, 13, 14, 15], .inr (hst.kn.pick [] [])⟩, ?_⟩
        refine sAny_one (i := 5) (by kernel_rfl) rfl rfl (op_call henv rfl Try.call25 rfl (mul_r (x := 0) (y := 0) (show RIn _ A81 c82 0 from hst.pat (k := 1) rfl) (show RIn _ A25 c26 0 from hst.pat (k := 10) rfl) (by rw [dl_zero]; omega) (by rw [dl_zero]; omega)) ?_)
        rintro e w119 ⟨_, rfl, ⟨A116, c117, rfl, hz118⟩, hb⟩
        refine ⟨_, rfl, ?_⟩
        clear henv a; intro a henv
        replace hst := (hst.call hb).addR hz118 rfl
        clear hz118
        clear hb
        refine ⟨.inr ⟨hst.kn.pick [1, 2, 3, 4, 5, 6, 7, 8, 9, 10, 11, 12, 13] [2, 3, 4, 5, 6, 7, 8, 9, 10, 11, 12, 13, 14, 15, 16], .inr (hst.kn.pick [] [])⟩, ?_⟩
        refine sAny_one (i := 6) (by kernel_rfl) rfl rfl (op_call henv rfl Try.call21 rfl (add_r (x := x.sign * x) (y := 0 * 0) (show RIn _ A92 c93 (x.sign * x) from hst.pat (k := 1) rfl) (show RIn _ A116 c117 (0 * 0) from hst.pat (k := 0) rfl) (by omega) (by omega)) ?_)
        rintro e w123 ⟨_, rfl, ⟨A120, c121, rfl, hz122⟩, hb⟩
        refine ⟨_, rfl, ?_⟩
        clear henv a; intro a henv
        replace hst := (hst.call hb).addR hz122 rfl
        clear hz122
        clear hb
        refine ⟨.inr ⟨hst.kn.pick [1, 2, 3, 4, 5, 6, 7, 8, 9, 10, 11, 12, 13] [3, 4, 5, 6, 7, 8, 9, 10, 11, 12, 13, 14, 15, 16, 17], .inr (hst.kn.pick [] [])⟩, ?_⟩
        refine sAny_one (i := 8) (by kernel_rfl) rfl rfl (op_store (k := 0) (c' := #[.bool (neg ((x.sign * x) + (0 * 0))), .slice A120 (dl ((x.sign * x) + (0 * 0))) c121]) henv hst (ty_anvil_anvilref02_Int.size) rfl rfl rfl rfl (by simp) rfl rfl ?_)
        clear henv hst a; intro a w124 henv hst
        refine ⟨.inr ⟨hst.kn.pick [1, 2, 3, 4, 5, 6, 7, 8, 9, 10, 11, 12, 13] [3, 4, 5, 6, 7, 8, 9, 10, 11, 12, 13, 14, 15, 16, 17], .inl rfl⟩, ?_⟩
        refine sAny_done (by kernel_rfl) ?_ _
        exact th_n ⟨A92, c93, A116, c117, A120, c121, g114, henv.sub ⟨rfl, rfl, rfl, rfl, rfl, rfl, rfl, rfl, rfl, rfl, rfl, rfl, rfl, rfl, rfl, rfl, rfl, rfl, rfl, rfl, rfl, rfl, rfl, rfl, rfl, rfl, rfl, rfl, rfl, rfl, rfl, rfl, rfl, rfl, rfl, rfl, rfl, rfl, rfl, rfl, rfl, rfl, rfl, rfl, rfl, rfl, rfl, rfl, rfl, rfl, rfl, rfl, rfl, rfl, rfl, rfl, rfl, rfl, rfl, rfl, rfl, rfl, rfl, rfl, rfl, rfl, rfl, rfl, rfl, rfl, rfl, rfl, rfl, rfl, rfl, rfl, rfl, rfl, trivial⟩, hst.pick [0, 1, 2, 3, 4, 5, 6, 7, 8, 9, 10, 11, 12, 13] [0, 1, 2, 3, 4, 5, 6, 7, 8, 9, 10, 11, 12, 13, 14, 15, 16, 17] (by decide)⟩
    · refine ⟨_, rfl, rfl, op_alloc (c := #[.bool (neg 0), .slice none (dl 0) 0]) henv hst rfl zero_anvil_anvilref02_Int rcells ?_⟩
      clear henv hst a; intro a w126 g125 henv hst
      refine ⟨.inr ⟨hst.kn.pick [1, 2, 3, 4, 5, 6, 7, 8, 9, 10, 11, 12, 13] [0, 1, 2, 3, 4, 5, 6, 7, 8, 9, 10, 11, 12, 13, 14], .inr (hst.kn.pick [] [])⟩, ?_⟩
      refine sAny_one (i := 2) (by kernel_rfl) rfl rfl (op_call henv rfl Try.call25 rfl (mul_r (x := x.sign) (y := x) (show RIn _ A77 c78 x.sign from hst.pat (k := 1) rfl) (show RIn _ A12 c13 x from hst.pat (k := 11) rfl) (by omega) (by omega)) ?_)
      rintro e w130 ⟨_, rfl, ⟨A127, c128, rfl, hz129⟩, hb⟩
      refine ⟨_, rfl, ?_⟩
      clear henv a; intro a henv
      replace hst := (hst.call hb).addR hz129 rfl
      clear hz129
      clear hb
      refine ⟨.inr ⟨hst.kn.pick [1, 2, 3, 4, 5, 6, 7, 8, 9, 10, 11, 12, 13] [1, 2, 3, 4, 5, 6, 7, 8, 9, 10, 11, 12, 13, 14, 15], .inr (hst.kn.pick [] [])⟩, ?_⟩
      refine sAny_one (i := 5) (by kernel_rfl) rfl rfl (op_call henv rfl Try.call25 rfl (mul_r (x := 0) (y := 0) (show RIn _ A81 c82 0 from hst.pat (k := 1) rfl) (show RIn _ A25 c26 0 from hst.pat (k := 10) rfl) (by rw [dl_zero]; omega) (by rw [dl_zero]; omega)) ?_)
      rintro e w134 ⟨_, rfl, ⟨A131, c132, rfl, hz133⟩, hb⟩
      refine ⟨_, rfl, ?_⟩
      clear henv a; intro a henv
      replace hst := (hst.call hb).addR hz133 rfl
      clear hz133
      clear hb
      refine ⟨.inr ⟨hst.kn.pick [1, 2, 3, 4, 5, 6, 7, 8, 9, 10, 11, 12, 13] [2, 3, 4, 5, 6, 7, 8, 9, 10, 11, 12, 13, 14, 15, 16], .inr (hst.kn.pick [] [])⟩, ?_⟩
      refine sAny_one (i := 6) (by kernel_rfl) rfl rfl (op_call henv rfl Try.call21 rfl (add_r (x := x.sign * x) (y := 0 * 0) (show RIn _ A127 c128 (x.sign * x) from hst.pat (k := 1) rfl) (show RIn _ A131 c132 (0 * 0) from hst.pat (k := 0) rfl) (by omega) (by omega)) ?_)
      rintro e w138 ⟨_, rfl, ⟨A135, c136, rfl, hz137⟩, hb⟩
      refine ⟨_, rfl, ?_⟩
      clear henv a; intro a henv
      replace hst := (hst.call hb).addR hz137 rfl
      clear hz137
      clear hb
      refine ⟨.inr ⟨hst.kn.pick [1, 2, 3, 4, 5, 6, 7, 8, 9, 10, 11, 12, 13] [3, 4, 5, 6, 7, 8, 9, 10, 11, 12, 13, 14, 15, 16, 17], .inr (hst.kn.pick [] [])⟩, ?_⟩
      refine sAny_one (i := 8) (by kernel_rfl) rfl rfl (op_store (k := 0) (c' := #[.bool (neg ((x.sign * x) + (0 * 0))), .slice A135 (dl ((x.sign * x) + (0 * 0))) c136]) henv hst (ty_anvil_anvilref02_Int.size) rfl rfl rfl rfl (by simp) rfl rfl ?_)
      clear henv hst a; intro a w139 henv hst
      refine ⟨.inr ⟨hst.kn.pick [1, 2, 3, 4, 5, 6, 7, 8, 9, 10, 11, 12, 13] [3, 4, 5, 6, 7, 8, 9, 10, 11, 12, 13, 14, 15, 16, 17], .inl rfl⟩, ?_⟩
      refine sAny_done (by kernel_rfl) ?_ _
      exact th_n ⟨A127, c128, A131, c132, A135, c136, g125, henv.sub ⟨rfl, rfl, rfl, rfl, rfl, rfl, rfl, rfl, rfl, rfl, rfl, rfl, rfl, rfl, rfl, rfl, rfl, rfl, rfl, rfl, rfl, rfl, rfl, rfl, rfl, rfl, rfl, rfl, rfl, rfl, rfl, rfl, rfl, rfl, rfl, rfl, rfl, rfl, rfl, rfl, rfl, rfl, rfl, rfl, rfl, rfl, rfl, rfl, rfl, rfl, rfl, rfl, rfl, rfl, rfl, rfl, rfl, rfl, rfl, rfl, rfl, rfl, rfl, rfl, rfl, rfl, rfl, rfl, rfl, rfl, rfl, rfl, rfl, rfl, rfl, rfl, rfl, rfl, trivial⟩, hst.pick [0, 1, 2, 3, 4, 5, 6, 7, 8, 9, 10, 11, 12, 13] [0, 1, 2, 3, 4, 5, 6, 7, 8, 9, 10, 11, 12, 13, 14, 15, 16, 17] (by decide)⟩
  clear henv hst a
  rintro a w140 ⟨A92, c93, A96, c97, A100, c101, g104, henv, hst⟩
  refine wp_seq ?_
  refine wp_seq ?_
  refine region_seq ?_
  refine seq_step rfl (op_val (v := .agg #[.bool (neg ((x.sign * x) + (0 * 0))), .slice A100 (dl ((x.sign * x) + (0 * 0))) c101]) henv rfl (rn_load0 henv ty_anvil_anvilref02_Int rfl (hst.oat (k := 0) rfl) rfl) ?_)
  clear henv a; intro a henv
  refine seq_step rfl (op_val (v := .agg #[.bool (neg ((Int.gcd x 0 : Nat) : Int)), .slice A35 (dl ((Int.gcd x 0 : Nat) : Int)) c36]) henv rfl (rn_load0 henv ty_anvil_anvilref02_Int rfl (hst.oat (k := 6) rfl) rfl) ?_)
  clear henv a; intro a henv
  refine seq_step rfl (op_call henv rfl Try.call45 rfl (same_true (x := (x.sign * x) + (0 * 0)) (y := ((Int.gcd x 0 : Nat) : Int)) (show RIn _ A100 c101 ((x.sign * x) + (0 * 0)) from hst.pat (k := 0) rfl) (show RIn _ A35 c36 ((Int.gcd x 0 : Nat) : Int) from hst.pat (k := 11) rfl) (by rw [Int.gcd_zero_right, Int.mul_zero, Int.add_zero]; exact sign_mul_abs x)) ?_)
  rintro e w141 ⟨rfl, hb⟩
  refine ⟨_, rfl, ?_⟩
  clear henv a; intro a henv
  replace hst := hst.call hb
  clear hb
  refine seq_step rfl (op_val (v := .bool false) henv rfl (rn_un henv rfl rfl) ?_)
  clear henv a; intro a henv
  refine wpList_nil ?_
  refine th_n ?_
  refine if_f henv rfl (rfl) ?_
  refine wp_skip ?_
  refine th_n ?_
  refine wp_seq ?_
  refine wp_seq ?_
  refine region_seq ?_
  refine seq_step rfl (op_val (v := .agg #[.bool (neg 0), .slice A25 (dl 0) c26]) henv rfl (rn_load0 henv ty_anvil_anvilref02_Int rfl (hst.oat (k := 7) rfl) rfl) ?_)
  clear henv a; intro a henv
  refine seq_step rfl (op_call henv rfl Try.call12 rfl (sign_r (z := 0)) ?_)
  rintro e w142 ⟨rfl, hb⟩
  refine ⟨_, rfl, ?_⟩
  clear henv a; intro a henv
  replace hst := hst.call hb
  clear hb
  refine seq_step rfl (op_val (v := .bool ((0 : Int).sign == (0 : Int))) henv rfl (rn_bin henv rfl rfl rfl) ?_)
  clear henv a; intro a henv
  refine wpList_nil ?_
  refine th_n ?_
  refine if_t henv rfl (rfl) ?_
  refine wp_seq ?_
  refine region_any (n := 11) (Sk [⟨g104, #[.bool (neg ((x.sign * x) + (0 * 0))), .slice A100 (dl ((x.sign * x) + (0 * 0))) c101], 30⟩, ⟨g87, #[.bool (neg 0), .slice A81 (dl 0) c82], 30⟩, ⟨g85, #[.bool (neg x.sign), .slice A77 (dl x.sign) c78], 30⟩, ⟨g56, #[.bool (neg 0), .slice A48 (zl 0) c49], 28⟩, ⟨g54, #[.bool (neg x.sign), .slice A45 (zl x.sign) c46], 28⟩, ⟨g52, #[.bool (neg (x.natAbs : Int)), .slice A42 (zl (x.natAbs : Int)) c43], 28⟩, ⟨g39, #[.bool (neg ((Int.gcd x 0 : Nat) : Int)), .slice A35 (dl ((Int.gcd x 0 : Nat) : Int)) c36], 30⟩, ⟨g31, #[.bool (neg 0), .slice A25 (dl 0) c26], 30⟩, ⟨g29, #[.bool (neg 0), .slice A22 (zl 0) c23], 28⟩, ⟨g18, #[.bool (neg x), .slice A12 (dl x) c13], 30⟩, ⟨g16, #[.bool (neg x), .slice A9 (zl x) c10], 28⟩, ⟨g6, #[.bool b0, .slice A0 n0 c0, .bool b1, .slice A1 n1 c1], 24⟩, ⟨g3, #[.bool b1, .slice A1 n1 c1], 24⟩, ⟨g1, #[.bool b0, .slice A0 n0 c0], 24⟩] [pfR A100 c101 ((x.sign * x) + (0 * 0)), pfR A96 c97 (0 * 0), pfR A92 c93 (x.sign * x), pfR A81 c82 0, pfR A77 c78 x.sign, pfZ A73 c74 0, pfZ A69 c70 x.sign, pfZ A62 c63 ((Int.gcd x 0 : Nat) : Int), pfZ A48 c49 0, pfZ A45 c46 x.sign, pfZ A42 c43 (x.natAbs : Int), pfR A35 c36 ((Int.gcd x 0 : Nat) : Int), pfR A25 c26 0, pfZ A22 c23 0, pfR A12 c13 x, pfZ A9 c10 x, pfU A1 n1 c1 xs1, pfU A0 n0 c0 xs0] [] []) mixed rfl henv hst ?_
  clear henv hst; intro w143 henv hst
  refine sAny_take (i := 0) [4, 5, 6, 7, 8, 9, 10] (fun w' => w'.heap[g85]? = some (.cells #[.bool (neg x.sign), .slice A77 (dl x.sign) c78] 30 (0, 0))) (v := .agg #[.bool (neg x.sign), .slice A77 (dl x.sign) c78]) rfl (by kernel_rfl) (fun _ _ _ h => h) (fun _ _ _ hS => hS.1.oat (k := 2) rfl) henv rfl (hst.oat (k := 2) rfl) (fun w' hg => rn_load0 henv ty_anvil_anvilref02_Int rfl hg rfl) ?_
  clear henv a; intro a henv
  refine sAny_take (i := 1) [2, 3, 4, 5, 6, 7, 8, 9, 10] (fun w' => w'.heap[g18]? = some (.cells #[.bool (neg x), .slice A12 (dl x) c13] 30 (0, 0))) (v := .agg #[.bool (neg x), .slice A12 (dl x) c13]) rfl (by kernel_rfl) (fun _ _ _ h => h) (fun _ _ _ hS => hS.1.oat (k := 9) rfl) henv rfl (hst.oat (k := 9) rfl) (fun w' hg => rn_load0 henv ty_anvil_anvilref02_Int rfl hg rfl) ?_
  clear henv a; intro a henv
  refine sAny_one (i := 2) (by kernel_rfl) rfl rfl (op_call henv rfl Try.call12 rfl (sign_r (z := x)) ?_)
  rintro e w144 ⟨rfl, hb⟩
  refine ⟨_, rfl, ?_⟩
  clear henv a; intro a henv
  replace hst := hst.call hb
  clear hb
  refine ⟨.inr ⟨hst.kn.pick [0, 1, 2, 3, 4, 5, 6, 7, 8, 9, 10, 11, 12, 13] [0, 1, 2, 3, 4, 5, 6, 7, 8, 9, 10, 11, 12, 13, 14, 15, 16, 17], .inr (hst.kn.pick [] [])⟩, ?_⟩
  refine sAny_one (i := 3) (by kernel_rfl) rfl rfl (op_call henv rfl Try.call27 rfl (of_r (n := x.sign) (by have := sign_bd x; omega) (by have := sign_bd x; omega)) ?_)
  rintro e w148 ⟨_, rfl, ⟨A145, c146, rfl, hz147⟩, hb⟩
  refine ⟨_, rfl, ?_⟩
  clear henv a; intro a henv
  replace hst := (hst.call hb).addR hz147 rfl
  clear hz147
  clear hb
  refine ⟨.inr ⟨hst.kn.pick [0, 1, 2, 3, 4, 5, 6, 7, 8, 9, 10, 11, 12, 13] [1, 2, 3, 4, 5, 6, 7, 8, 9, 10, 11, 12, 13, 14, 15, 16, 17, 18], .inr (hst.kn.pick [] [])⟩, ?_⟩
  refine sAny_one (i := 4) (by kernel_rfl) rfl rfl (op_call henv rfl Try.call45 rfl (same_true (x := x.sign) (y := x.sign) (show RIn _ A77 c78 x.sign from hst.pat (k := 5) rfl) (show RIn _ A145 c146 x.sign from hst.pat (k := 0) rfl) rfl) ?_)
  rintro e w149 ⟨rfl, hb⟩
  refine ⟨_, rfl, ?_⟩
  clear henv a; intro a henv
  replace hst := hst.call hb
  clear hb
  refine ⟨.inr ⟨hst.kn.pick [0, 1, 2, 3, 4, 5, 6, 7, 8, 9, 10, 11, 12, 13] [1, 2, 3, 4, 5, 6, 7, 8, 9, 10, 11, 12, 13, 14, 15, 16, 17, 18], .inr (hst.kn.pick [] [])⟩, ?_⟩
  refine sAny_take (i := 5) [6, 7, 8, 9, 10] (fun _ => True) (v := .bool true) rfl (by kernel_rfl) (fun _ _ _ h => h) (fun _ _ _ _ => trivial) henv rfl trivial (fun w' _ => rn_move henv rfl) ?_
  clear henv a; intro a henv
  refine sAny_takeg (i := 6) [7, 8, 9, 10] (fun w' => w'.heap[g87]? = some (.cells #[.bool (neg 0), .slice A81 (dl 0) c82] 30 (0, 0))) (v := .agg #[.bool (neg 0), .slice A81 (dl 0) c82]) rfl (by kernel_rfl) (fun _ _ _ h => h) (fun _ _ _ hS => hS.1.oat (k := 1) rfl) henv rfl rfl rfl rfl (hst.oat (k := 1) rfl) (fun w' hg => rn_load0 henv ty_anvil_anvilref02_Int rfl hg rfl) ?_
  clear henv a; intro a henv
  refine sAny_oneg (i := 7) (by kernel_rfl) rfl rfl henv rfl rfl rfl (op_call henv rfl Try.call12 rfl (sign_r (z := 0)) ?_)
  rintro e w150 ⟨rfl, hb⟩
  refine ⟨_, rfl, ?_⟩
  clear henv a; intro a henv
  replace hst := hst.call hb
  clear hb
  refine ⟨.inr ⟨hst.kn.pick [0, 1, 2, 3, 4, 5, 6, 7, 8, 9, 10, 11, 12, 13] [1, 2, 3, 4, 5, 6, 7, 8, 9, 10, 11, 12, 13, 14, 15, 16, 17, 18], .inr (hst.kn.pick [] [])⟩, ?_⟩
  refine sAny_takeg (i := 8) [9, 10] (fun _ => True) (v := .bool ((0 : Int).sign == (0 : Int))) rfl (by kernel_rfl) (fun _ _ _ h => h) (fun _ _ _ _ => trivial) henv rfl rfl rfl rfl trivial (fun w' _ => rn_bin henv rfl rfl rfl) ?_
  clear henv a; intro a henv
  rw [show ((0 : Int).sign == (0 : Int)) = true from rfl] at henv
  refine sAny_take (i := 9) [10] (fun _ => True) (v := .bool true) rfl (by kernel_rfl) (fun _ _ _ h => h) (fun _ _ _ _ => trivial) henv rfl trivial (fun w' _ => rn_pick henv rfl rfl) ?_
  clear henv a; intro a henv
  refine sAny_take (i := 10) [] (fun _ => True) (v := .bool true) rfl (by kernel_rfl) (fun _ _ _ h => h) (fun _ _ _ _ => trivial) henv rfl trivial (fun w' _ => rn_assign henv rfl) ?_
  clear henv a; intro a henv
  refine sAny_done (by kernel_rfl) ?_ _
  refine th_n ?_
  refine wp_ret ?_
  refine th_r ?_
  refine leave henv (res1 Try.results7 (RV.tmp henv rfl)) ?_
  exact ⟨rfl, hst.below⟩

set_option maxRecDepth 100000 in
set_option maxHeartbeats 4000000 in
theorem common_y {b0 b1 : Bool} {A0 A1 : Option Addr} {n0 n1 c0 c1 : Nat} {xs0 xs1 : List Nat} {x y : Int} {w0 : World} (h0 : U32 w0 A0 n0 c0 xs0) (h1 : U32 w0 A1 n1 c1 xs1) (hs0 : n0 ≤ 60) (hs1 : n1 ≤ 60) (hz0 : sg b0 (val 4294967296 xs0) = x) (hz1 : sg b1 (val 4294967296 xs1) = y) (hy0 : y ≠ 0) :
    Calls Try.prog 7 #[.agg #[.bool b0, .slice A0 n0 c0], .agg #[.bool b1, .slice A1 n1 c1]] w0 fun e w' => e = .returned (.bool true) ∧ Below w0.heap.size w0 w' := by
  have hx60 : zl x ≤ 60 := by have := given_bd (b := b0) h0; rw [hz0] at this; omega
  have hy60 : zl y ≤ 60 := by have := given_bd (b := b1) h1; rw [hz1] at this; omega
  have hsy : (y.sign == (0 : Int)) = false := by simpa using hy0
  have hdx := dl_zl x
  have hdy := dl_zl y
  refine enter Try.func7 rfl Try.ntmps7 rfl ?_
  intro a henv hst
  replace hst := hst.addU h0 rfl
  replace hst := hst.addU h1 rfl
  have hL0 := Nat.le_trans h0.cap h0.big
  have hL1 := Nat.le_trans h1.cap h1.big
  clear h0 h1
  refine wp_seq ?_
  refine region_seq ?_
  refine seq_step rfl (op_box (c := #[.bool b0, .slice A0 n0 c0]) henv hst rfl rfl rfl ?_)
  clear henv hst a; intro a w2 g1 henv hst
  refine seq_step rfl (op_box (c := #[.bool b1, .slice A1 n1 c1]) henv hst rfl rfl rfl ?_)
  clear henv hst a; intro a w4 g3 henv hst
  refine seq_step rfl (op_val (v := .bool false) henv rfl (rn_assign henv rfl) ?_)
  clear henv a; intro a henv
  refine wpList_nil ?_
  refine th_n ?_
  refine wp_seq ?_
  refine wp_seq ?_
  refine region_seq ?_
  refine seq_step rfl (op_call henv rfl Try.call8 rfl (live_true _) ?_)
  rintro e w5 ⟨rfl, hb⟩
  refine ⟨_, rfl, ?_⟩
  clear henv a; intro a henv
  replace hst := hst.call hb
  clear hb
  refine seq_step rfl (op_val (v := .bool false) henv rfl (rn_un henv rfl rfl) ?_)
  clear henv a; intro a henv
  refine wpList_nil ?_
  refine th_n ?_
  refine if_f henv rfl (rfl) ?_
  refine wp_skip ?_
  refine th_n ?_
  refine wp_seq ?_
  refine wp_seq ?_
  refine region_seq ?_
  refine seq_step rfl (op_val (v := .agg #[.bool b0, .slice A0 n0 c0]) henv rfl (rn_load0 henv ty_anvil_anvillaw02_Num rfl (hst.oat (k := 1) rfl) rfl) ?_)
  clear henv a; intro a henv
  refine seq_step rfl (op_val (v := .agg #[.bool b1, .slice A1 n1 c1]) henv rfl (rn_load0 henv ty_anvil_anvillaw02_Num rfl (hst.oat (k := 0) rfl) rfl) ?_)
  clear henv a; intro a henv
  refine seq_step rfl (op_buildSlice (z := 2) (pv := #[(0, .agg #[.bool b0, .slice A0 n0 c0]), (1, .agg #[.bool b1, .slice A1 n1 c1])]) (c := #[.bool b0, .slice A0 n0 c0, .bool b1, .slice A1 n1 c1]) henv hst rfl Try.underlying71 (ty_anvil_anvillaw02_Num.size) zero_anvil_anvillaw02_Num (by decide) (by decide) rfl (by kernel_rfl) ?_)
  clear henv hst a; intro a w7 g6 henv hst
  refine seq_step rfl (op_call henv rfl Try.call9 rfl (long_own2 (hst.oat (k := 0) rfl) hL0 hL1 false (by simp; omega)) ?_)
  rintro e w8 ⟨rfl, hb⟩
  refine ⟨_, rfl, ?_⟩
  clear henv a; intro a henv
  replace hst := hst.call hb
  clear hb
  refine wpList_nil ?_
  refine th_n ?_
  refine if_f henv rfl (rfl) ?_
  refine wp_skip ?_
  refine th_n ?_
  refine wp_seq ?_
  refine region_seq ?_
  refine seq_step rfl (op_val (v := .agg #[.bool b0, .slice A0 n0 c0]) henv rfl (rn_load0 henv ty_anvil_anvillaw02_Num rfl (hst.oat (k := 2) rfl) rfl) ?_)
  clear henv a; intro a henv
  refine seq_step rfl (op_call henv rfl Try.call10 rfl (of_given (z := x) (show U32 _ A0 n0 c0 xs0 from hst.pat (k := 1) rfl) hs0 hz0) ?_)
  rintro e w15 ⟨_, _, rfl, ⟨A9, c10, rfl, hz11⟩, ⟨A12, c13, rfl, hz14⟩, hb⟩
  refine ⟨_, rfl, ?_⟩
  clear henv a; intro a henv
  replace hst := ((hst.call hb).addZ hz11 rfl).addR hz14 rfl
  clear hz11 hz14
  clear hb
  refine seq_step rfl (op_val (v := .tuple #[.agg #[.bool (neg x), .slice A9 (zl x) c10], .agg #[.bool (neg x), .slice A12 (dl x) c13]]) henv rfl (rn_move henv rfl) ?_)
  clear henv a; intro a henv
  refine seq_step rfl (op_val (v := .agg #[.bool (neg x), .slice A9 (zl x) c10]) henv rfl (rn_extract henv rfl rfl) ?_)
  clear henv a; intro a henv
  refine seq_step rfl (op_val (v := .agg #[.bool (neg x), .slice A12 (dl x) c13]) henv rfl (rn_extract henv rfl rfl) ?_)
  clear henv a; intro a henv
  refine seq_step rfl (op_alloc (c := #[.bool (neg 0), .slice none (zl 0) 0]) henv hst rfl zero_anvil_integer_Int zcells ?_)
  clear henv hst a; intro a w17 g16 henv hst
  refine seq_step rfl (op_alloc (c := #[.bool (neg 0), .slice none (dl 0) 0]) henv hst rfl zero_anvil_anvilref02_Int rcells ?_)
  clear henv hst a; intro a w19 g18 henv hst
  refine seq_step rfl (op_store (k := 1) (c' := #[.bool (neg x), .slice A9 (zl x) c10]) henv hst (ty_anvil_integer_Int.size) rfl rfl rfl rfl (by simp) rfl rfl ?_)
  clear henv hst a; intro a w20 henv hst
  refine seq_step rfl (op_store (k := 0) (c' := #[.bool (neg x), .slice A12 (dl x) c13]) henv hst (ty_anvil_anvilref02_Int.size) rfl rfl rfl rfl (by simp) rfl rfl ?_)
  clear henv hst a; intro a w21 henv hst
  refine wpList_nil ?_
  refine th_n ?_
  refine wp_seq ?_
  refine region_seq ?_
  refine seq_step rfl (op_val (v := .agg #[.bool b1, .slice A1 n1 c1]) henv rfl (rn_load0 henv ty_anvil_anvillaw02_Num rfl (hst.oat (k := 3) rfl) rfl) ?_)
  clear henv a; intro a henv
  refine seq_step rfl (op_call henv rfl Try.call10 rfl (of_given (z := y) (show U32 _ A1 n1 c1 xs1 from hst.pat (k := 2) rfl) hs1 hz1) ?_)
  rintro e w28 ⟨_, _, rfl, ⟨A22, c23, rfl, hz24⟩, ⟨A25, c26, rfl, hz27⟩, hb⟩
  refine ⟨_, rfl, ?_⟩
  clear henv a; intro a henv
  replace hst := ((hst.call hb).addZ hz24 rfl).addR hz27 rfl
  clear hz24 hz27
  clear hb
  refine seq_step rfl (op_val (v := .tuple #[.agg #[.bool (neg y), .slice A22 (zl y) c23], .agg #[.bool (neg y), .slice A25 (dl y) c26]]) henv rfl (rn_move henv rfl) ?_)
  clear henv a; intro a henv
  refine seq_step rfl (op_val (v := .agg #[.bool (neg y), .slice A22 (zl y) c23]) henv rfl (rn_extract henv rfl rfl) ?_)
  clear henv a; intro a henv
  refine seq_step rfl (op_val (v := .agg #[.bool (neg y), .slice A25 (dl y) c26]) henv rfl (rn_extract henv rfl rfl) ?_)
  clear henv a; intro a henv
  refine seq_step rfl (op_alloc (c := #[.bool (neg 0), .slice none (zl 0) 0]) henv hst rfl zero_anvil_integer_Int zcells ?_)
  clear henv hst a; intro a w30 g29 henv hst
  refine seq_step rfl (op_alloc (c := #[.bool (neg 0), .slice none (dl 0) 0]) henv hst rfl zero_anvil_anvilref02_Int rcells ?_)
  clear henv hst a; intro a w32 g31 henv hst
  refine seq_step rfl (op_store (k := 1) (c' := #[.bool (neg y), .slice A22 (zl y) c23]) henv hst (ty_anvil_integer_Int.size) rfl rfl rfl rfl (by simp) rfl rfl ?_)
  clear henv hst a; intro a w33 henv hst
  refine seq_step rfl (op_store (k := 0) (c' := #[.bool (neg y), .slice A25 (dl y) c26]) henv hst (ty_anvil_anvilref02_Int.size) rfl rfl rfl rfl (by simp) rfl rfl ?_)
  clear henv hst a; intro a w34 henv hst
  refine wpList_nil ?_
  refine th_n ?_
  refine wp_seq ?_
  refine region_seq ?_
  refine seq_step rfl (op_val (v := .agg #[.bool (neg x), .slice A12 (dl x) c13]) henv rfl (rn_load0 henv ty_anvil_anvilref02_Int rfl (hst.oat (k := 2) rfl) rfl) ?_)
  clear henv a; intro a henv
  refine seq_step rfl (op_val (v := .agg #[.bool (neg y), .slice A25 (dl y) c26]) henv rfl (rn_load0 henv ty_anvil_anvilref02_Int rfl (hst.oat (k := 0) rfl) rfl) ?_)
  clear henv a; intro a henv
  refine seq_step rfl (op_call henv rfl Try.call40 rfl (gcd_r (x := x) (y := y) (show RIn _ A12 c13 x from hst.pat (k := 2) rfl) (show RIn _ A25 c26 y from hst.pat (k := 0) rfl) (by omega) (by omega)) ?_)
  rintro e w38 ⟨_, rfl, ⟨A35, c36, rfl, hz37⟩, hb⟩
  refine ⟨_, rfl, ?_⟩
  clear henv a; intro a henv
  replace hst := (hst.call hb).addR hz37 rfl
  clear hz37
  clear hb
  refine seq_step rfl (op_alloc (c := #[.bool (neg 0), .slice none (dl 0) 0]) henv hst rfl zero_anvil_anvilref02_Int rcells ?_)
  clear henv hst a; intro a w40 g39 henv hst
  refine seq_step rfl (op_store (k := 0) (c' := #[.bool (neg ((Int.gcd x y : Nat) : Int)), .slice A35 (dl ((Int.gcd x y : Nat) : Int)) c36]) henv hst (ty_anvil_anvilref02_Int.size) rfl rfl rfl rfl (by simp) rfl rfl ?_)
  clear henv hst a; intro a w41 henv hst
  refine wpList_nil ?_
  refine th_n ?_
  refine wp_seq ?_
  refine region_seq ?_
  refine seq_step rfl (op_val (v := .agg #[.bool (neg x), .slice A9 (zl x) c10]) henv rfl (rn_load0 henv ty_anvil_integer_Int rfl (hst.oat (k := 4) rfl) rfl) ?_)
  clear henv a; intro a henv
  refine seq_step rfl (op_val (v := .agg #[.bool (neg y), .slice A22 (zl y) c23]) henv rfl (rn_load0 henv ty_anvil_integer_Int rfl (hst.oat (k := 2) rfl) rfl) ?_)
  clear henv a; intro a henv
  refine seq_step rfl (op_call henv rfl Try.call41 rfl (bezout_z (x := x) (y := y) (show ZIn _ A9 c10 x from hst.pat (k := 4) rfl) (show ZIn _ A22 c23 y from hst.pat (k := 2) rfl) (by omega) (by omega) hy0) ?_)
  rintro e w51 ⟨_, _, _, u, v, rfl, ⟨A42, c43, rfl, hz44⟩, ⟨A45, c46, rfl, hz47⟩, ⟨A48, c49, rfl, hz50⟩, hu0, hu1, huv, hb⟩
  refine ⟨_, rfl, ?_⟩
  clear henv a; intro a henv
  replace hst := (((hst.call hb).addZ hz44 rfl).addZ hz47 rfl).addZ hz50 rfl
  clear hz44 hz47 hz50
  clear hb
  refine seq_step rfl (op_val (v := .tuple #[.agg #[.bool (neg (Int.gcd x y : Int)), .slice A42 (zl (Int.gcd x y : Int)) c43], .agg #[.bool (neg u), .slice A45 (zl u) c46], .agg #[.bool (neg v), .slice A48 (zl v) c49]]) henv rfl (rn_move henv rfl) ?_)
  clear henv a; intro a henv
  refine seq_step rfl (op_val (v := .agg #[.bool (neg (Int.gcd x y : Int)), .slice A42 (zl (Int.gcd x y : Int)) c43]) henv rfl (rn_extract henv rfl rfl) ?_)
  clear henv a; intro a henv
  refine seq_step rfl (op_val (v := .agg #[.bool (neg u), .slice A45 (zl u) c46]) henv rfl (rn_extract henv rfl rfl) ?_)
  clear henv a; intro a henv
  refine seq_step rfl (op_val (v := .agg #[.bool (neg v), .slice A48 (zl v) c49]) henv rfl (rn_extract henv rfl rfl) ?_)
  clear henv a; intro a henv
  refine seq_step rfl (op_alloc (c := #[.bool (neg 0), .slice none (zl 0) 0]) henv hst rfl zero_anvil_integer_Int zcells ?_)
  clear henv hst a; intro a w53 g52 henv hst
  refine seq_step rfl (op_alloc (c := #[.bool (neg 0), .slice none (zl 0) 0]) henv hst rfl zero_anvil_integer_Int zcells ?_)
  clear henv hst a; intro a w55 g54 henv hst
  refine seq_step rfl (op_alloc (c := #[.bool (neg 0), .slice none (zl 0) 0]) henv hst rfl zero_anvil_integer_Int zcells ?_)
  clear henv hst a; intro a w57 g56 henv hst
  refine seq_step rfl (op_store (k := 2) (c' := #[.bool (neg (Int.gcd x y : Int)), .slice A42 (zl (Int.gcd x y : Int)) c43]) henv hst (ty_anvil_integer_Int.size) rfl rfl rfl rfl (by simp) rfl rfl ?_)
  clear henv hst a; intro a w58 henv hst
  refine seq_step rfl (op_store (k := 1) (c' := #[.bool (neg u), .slice A45 (zl u) c46]) henv hst (ty_anvil_integer_Int.size) rfl rfl rfl rfl (by simp) rfl rfl ?_)
  clear henv hst a; intro a w59 henv hst
  refine seq_step rfl (op_store (k := 0) (c' := #[.bool (neg v), .slice A48 (zl v) c49]) henv hst (ty_anvil_integer_Int.size) rfl rfl rfl rfl (by simp) rfl rfl ?_)
  clear henv hst a; intro a w60 henv hst
  refine wpList_nil ?_
  have hzu := zl_coef hy0 hu0 hu1 huv hx60 hy60
  have hu60 : zl u ≤ 200 := by omega
  have hv200 : zl v ≤ 200 := hzu.2
  have hdu := dl_zl u
  have hdv := dl_zl v
  have hdx := dl_zl x
  have hdy := dl_zl y
  have hd1 : dl (u * x) ≤ 1000 := by have := dl_mul u x; omega
  have hd2 : dl (v * y) ≤ 1000 := by have := dl_mul v y; omega
  have hgz := gcd_zl' x y
  have hgd := dl_zl (Int.gcd x y : Int)
  have hdva : dl (y.natAbs : Int) ≤ 1000 := by rw [dl_abs]; omega
  refine th_n ?_
  refine wp_seq ?_
  refine wp_seq ?_
  refine region_any (n := 16) (Sk [⟨g56, #[.bool (neg v), .slice A48 (zl v) c49], 28⟩, ⟨g54, #[.bool (neg u), .slice A45 (zl u) c46], 28⟩, ⟨g52, #[.bool (neg (Int.gcd x y : Int)), .slice A42 (zl (Int.gcd x y : Int)) c43], 28⟩, ⟨g39, #[.bool (neg ((Int.gcd x y : Nat) : Int)), .slice A35 (dl ((Int.gcd x y : Nat) : Int)) c36], 30⟩, ⟨g31, #[.bool (neg y), .slice A25 (dl y) c26], 30⟩, ⟨g29, #[.bool (neg y), .slice A22 (zl y) c23], 28⟩, ⟨g18, #[.bool (neg x), .slice A12 (dl x) c13], 30⟩, ⟨g16, #[.bool (neg x), .slice A9 (zl x) c10], 28⟩, ⟨g6, #[.bool b0, .slice A0 n0 c0, .bool b1, .slice A1 n1 c1], 24⟩, ⟨g3, #[.bool b1, .slice A1 n1 c1], 24⟩, ⟨g1, #[.bool b0, .slice A0 n0 c0], 24⟩] [pfZ A48 c49 v, pfZ A45 c46 u, pfZ A42 c43 (Int.gcd x y : Int), pfR A35 c36 ((Int.gcd x y : Nat) : Int), pfR A25 c26 y, pfZ A22 c23 y, pfR A12 c13 x, pfZ A9 c10 x, pfU A1 n1 c1 xs1, pfU A0 n0 c0 xs0] [] []) mixed rfl henv hst ?_
  clear henv hst; intro w61 henv hst
  refine sAny_take (i := 0) [2, 4, 5, 6, 7, 8, 9, 10, 11, 12, 13, 14, 15] (fun w' => w'.heap[g16]? = some (.cells #[.bool (neg x), .slice A9 (zl x) c10] 28 (0, 0))) (v := .agg #[.bool (neg x), .slice A9 (zl x) c10]) rfl (by kernel_rfl) (fun _ _ _ h => h) (fun _ _ _ hS => hS.1.oat (k := 7) rfl) henv rfl (hst.oat (k := 7) rfl) (fun w' hg => rn_load0 henv ty_anvil_integer_Int rfl hg rfl) ?_
  clear henv a; intro a henv
  refine sAny_take (i := 1) [2, 4, 5, 6, 7, 8, 9, 10, 11, 12, 13, 14, 15] (fun w' => w'.heap[g29]? = some (.cells #[.bool (neg y), .slice A22 (zl y) c23] 28 (0, 0))) (v := .agg #[.bool (neg y), .slice A22 (zl y) c23]) rfl (by kernel_rfl) (fun _ _ _ h => h) (fun _ _ _ hS => hS.1.oat (k := 5) rfl) henv rfl (hst.oat (k := 5) rfl) (fun w' hg => rn_load0 henv ty_anvil_integer_Int rfl hg rfl) ?_
  clear henv a; intro a henv
  refine sAny_take (i := 3) [4, 5, 6, 7, 8, 9, 10, 11, 12, 13, 14, 15] (fun w' => w'.heap[g39]? = some (.cells #[.bool (neg ((Int.gcd x y : Nat) : Int)), .slice A35 (dl ((Int.gcd x y : Nat) : Int)) c36] 30 (0, 0))) (v := .agg #[.bool (neg ((Int.gcd x y : Nat) : Int)), .slice A35 (dl ((Int.gcd x y : Nat) : Int)) c36]) rfl (by kernel_rfl) (fun _ _ _ h => h) (fun _ _ _ hS => hS.1.oat (k := 3) rfl) henv rfl (hst.oat (k := 3) rfl) (fun w' hg => rn_load0 henv ty_anvil_anvilref02_Int rfl hg rfl) ?_
  clear henv a; intro a henv
  refine sAny_one (i := 2) (by kernel_rfl) rfl rfl (op_call henv rfl Try.call42 rfl (gcd_z (x := x) (y := y) (show ZIn _ A9 c10 x from hst.pat (k := 7) rfl) (show ZIn _ A22 c23 y from hst.pat (k := 5) rfl) (by omega) (by omega)) ?_)
  rintro e w65 ⟨_, rfl, ⟨A62, c63, rfl, hz64⟩, hb⟩
  refine ⟨_, rfl, ?_⟩
  clear henv a; intro a henv
  replace hst := (hst.call hb).addZ hz64 rfl
  clear hz64
  clear hb
  refine ⟨.inr ⟨hst.kn.pick [0, 1, 2, 3, 4, 5, 6, 7, 8, 9, 10] [1, 2, 3, 4, 5, 6, 7, 8, 9, 10], .inr (hst.kn.pick [] [])⟩, ?_⟩
  refine sAny_one (i := 4) (by kernel_rfl) rfl rfl (op_call henv rfl Try.call15 rfl (is_same (z := ((Int.gcd x y : Nat) : Int)) (y := ((Int.gcd x y : Nat) : Int)) (show ZIn _ A62 c63 ((Int.gcd x y : Nat) : Int) from hst.pat (k := 0) rfl) (show RIn _ A35 c36 ((Int.gcd x y : Nat) : Int) from hst.pat (k := 4) rfl) rfl (by omega) (by omega)) ?_)
  rintro e w66 ⟨rfl, hb⟩
  refine ⟨_, rfl, ?_⟩
  clear henv a; intro a henv
  replace hst := hst.call hb
  clear hb
  refine ⟨.inr ⟨hst.kn.pick [0, 1, 2, 3, 4, 5, 6, 7, 8, 9, 10] [1, 2, 3, 4, 5, 6, 7, 8, 9, 10], .inr (hst.kn.pick [] [])⟩, ?_⟩
  refine sAny_take (i := 5) [6, 7, 8, 9, 10, 11, 12, 13, 14, 15] (fun _ => True) (v := .bool false) rfl (by kernel_rfl) (fun _ _ _ h => h) (fun _ _ _ _ => trivial) henv rfl trivial (fun w' _ => rn_un henv rfl rfl) ?_
  clear henv a; intro a henv
  refine sAny_take (i := 6) [7, 8, 9, 10, 11, 12, 13, 14, 15] (fun _ => True) (v := .bool false) rfl (by kernel_rfl) (fun _ _ _ h => h) (fun _ _ _ _ => trivial) henv rfl trivial (fun w' _ => rn_move henv rfl) ?_
  clear henv a; intro a henv
  refine sAny_takeg (i := 7) [9, 10, 11, 12, 13, 14, 15] (fun w' => w'.heap[g52]? = some (.cells #[.bool (neg (Int.gcd x y : Int)), .slice A42 (zl (Int.gcd x y : Int)) c43] 28 (0, 0))) (v := .agg #[.bool (neg (Int.gcd x y : Int)), .slice A42 (zl (Int.gcd x y : Int)) c43]) rfl (by kernel_rfl) (fun _ _ _ h => h) (fun _ _ _ hS => hS.1.oat (k := 2) rfl) henv rfl rfl rfl rfl (hst.oat (k := 2) rfl) (fun w' hg => rn_load0 henv ty_anvil_integer_Int rfl hg rfl) ?_
  clear henv a; intro a henv
  refine sAny_takeg (i := 8) [9, 10, 11, 12, 13, 14, 15] (fun w' => w'.heap[g39]? = some (.cells #[.bool (neg ((Int.gcd x y : Nat) : Int)), .slice A35 (dl ((Int.gcd x y : Nat) : Int)) c36] 30 (0, 0))) (v := .agg #[.bool (neg ((Int.gcd x y : Nat) : Int)), .slice A35 (dl ((Int.gcd x y : Nat) : Int)) c36]) rfl (by kernel_rfl) (fun _ _ _ h => h) (fun _ _ _ hS => hS.1.oat (k := 3) rfl) henv rfl rfl rfl rfl (hst.oat (k := 3) rfl) (fun w' hg => rn_load0 henv ty_anvil_anvilref02_Int rfl hg rfl) ?_
  clear henv a; intro a henv
  refine sAny_oneg (i := 9) (by kernel_rfl) rfl rfl henv rfl rfl rfl (op_call henv rfl Try.call15 rfl (is_same (z := (Int.gcd x y : Int)) (y := ((Int.gcd x y : Nat) : Int)) (show ZIn _ A42 c43 (Int.gcd x y : Int) from hst.pat (k := 3) rfl) (show RIn _ A35 c36 ((Int.gcd x y : Nat) : Int) from hst.pat (k := 4) rfl) rfl (by omega) (by omega)) ?_)
  rintro e w67 ⟨rfl, hb⟩
  refine ⟨_, rfl, ?_⟩
  clear henv a; intro a henv
  replace hst := hst.call hb
  clear hb
  refine ⟨.inr ⟨hst.kn.pick [0, 1, 2, 3, 4, 5, 6, 7, 8, 9, 10] [1, 2, 3, 4, 5, 6, 7, 8, 9, 10], .inr (hst.kn.pick [] [])⟩, ?_⟩
  refine sAny_takeg (i := 10) [11, 12, 13, 14, 15] (fun _ => True) (v := .bool false) rfl (by kernel_rfl) (fun _ _ _ h => h) (fun _ _ _ _ => trivial) henv rfl rfl rfl rfl trivial (fun w' _ => rn_un henv rfl rfl) ?_
  clear henv a; intro a henv
  refine sAny_take (i := 11) [12, 13, 14, 15] (fun _ => True) (v := .bool false) rfl (by kernel_rfl) (fun _ _ _ h => h) (fun _ _ _ _ => trivial) henv rfl trivial (fun w' _ => rn_pick henv rfl rfl) ?_
  clear henv a; intro a henv
  refine sAny_take (i := 12) [13, 14, 15] (fun _ => True) (v := .bool false) rfl (by kernel_rfl) (fun _ _ _ h => h) (fun _ _ _ _ => trivial) henv rfl trivial (fun w' _ => rn_move henv rfl) ?_
  clear henv a; intro a henv
  refine sAny_oneg (i := 13) (by kernel_rfl) rfl rfl henv rfl rfl rfl (op_call henv rfl Try.call8 rfl (live_true _) ?_)
  rintro e w68 ⟨rfl, hb⟩
  refine ⟨_, rfl, ?_⟩
  clear henv a; intro a henv
  replace hst := hst.call hb
  clear hb
  refine ⟨.inr ⟨hst.kn.pick [0, 1, 2, 3, 4, 5, 6, 7, 8, 9, 10] [1, 2, 3, 4, 5, 6, 7, 8, 9, 10], .inr (hst.kn.pick [] [])⟩, ?_⟩
  refine sAny_takeg (i := 14) [15] (fun _ => True) (v := .bool false) rfl (by kernel_rfl) (fun _ _ _ h => h) (fun _ _ _ _ => trivial) henv rfl rfl rfl rfl trivial (fun w' _ => rn_un henv rfl rfl) ?_
  clear henv a; intro a henv
  refine sAny_take (i := 15) [] (fun _ => True) (v := .bool false) rfl (by kernel_rfl) (fun _ _ _ h => h) (fun _ _ _ _ => trivial) henv rfl trivial (fun w' _ => rn_pick henv rfl rfl) ?_
  clear henv a; intro a henv
  refine sAny_done (by kernel_rfl) ?_ _
  refine th_n ?_
  refine if_f henv rfl (rfl) ?_
  refine wp_skip ?_
  refine th_n ?_
  refine wp_seq ?_
  refine region_seq ?_
  refine seq_step rfl (op_val (v := .agg #[.bool (neg u), .slice A45 (zl u) c46]) henv rfl (rn_load0 henv ty_anvil_integer_Int rfl (hst.oat (k := 1) rfl) rfl) ?_)
  clear henv a; intro a henv
  refine seq_step rfl (op_call henv rfl Try.call43 rfl (limbs_z (z := u) (show ZIn _ A45 c46 u from hst.pat (k := 2) rfl) (by omega)) ?_)
  rintro e w72 ⟨A69, c70, rfl, hz71, -, hb⟩
  refine ⟨_, rfl, ?_⟩
  clear henv a; intro a henv
  replace hst := (hst.call hb).addZ hz71 rfl
  clear hz71
  clear hb
  refine seq_step rfl (op_val (v := .tuple #[.bool (neg u), .slice A69 (zl u) c70]) henv rfl (rn_move henv rfl) ?_)
  clear henv a; intro a henv
  refine seq_step rfl (op_val (v := .bool (neg u)) henv rfl (rn_extract henv rfl rfl) ?_)
  clear henv a; intro a henv
  refine seq_step rfl (op_val (v := .slice A69 (zl u) c70) henv rfl (rn_extract henv rfl rfl) ?_)
  clear henv a; intro a henv
  refine seq_step rfl (op_val (v := .bool (neg u)) henv rfl (rn_assign henv rfl) ?_)
  clear henv a; intro a henv
  refine seq_step rfl (op_val (v := .slice A69 (zl u) c70) henv rfl (rn_assign henv rfl) ?_)
  clear henv a; intro a henv
  refine wpList_nil ?_
  refine th_n ?_
  refine wp_seq ?_
  refine region_seq ?_
  refine seq_step rfl (op_val (v := .agg #[.bool (neg v), .slice A48 (zl v) c49]) henv rfl (rn_load0 henv ty_anvil_integer_Int rfl (hst.oat (k := 0) rfl) rfl) ?_)
  clear henv a; intro a henv
  refine seq_step rfl (op_call henv rfl Try.call43 rfl (limbs_z (z := v) (show ZIn _ A48 c49 v from hst.pat (k := 2) rfl) (by omega)) ?_)
  rintro e w76 ⟨A73, c74, rfl, hz75, -, hb⟩
  refine ⟨_, rfl, ?_⟩
  clear henv a; intro a henv
  replace hst := (hst.call hb).addZ hz75 rfl
  clear hz75
  clear hb
  refine seq_step rfl (op_val (v := .tuple #[.bool (neg v), .slice A73 (zl v) c74]) henv rfl (rn_move henv rfl) ?_)
  clear henv a; intro a henv
  refine seq_step rfl (op_val (v := .bool (neg v)) henv rfl (rn_extract henv rfl rfl) ?_)
  clear henv a; intro a henv
  refine seq_step rfl (op_val (v := .slice A73 (zl v) c74) henv rfl (rn_extract henv rfl rfl) ?_)
  clear henv a; intro a henv
  refine seq_step rfl (op_val (v := .bool (neg v)) henv rfl (rn_assign henv rfl) ?_)
  clear henv a; intro a henv
  refine seq_step rfl (op_val (v := .slice A73 (zl v) c74) henv rfl (rn_assign henv rfl) ?_)
  clear henv a; intro a henv
  refine wpList_nil ?_
  refine th_n ?_
  refine wp_seq ?_
  refine region_seq ?_
  refine seq_step rfl (op_val (v := .bool (neg u)) henv rfl (rn_move henv rfl) ?_)
  clear henv a; intro a henv
  refine seq_step rfl (op_val (v := .slice A69 (zl u) c70) henv rfl (rn_move henv rfl) ?_)
  clear henv a; intro a henv
  refine seq_step rfl (op_call henv rfl Try.call44 rfl (make_rz (z := u) (show ZIn _ A69 c70 u from hst.pat (k := 1) rfl) (by omega)) ?_)
  rintro e w80 ⟨_, rfl, ⟨A77, c78, rfl, hz79⟩, hb⟩
  refine ⟨_, rfl, ?_⟩
  clear henv a; intro a henv
  replace hst := (hst.call hb).addR hz79 rfl
  clear hz79
  clear hb
  refine seq_step rfl (op_val (v := .bool (neg v)) henv rfl (rn_move henv rfl) ?_)
  clear henv a; intro a henv
  refine seq_step rfl (op_val (v := .slice A73 (zl v) c74) henv rfl (rn_move henv rfl) ?_)
  clear henv a; intro a henv
  refine seq_step rfl (op_call henv rfl Try.call44 rfl (make_rz (z := v) (show ZIn _ A73 c74 v from hst.pat (k := 1) rfl) (by omega)) ?_)
  rintro e w84 ⟨_, rfl, ⟨A81, c82, rfl, hz83⟩, hb⟩
  refine ⟨_, rfl, ?_⟩
  clear henv a; intro a henv
  replace hst := (hst.call hb).addR hz83 rfl
  clear hz83
  clear hb
  refine seq_step rfl (op_alloc (c := #[.bool (neg 0), .slice none (dl 0) 0]) henv hst rfl zero_anvil_anvilref02_Int rcells ?_)
  clear henv hst a; intro a w86 g85 henv hst
  refine seq_step rfl (op_alloc (c := #[.bool (neg 0), .slice none (dl 0) 0]) henv hst rfl zero_anvil_anvilref02_Int rcells ?_)
  clear henv hst a; intro a w88 g87 henv hst
  refine seq_step rfl (op_store (k := 1) (c' := #[.bool (neg u), .slice A77 (dl u) c78]) henv hst (ty_anvil_anvilref02_Int.size) rfl rfl rfl rfl (by simp) rfl rfl ?_)
  clear henv hst a; intro a w89 henv hst
  refine seq_step rfl (op_store (k := 0) (c' := #[.bool (neg v), .slice A81 (dl v) c82]) henv hst (ty_anvil_anvilref02_Int.size) rfl rfl rfl rfl (by simp) rfl rfl ?_)
  clear henv hst a; intro a w90 henv hst
  refine wpList_nil ?_
  refine th_n ?_
  refine wp_seq ?_
  refine cut (fun a w => ∃ A92 : Option Addr, ∃ c93 : Nat, ∃ A96 : Option Addr, ∃ c97 : Nat, ∃ A100 : Option Addr, ∃ c101 : Nat, ∃ g104 : Nat, Env 120 a [(0, .agg #[.bool b0, .slice A0 n0 c0]), (1, .agg #[.bool b1, .slice A1 n1 c1]), (2, .pointer (some ⟨g1, 0, none⟩)), (3, .pointer (some ⟨g3, 0, none⟩)), (4, .bool false), (22, .bool true), (23, .bool false), (24, .agg #[.bool b0, .slice A0 n0 c0]), (25, .agg #[.bool b1, .slice A1 n1 c1]), (26, .slice (some ⟨g6, 0, none⟩) 2 2), (27, .bool false), (29, .agg #[.bool b0, .slice A0 n0 c0]), (30, .tuple #[.agg #[.bool (neg x), .slice A9 (zl x) c10], .agg #[.bool (neg x), .slice A12 (dl x) c13]]), (28, .tuple #[.agg #[.bool (neg x), .slice A9 (zl x) c10], .agg #[.bool (neg x), .slice A12 (dl x) c13]]), (31, .agg #[.bool (neg x), .slice A9 (zl x) c10]), (32, .agg #[.bool (neg x), .slice A12 (dl x) c13]), (5, .pointer (some ⟨g16, 0, none⟩)), (6, .pointer (some ⟨g18, 0, none⟩)), (34, .agg #[.bool b1, .slice A1 n1 c1]), (35, .tuple #[.agg #[.bool (neg y), .slice A22 (zl y) c23], .agg #[.bool (neg y), .slice A25 (dl y) c26]]), (33, .tuple #[.agg #[.bool (neg y), .slice A22 (zl y) c23], .agg #[.bool (neg y), .slice A25 (dl y) c26]]), (36, .agg #[.bool (neg y), .slice A22 (zl y) c23]), (37, .agg #[.bool (neg y), .slice A25 (dl y) c26]), (7, .pointer (some ⟨g29, 0, none⟩)), (8, .pointer (some ⟨g31, 0, none⟩)), (38, .agg #[.bool (neg x), .slice A12 (dl x) c13]), (39, .agg #[.bool (neg y), .slice A25 (dl y) c26]), (40, .agg #[.bool (neg ((Int.gcd x y : Nat) : Int)), .slice A35 (dl ((Int.gcd x y : Nat) : Int)) c36]), (9, .pointer (some ⟨g39, 0, none⟩)), (42, .agg #[.bool (neg x), .slice A9 (zl x) c10]), (43, .agg #[.bool (neg y), .slice A22 (zl y) c23]), (44, .tuple #[.agg #[.bool (neg (Int.gcd x y : Int)), .slice A42 (zl (Int.gcd x y : Int)) c43], .agg #[.bool (neg u), .slice A45 (zl u) c46], .agg #[.bool (neg v), .slice A48 (zl v) c49]]), (41, .tuple #[.agg #[.bool (neg (Int.gcd x y : Int)), .slice A42 (zl (Int.gcd x y : Int)) c43], .agg #[.bool (neg u), .slice A45 (zl u) c46], .agg #[.bool (neg v), .slice A48 (zl v) c49]]), (45, .agg #[.bool (neg (Int.gcd x y : Int)), .slice A42 (zl (Int.gcd x y : Int)) c43]), (46, .agg #[.bool (neg u), .slice A45 (zl u) c46]), (47, .agg #[.bool (neg v), .slice A48 (zl v) c49]), (10, .pointer (some ⟨g52, 0, none⟩)), (11, .pointer (some ⟨g54, 0, none⟩)), (12, .pointer (some ⟨g56, 0, none⟩)), (48, .agg #[.bool (neg x), .slice A9 (zl x) c10]), (49, .agg #[.bool (neg y), .slice A22 (zl y) c23]), (51, .agg #[.bool (neg ((Int.gcd x y : Nat) : Int)), .slice A35 (dl ((Int.gcd x y : Nat) : Int)) c36]), (50, .agg #[.bool (neg ((Int.gcd x y : Nat) : Int)), .slice A62 (zl ((Int.gcd x y : Nat) : Int)) c63]), (52, .bool true), (53, .bool false), (54, .bool false), (55, .agg #[.bool (neg (Int.gcd x y : Int)), .slice A42 (zl (Int.gcd x y : Int)) c43]), (56, .agg #[.bool (neg ((Int.gcd x y : Nat) : Int)), .slice A35 (dl ((Int.gcd x y : Nat) : Int)) c36]), (57, .bool true), (58, .bool false), (59, .bool false), (60, .bool false), (61, .bool true), (62, .bool false), (63, .bool false), (65, .agg #[.bool (neg u), .slice A45 (zl u) c46]), (66, .tuple #[.bool (neg u), .slice A69 (zl u) c70]), (64, .tuple #[.bool (neg u), .slice A69 (zl u) c70]), (67, .bool (neg u)), (68, .slice A69 (zl u) c70), (13, .bool (neg u)), (14, .slice A69 (zl u) c70), (70, .agg #[.bool (neg v), .slice A48 (zl v) c49]), (71, .tuple #[.bool (neg v), .slice A73 (zl v) c74]), (69, .tuple #[.bool (neg v), .slice A73 (zl v) c74]), (72, .bool (neg v)), (73, .slice A73 (zl v) c74), (15, .bool (neg v)), (16, .slice A73 (zl v) c74), (74, .bool (neg u)), (75, .slice A69 (zl u) c70), (76, .agg #[.bool (neg u), .slice A77 (dl u) c78]), (77, .bool (neg v)), (78, .slice A73 (zl v) c74), (79, .agg #[.bool (neg v), .slice A81 (dl v) c82]), (17, .pointer (some ⟨g85, 0, none⟩)), (18, .pointer (some ⟨g87, 0, none⟩)), (19, .pointer (some ⟨g104, 0, none⟩))] ∧ St w0 w [⟨g104, #[.bool (neg ((u * x) + (v * y))), .slice A100 (dl ((u * x) + (v * y))) c101], 30⟩, ⟨g87, #[.bool (neg v), .slice A81 (dl v) c82], 30⟩, ⟨g85, #[.bool (neg u), .slice A77 (dl u) c78], 30⟩, ⟨g56, #[.bool (neg v), .slice A48 (zl v) c49], 28⟩, ⟨g54, #[.bool (neg u), .slice A45 (zl u) c46], 28⟩, ⟨g52, #[.bool (neg (Int.gcd x y : Int)), .slice A42 (zl (Int.gcd x y : Int)) c43], 28⟩, ⟨g39, #[.bool (neg ((Int.gcd x y : Nat) : Int)), .slice A35 (dl ((Int.gcd x y : Nat) : Int)) c36], 30⟩, ⟨g31, #[.bool (neg y), .slice A25 (dl y) c26], 30⟩, ⟨g29, #[.bool (neg y), .slice A22 (zl y) c23], 28⟩, ⟨g18, #[.bool (neg x), .slice A12 (dl x) c13], 30⟩, ⟨g16, #[.bool (neg x), .slice A9 (zl x) c10], 28⟩, ⟨g6, #[.bool b0, .slice A0 n0 c0, .bool b1, .slice A1 n1 c1], 24⟩, ⟨g3, #[.bool b1, .slice A1 n1 c1], 24⟩, ⟨g1, #[.bool b0, .slice A0 n0 c0], 24⟩] [pfR A100 c101 ((u * x) + (v * y)), pfR A96 c97 (v * y), pfR A92 c93 (u * x), pfR A81 c82 v, pfR A77 c78 u, pfZ A73 c74 v, pfZ A69 c70 u, pfZ A62 c63 ((Int.gcd x y : Nat) : Int), pfZ A48 c49 v, pfZ A45 c46 u, pfZ A42 c43 (Int.gcd x y : Int), pfR A35 c36 ((Int.gcd x y : Nat) : Int), pfR A25 c26 y, pfZ A22 c23 y, pfR A12 c13 x, pfZ A9 c10 x, pfU A1 n1 c1 xs1, pfU A0 n0 c0 xs0]) ?_ ?_
  · refine region_any (n := 9) (Sk [⟨g87, #[.bool (neg v), .slice A81 (dl v) c82], 30⟩, ⟨g85, #[.bool (neg u), .slice A77 (dl u) c78], 30⟩, ⟨g56, #[.bool (neg v), .slice A48 (zl v) c49], 28⟩, ⟨g54, #[.bool (neg u), .slice A45 (zl u) c46], 28⟩, ⟨g52, #[.bool (neg (Int.gcd x y : Int)), .slice A42 (zl (Int.gcd x y : Int)) c43], 28⟩, ⟨g39, #[.bool (neg ((Int.gcd x y : Nat) : Int)), .slice A35 (dl ((Int.gcd x y : Nat) : Int)) c36], 30⟩, ⟨g31, #[.bool (neg y), .slice A25 (dl y) c26], 30⟩, ⟨g29, #[.bool (neg y), .slice A22 (zl y) c23], 28⟩, ⟨g18, #[.bool (neg x), .slice A12 (dl x) c13], 30⟩, ⟨g16, #[.bool (neg x), .slice A9 (zl x) c10], 28⟩, ⟨g6, #[.bool b0, .slice A0 n0 c0, .bool b1, .slice A1 n1 c1], 24⟩, ⟨g3, #[.bool b1, .slice A1 n1 c1], 24⟩, ⟨g1, #[.bool b0, .slice A0 n0 c0], 24⟩] [pfR A81 c82 v, pfR A77 c78 u, pfZ A73 c74 v, pfZ A69 c70 u, pfZ A62 c63 ((Int.gcd x y : Nat) : Int), pfZ A48 c49 v, pfZ A45 c46 u, pfZ A42 c43 (Int.gcd x y : Int), pfR A35 c36 ((Int.gcd x y : Nat) : Int), pfR A25 c26 y, pfZ A22 c23 y, pfR A12 c13 x, pfZ A9 c10 x, pfU A1 n1 c1 xs1, pfU A0 n0 c0 xs0] [8] []) mixed rfl henv hst ?_
    clear henv hst; intro w91 henv hst
    refine sAny_take (i := 0) [2, 5, 6, 8] (fun w' => w'.heap[g85]? = some (.cells #[.bool (neg u), .slice A77 (dl u) c78] 30 (0, 0))) (v := .agg #[.bool (neg u), .slice A77 (dl u) c78]) rfl (by kernel_rfl) (fun _ _ _ h => h) (fun _ _ _ hS => hS.1.oat (k := 1) rfl) henv rfl (hst.oat (k := 1) rfl) (fun w' hg => rn_load0 henv ty_anvil_anvilref02_Int rfl hg rfl) ?_
    clear henv a; intro a henv
    refine sAny_take (i := 1) [2, 5, 6, 8] (fun w' => w'.heap[g18]? = some (.cells #[.bool (neg x), .slice A12 (dl x) c13] 30 (0, 0))) (v := .agg #[.bool (neg x), .slice A12 (dl x) c13]) rfl (by kernel_rfl) (fun _ _ _ h => h) (fun _ _ _ hS => hS.1.oat (k := 8) rfl) henv rfl (hst.oat (k := 8) rfl) (fun w' hg => rn_load0 henv ty_anvil_anvilref02_Int rfl hg rfl) ?_
    clear henv a; intro a henv
    refine sAny_take (i := 3) [5, 6, 8] (fun w' => w'.heap[g87]? = some (.cells #[.bool (neg v), .slice A81 (dl v) c82] 30 (0, 0))) (v := .agg #[.bool (neg v), .slice A81 (dl v) c82]) rfl (by kernel_rfl) (fun _ _ _ h => h) (fun _ _ _ hS => hS.1.oat (k := 0) rfl) henv rfl (hst.oat (k := 0) rfl) (fun w' hg => rn_load0 henv ty_anvil_anvilref02_Int rfl hg rfl) ?_
    clear henv a; intro a henv
    refine sAny_take (i := 4) [5, 6, 8] (fun w' => w'.heap[g31]? = some (.cells #[.bool (neg y), .slice A25 (dl y) c26] 30 (0, 0))) (v := .agg #[.bool (neg y), .slice A25 (dl y) c26]) rfl (by kernel_rfl) (fun _ _ _ h => h) (fun _ _ _ hS => hS.1.oat (k := 6) rfl) henv rfl (hst.oat (k := 6) rfl) (fun w' hg => rn_load0 henv ty_anvil_anvilref02_Int rfl hg rfl) ?_
    clear henv a; intro a henv
    refine sAny_all (rs := [2, 7]) (by kernel_rfl) (by simp) ?_
    simp only [List.forall_mem_cons, List.not_mem_nil, false_implies, implies_true, and_true]
    refine ⟨?_, ?_⟩
    · refine ⟨_, rfl, rfl, op_call henv rfl Try.call25 rfl (mul_r (x := u) (y := x) (show RIn _ A77 c78 u from hst.pat (k := 1) rfl) (show RIn _ A12 c13 x from hst.pat (k := 11) rfl) (by omega) (by omega)) ?_⟩
      rintro e w95 ⟨_, rfl, ⟨A92, c93, rfl, hz94⟩, hb⟩
      refine ⟨_, rfl, ?_⟩
      clear henv a; intro a henv
      replace hst := (hst.call hb).addR hz94 rfl
      clear hz94
      clear hb
      refine ⟨.inr ⟨hst.kn.pick [0, 1, 2, 3, 4, 5, 6, 7, 8, 9, 10, 11, 12] [1, 2, 3, 4, 5, 6, 7, 8, 9, 10, 11, 12, 13, 14, 15], .inr (hst.kn.pick [] [])⟩, ?_⟩
      refine sAny_all (rs := [5, 7]) (by kernel_rfl) (by simp) ?_
      simp only [List.forall_mem_cons, List.not_mem_nil, false_implies, implies_true, and_true]
      refine ⟨?_, ?_⟩
      · refine ⟨_, rfl, rfl, op_call henv rfl Try.call25 rfl (mul_r (x := v) (y := y) (show RIn _ A81 c82 v from hst.pat (k := 1) rfl) (show RIn _ A25 c26 y from hst.pat (k := 10) rfl) (by omega) (by omega)) ?_⟩
        rintro e w99 ⟨_, rfl, ⟨A96, c97, rfl, hz98⟩, hb⟩
        refine ⟨_, rfl, ?_⟩
        clear henv a; intro a henv
        replace hst := (hst.call hb).addR hz98 rfl
        clear hz98
        clear hb
        refine ⟨.inr ⟨hst.kn.pick [0, 1, 2, 3, 4, 5, 6, 7, 8, 9, 10, 11, 12] [2, 3, 4, 5, 6, 7, 8, 9, 10, 11, 12, 13, 14, 15, 16], .inr (hst.kn.pick [] [])⟩, ?_⟩
        refine sAny_all (rs := [6, 7]) (by kernel_rfl) (by simp) ?_
        simp only [List.forall_mem_cons, List.not_mem_nil, false_implies, implies_true, and_true]
        refine ⟨?_, ?_⟩
        · refine ⟨_, rfl, rfl, op_call henv rfl Try.call21 rfl (add_r (x := u * x) (y := v * y) (show RIn _ A92 c93 (u * x) from hst.pat (k := 1) rfl) (show RIn _ A96 c97 (v * y) from hst.pat (k := 0) rfl) (by omega) (by omega)) ?_⟩
          rintro e w103 ⟨_, rfl, ⟨A100, c101, rfl, hz102⟩, hb⟩
          refine ⟨_, rfl, ?_⟩
          clear henv a; intro a henv
          replace hst := (hst.call hb).addR hz102 rfl
          clear hz102
          clear hb
          refine ⟨.inr ⟨hst.kn.pick [0, 1, 2, 3, 4, 5, 6, 7, 8, 9, 10, 11, 12] [3, 4, 5, 6, 7, 8, 9, 10, 11, 12, 13, 14, 15, 16, 17], .inr (hst.kn.pick [] [])⟩, ?_⟩
          refine sAny_one (i := 7) (by kernel_rfl) rfl rfl (op_alloc (c := #[.bool (neg 0), .slice none (dl 0) 0]) henv hst rfl zero_anvil_anvilref02_Int rcells ?_)
          clear henv hst a; intro a w105 g104 henv hst
          refine ⟨.inr ⟨hst.kn.pick [1, 2, 3, 4, 5, 6, 7, 8, 9, 10, 11, 12, 13] [3, 4, 5, 6, 7, 8, 9, 10, 11, 12, 13, 14, 15, 16, 17], .inr (hst.kn.pick [] [])⟩, ?_⟩
          refine sAny_one (i := 8) (by kernel_rfl) rfl rfl (op_store (k := 0) (c' := #[.bool (neg ((u * x) + (v * y))), .slice A100 (dl ((u * x) + (v * y))) c101]) henv hst (ty_anvil_anvilref02_Int.size) rfl rfl rfl rfl (by simp) rfl rfl ?_)
          clear henv hst a; intro a w106 henv hst
          refine ⟨.inr ⟨hst.kn.pick [1, 2, 3, 4, 5, 6, 7, 8, 9, 10, 11, 12, 13] [3, 4, 5, 6, 7, 8, 9, 10, 11, 12, 13, 14, 15, 16, 17], .inl rfl⟩, ?_⟩
          refine sAny_done (by kernel_rfl) ?_ _
          exact th_n ⟨A92, c93, A96, c97, A100, c101, g104, henv.sub ⟨rfl, rfl, rfl, rfl, rfl, rfl, rfl, rfl, rfl, rfl, rfl, rfl, rfl, rfl, rfl, rfl, rfl, rfl, rfl, rfl, rfl, rfl, rfl, rfl, rfl, rfl, rfl, rfl, rfl, rfl, rfl, rfl, rfl, rfl, rfl, rfl, rfl, rfl, rfl, rfl, rfl, rfl, rfl, rfl, rfl, rfl, rfl, rfl, rfl, rfl, rfl, rfl, rfl, rfl, rfl, rfl, rfl, rfl, rfl, rfl, rfl, rfl, rfl, rfl, rfl, rfl, rfl, rfl, rfl, rfl, rfl, rfl, rfl, rfl, rfl, rfl, rfl, rfl, trivial⟩, hst.pick [0, 1, 2, 3, 4, 5, 6, 7, 8, 9, 10, 11, 12, 13] [0, 1, 2, 3, 4, 5, 6, 7, 8, 9, 10, 11, 12, 13, 14, 15, 16, 17] (by decide)⟩
        · refine ⟨_, rfl, rfl, op_alloc (c := #[.bool (neg 0), .slice none (dl 0) 0]) henv hst rfl zero_anvil_anvilref02_Int rcells ?_⟩
          clear henv hst a; intro a w108 g107 henv hst
          refine ⟨.inr ⟨hst.kn.pick [1, 2, 3, 4, 5, 6, 7, 8, 9, 10, 11, 12, 13] [2, 3, 4, 5, 6, 7, 8, 9, 10, 11, 12, 13, 14, 15, 16], .inr (hst.kn.pick [] [])⟩, ?_⟩
          refine sAny_one (i := 6) (by kernel_rfl) rfl rfl (op_call henv rfl Try.call21 rfl (add_r (x := u * x) (y := v * y) (show RIn _ A92 c93 (u * x) from hst.pat (k := 1) rfl) (show RIn _ A96 c97 (v * y) from hst.pat (k := 0) rfl) (by omega) (by omega)) ?_)
          rintro e w112 ⟨_, rfl, ⟨A109, c110, rfl, hz111⟩, hb⟩
          refine ⟨_, rfl, ?_⟩
          clear henv a; intro a henv
          replace hst := (hst.call hb).addR hz111 rfl
          clear hz111
          clear hb
          refine ⟨.inr ⟨hst.kn.pick [1, 2, 3, 4, 5, 6, 7, 8, 9, 10, 11, 12, 13] [3, 4, 5, 6, 7, 8, 9, 10, 11, 12, 13, 14, 15, 16, 17], .inr (hst.kn.pick [] [])⟩, ?_⟩
          refine sAny_one (i := 8) (by kernel_rfl) rfl rfl (op_store (k := 0) (c' := #[.bool (neg ((u * x) + (v * y))), .slice A109 (dl ((u * x) + (v * y))) c110]) henv hst (ty_anvil_anvilref02_Int.size) rfl rfl rfl rfl (by simp) rfl rfl ?_)
          clear henv hst a; intro a w113 henv hst
          refine ⟨.inr ⟨hst.kn.pick [1, 2, 3, 4, 5, 6, 7, 8, 9, 10, 11, 12, 13] [3, 4, 5, 6, 7, 8, 9, 10, 11, 12, 13, 14, 15, 16, 17], .inl rfl⟩, ?_⟩
          refine sAny_done (by kernel_rfl) ?_ _
          exact th_n ⟨A92, c93, A96, c97, A109, c110, g107, henv.sub ⟨rfl, rfl, rfl, rfl, rfl, rfl, rfl, rfl, rfl, rfl, rfl, rfl, rfl, rfl, rfl, rfl, rfl, rfl, rfl, rfl, rfl, rfl, rfl, rfl, rfl, rfl, rfl, rfl, rfl, rfl, rfl, rfl, rfl, rfl, rfl, rfl, rfl, rfl, rfl, rfl, rfl, rfl, rfl, rfl, rfl, rfl, rfl, rfl, rfl, rfl, rfl, rfl, rfl, rfl, rfl, rfl, rfl, rfl, rfl, rfl, rfl, rfl, rfl, rfl, rfl, rfl, rfl, rfl, rfl, rfl, rfl, rfl, rfl, rfl, rfl, rfl, rfl, rfl, trivial⟩, hst.pick [0, 1, 2, 3, 4, 5, 6, 7, 8, 9, 10, 11, 12, 13] [0, 1, 2, 3, 4, 5, 6, 7, 8, 9, 10, 11, 12, 13, 14, 15, 16, 17] (by decide)⟩
      · refine ⟨_, rfl, rfl, op_alloc (c := #[.bool (neg 0), .slice none (dl 0) 0]) henv hst rfl zero_anvil_anvilref02_Int rcells ?_⟩
        clear henv hst a; intro a w115 g114 henv hst
        refine ⟨.inr ⟨hst.kn.pick [1, 2, 3, 4, 5, 6, 7, 8, 9, 10, 11, 12, 13] [1, 2, 3, 4, 5, 6, 7, 8, 9, 10, 11, 12, 13, 14, 15], .inr (hst.kn.pick [] [])⟩, ?_⟩
        refine sAny_one (i := 5) (by kernel_rfl) rfl rfl (op_call henv rfl Try.call25 rfl (mul_r (x := v) (y := y) (show RIn _ A81 c82 v from hst.pat (k := 1) rfl) (show RIn _ A25 c26 y from hst.pat (k := 10) rfl) (by omega) (by omega)) ?_)
        rintro e w119 ⟨_, rfl, ⟨A116, c117, rfl, hz118⟩, hb⟩
        refine ⟨_, rfl, ?_⟩
        clear henv a; intro a henv
        replace hst := (hst.call hb).addR hz118 rfl
        clear hz118
        clear hb
        refine ⟨.inr ⟨hst.kn.pick [1, 2, 3, 4, 5, 6, 7, 8, 9, 10, 11, 12, 13] [2, 3, 4, 5, 6, 7, 8, 9, 10, 11, 12, 13, 14, 15, 16], .inr (hst.kn.pick [] [])⟩, ?_⟩
        refine sAny_one (i := 6) (by kernel_rfl) rfl rfl (op_call henv rfl Try.call21 rfl (add_r (x := u * x) (y := v * y) (show RIn _ A92 c93 (u * x) from hst.pat (k := 1) rfl) (show RIn _ A116 c117 (v * y) from hst.pat (k := 0) rfl) (by omega) (by omega)) ?_)
        rintro e w123 ⟨_, rfl, ⟨A120, c121, rfl, hz122⟩, hb⟩
        refine ⟨_, rfl, ?_⟩
        clear henv a; intro a henv
        replace hst := (hst.call hb).addR hz122 rfl
        clear hz122
        clear hb
        refine ⟨.inr ⟨hst.kn.pick [1, 2, 3, 4, 5, 6, 7, 8, 9, 10, 11, 12, 13] [3, 4, 5, 6, 7, 8, 9, 10, 11, 12, 13, 14, 15, 16, 17], .inr (hst.kn.pick [] [])⟩, ?_⟩
        refine sAny_one (i := 8) (by kernel_rfl) rfl rfl (op_store (k := 0) (c' := #[.bool (neg ((u * x) + (v * y))), .slice A120 (dl ((u * x) + (v * y))) c121]) henv hst (ty_anvil_anvilref02_Int.size) rfl rfl rfl rfl (by simp) rfl rfl ?_)
        clear henv hst a; intro a w124 henv hst
        refine ⟨.inr ⟨hst.kn.pick [1, 2, 3, 4, 5, 6, 7, 8, 9, 10, 11, 12, 13] [3, 4, 5, 6, 7, 8, 9, 10, 11, 12, 13, 14, 15, 16, 17], .inl rfl⟩, ?_⟩
        refine sAny_done (by kernel_rfl) ?_ _
        exact th_n ⟨A92, c93, A116, c117, A120, c121, g114, henv.sub ⟨rfl, rfl, rfl, rfl, rfl, rfl, rfl, rfl, rfl, rfl, rfl, rfl, rfl, rfl, rfl, rfl, rfl, rfl, rfl, rfl, rfl, rfl, rfl, rfl, rfl, rfl, rfl, rfl, rfl, rfl, rfl, rfl, rfl, rfl, rfl, rfl, rfl, rfl, rfl, rfl, rfl, rfl, rfl, rfl, rfl, rfl, rfl, rfl, rfl, rfl, rfl, rfl, rfl, rfl, rfl, rfl, rfl, rfl, rfl, rfl, rfl, rfl, rfl, rfl, rfl, rfl, rfl, rfl, rfl, rfl, rfl, rfl, rfl, rfl, rfl, rfl, rfl, rfl, trivial⟩, hst.pick [0, 1, 2, 3, 4, 5, 6, 7, 8, 9, 10, 11, 12, 13] [0, 1, 2, 3, 4, 5, 6, 7, 8, 9, 10, 11, 12, 13, 14, 15, 16, 17] (by decide)⟩
    · refine ⟨_, rfl, rfl, op_alloc (c := #[.bool (neg 0), .slice none (dl 0) 0]) henv hst rfl zero_anvil_anvilref02_Int rcells ?_⟩
      clear henv hst a; intro a w126 g125 henv hst
      refine ⟨.inr ⟨hst.kn.pick [1, 2, 3, 4, 5, 6, 7, 8, 9, 10, 11, 12, 13] [0, 1, 2, 3, 4, 5, 6, 7, 8, 9, 10, 11, 12, 13, 14], .inr (hst.kn.pick [] [])⟩, ?_⟩
      refine sAny_one (i := 2) (by kernel_rfl) rfl rfl (op_call henv rfl Try.call25 rfl (mul_r (x := u) (y := x) (show RIn _ A77 c78 u from hst.pat (k := 1) rfl) (show RIn _ A12 c13 x from hst.pat (k := 11) rfl) (by omega) (by omega)) ?_)
      rintro e w130 ⟨_, rfl, ⟨A127, c128, rfl, hz129⟩, hb⟩
      refine ⟨_, rfl, ?_⟩
      clear henv a; intro a henv
      replace hst := (hst.call hb).addR hz129 rfl
      clear hz129
      clear hb
      refine ⟨.inr ⟨hst.kn.pick [1, 2, 3, 4, 5, 6, 7, 8, 9, 10, 11, 12, 13] [1, 2, 3, 4, 5, 6, 7, 8, 9, 10, 11, 12, 13, 14, 15], .inr (hst.kn.pick [] [])⟩, ?_⟩
      refine sAny_one (i := 5) (by kernel_rfl) rfl rfl (op_call henv rfl Try.call25 rfl (mul_r (x := v) (y := y) (show RIn _ A81 c82 v from hst.pat (k := 1) rfl) (show RIn _ A25 c26 y from hst.pat (k := 10) rfl) (by omega) (by omega)) ?_)
      rintro e w134 ⟨_, rfl, ⟨A131, c132, rfl, hz133⟩, hb⟩
      refine ⟨_, rfl, ?_⟩
      clear henv a; intro a henv
      replace hst := (hst.call hb).addR hz133 rfl
      clear hz133
      clear hb
      refine ⟨.inr ⟨hst.kn.pick [1, 2, 3, 4, 5, 6, 7, 8, 9, 10, 11, 12, 13] [2, 3, 4, 5, 6, 7, 8, 9, 10, 11, 12, 13, 14, 15, 16], .inr (hst.kn.pick [] [])⟩, ?_⟩
      refine sAny_one (i := 6) (by kernel_rfl) rfl rfl (op_call henv rfl Try.call21 rfl (add_r (x := u * x) (y := v * y) (show RIn _ A127 c128 (u * x) from hst.pat (k := 1) rfl) (show RIn _ A131 c132 (v * y) from hst.pat (k := 0) rfl) (by omega) (by omega)) ?_)
      rintro e w138 ⟨_, rfl, ⟨A135, c136, rfl, hz137⟩, hb⟩
      refine ⟨_, rfl, ?_⟩
      clear henv a; intro a henv
      replace hst := (hst.call hb).addR hz137 rfl
      clear hz137
      clear hb
      refine ⟨.inr ⟨hst.kn.pick [1, 2, 3, 4, 5, 6, 7, 8, 9, 10, 11, 12, 13] [3, 4, 5, 6, 7, 8, 9, 10, 11, 12, 13, 14, 15, 16, 17], .inr (hst.kn.pick [] [])⟩, ?_⟩
      refine sAny_one (i := 8) (by kernel_rfl) rfl rfl (op_store (k := 0) (c' := #[.bool (neg ((u * x) + (v * y))), .slice A135 (dl ((u * x) + (v * y))) c136]) henv hst (ty_anvil_anvilref02_Int.size) rfl rfl rfl rfl (by simp) rfl rfl ?_)
      clear henv hst a; intro a w139 henv hst
      refine ⟨.inr ⟨hst.kn.pick [1, 2, 3, 4, 5, 6, 7, 8, 9, 10, 11, 12, 13] [3, 4, 5, 6, 7, 8, 9, 10, 11, 12, 13, 14, 15, 16, 17], .inl rfl⟩, ?_⟩
      refine sAny_done (by kernel_rfl) ?_ _
      exact th_n ⟨A127, c128, A131, c132, A135, c136, g125, henv.sub ⟨rfl, rfl, rfl, rfl, rfl, rfl, rfl, rfl, rfl, rfl, rfl, rfl, rfl, rfl, rfl, rfl, rfl, rfl, rfl, rfl, rfl, rfl, rfl, rfl, rfl, rfl, rfl, rfl, rfl, rfl, rfl, rfl, rfl, rfl, rfl, rfl, rfl, rfl, rfl, rfl, rfl, rfl, rfl, rfl, rfl, rfl, rfl, rfl, rfl, rfl, rfl, rfl, rfl, rfl, rfl, rfl, rfl, rfl, rfl, rfl, rfl, rfl, rfl, rfl, rfl, rfl, rfl, rfl, rfl, rfl, rfl, rfl, rfl, rfl, rfl, rfl, rfl, rfl, trivial⟩, hst.pick [0, 1, 2, 3, 4, 5, 6, 7, 8, 9, 10, 11, 12, 13] [0, 1, 2, 3, 4, 5, 6, 7, 8, 9, 10, 11, 12, 13, 14, 15, 16, 17] (by decide)⟩
  clear henv hst a
  rintro a w140 ⟨A92, c93, A96, c97, A100, c101, g104, henv, hst⟩
  refine wp_seq ?_
  refine wp_seq ?_
  refine region_seq ?_
  refine seq_step rfl (op_val (v := .agg #[.bool (neg ((u * x) + (v * y))), .slice A100 (dl ((u * x) + (v * y))) c101]) henv rfl (rn_load0 henv ty_anvil_anvilref02_Int rfl (hst.oat (k := 0) rfl) rfl) ?_)
  clear henv a; intro a henv
  refine seq_step rfl (op_val (v := .agg #[.bool (neg ((Int.gcd x y : Nat) : Int)), .slice A35 (dl ((Int.gcd x y : Nat) : Int)) c36]) henv rfl (rn_load0 henv ty_anvil_anvilref02_Int rfl (hst.oat (k := 6) rfl) rfl) ?_)
  clear henv a; intro a henv
  refine seq_step rfl (op_call henv rfl Try.call45 rfl (same_true (x := (u * x) + (v * y)) (y := ((Int.gcd x y : Nat) : Int)) (show RIn _ A100 c101 ((u * x) + (v * y)) from hst.pat (k := 0) rfl) (show RIn _ A35 c36 ((Int.gcd x y : Nat) : Int) from hst.pat (k := 11) rfl) huv) ?_)
  rintro e w141 ⟨rfl, hb⟩
  refine ⟨_, rfl, ?_⟩
  clear henv a; intro a henv
  replace hst := hst.call hb
  clear hb
  refine seq_step rfl (op_val (v := .bool false) henv rfl (rn_un henv rfl rfl) ?_)
  clear henv a; intro a henv
  refine wpList_nil ?_
  refine th_n ?_
  refine if_f henv rfl (rfl) ?_
  refine wp_skip ?_
  refine th_n ?_
  refine wp_seq ?_
  refine wp_seq ?_
  refine region_seq ?_
  refine seq_step rfl (op_val (v := .agg #[.bool (neg y), .slice A25 (dl y) c26]) henv rfl (rn_load0 henv ty_anvil_anvilref02_Int rfl (hst.oat (k := 7) rfl) rfl) ?_)
  clear henv a; intro a henv
  refine seq_step rfl (op_call henv rfl Try.call12 rfl (sign_r (z := y)) ?_)
  rintro e w142 ⟨rfl, hb⟩
  refine ⟨_, rfl, ?_⟩
  clear henv a; intro a henv
  replace hst := hst.call hb
  clear hb
  refine seq_step rfl (op_val (v := .bool (y.sign == (0 : Int))) henv rfl (rn_bin henv rfl rfl rfl) ?_)
  clear henv a; intro a henv
  refine wpList_nil ?_
  refine th_n ?_
  refine if_f henv rfl (hsy) ?_
  refine wp_skip ?_
  refine th_n ?_
  refine wp_seq ?_
  refine cut (fun a w => ∃ A144 : Option Addr, ∃ c145 : Nat, ∃ A148 : Option Addr, ∃ c149 : Nat, ∃ g152 : Nat, Env 120 a [(0, .agg #[.bool b0, .slice A0 n0 c0]), (1, .agg #[.bool b1, .slice A1 n1 c1]), (2, .pointer (some ⟨g1, 0, none⟩)), (3, .pointer (some ⟨g3, 0, none⟩)), (4, .bool false), (22, .bool true), (23, .bool false), (24, .agg #[.bool b0, .slice A0 n0 c0]), (25, .agg #[.bool b1, .slice A1 n1 c1]), (26, .slice (some ⟨g6, 0, none⟩) 2 2), (27, .bool false), (29, .agg #[.bool b0, .slice A0 n0 c0]), (30, .tuple #[.agg #[.bool (neg x), .slice A9 (zl x) c10], .agg #[.bool (neg x), .slice A12 (dl x) c13]]), (28, .tuple #[.agg #[.bool (neg x), .slice A9 (zl x) c10], .agg #[.bool (neg x), .slice A12 (dl x) c13]]), (31, .agg #[.bool (neg x), .slice A9 (zl x) c10]), (32, .agg #[.bool (neg x), .slice A12 (dl x) c13]), (5, .pointer (some ⟨g16, 0, none⟩)), (6, .pointer (some ⟨g18, 0, none⟩)), (34, .agg #[.bool b1, .slice A1 n1 c1]), (35, .tuple #[.agg #[.bool (neg y), .slice A22 (zl y) c23], .agg #[.bool (neg y), .slice A25 (dl y) c26]]), (33, .tuple #[.agg #[.bool (neg y), .slice A22 (zl y) c23], .agg #[.bool (neg y), .slice A25 (dl y) c26]]), (36, .agg #[.bool (neg y), .slice A22 (zl y) c23]), (37, .agg #[.bool (neg y), .slice A25 (dl y) c26]), (7, .pointer (some ⟨g29, 0, none⟩)), (8, .pointer (some ⟨g31, 0, none⟩)), (38, .agg #[.bool (neg x), .slice A12 (dl x) c13]), (39, .agg #[.bool (neg y), .slice A25 (dl y) c26]), (40, .agg #[.bool (neg ((Int.gcd x y : Nat) : Int)), .slice A35 (dl ((Int.gcd x y : Nat) : Int)) c36]), (9, .pointer (some ⟨g39, 0, none⟩)), (42, .agg #[.bool (neg x), .slice A9 (zl x) c10]), (43, .agg #[.bool (neg y), .slice A22 (zl y) c23]), (44, .tuple #[.agg #[.bool (neg (Int.gcd x y : Int)), .slice A42 (zl (Int.gcd x y : Int)) c43], .agg #[.bool (neg u), .slice A45 (zl u) c46], .agg #[.bool (neg v), .slice A48 (zl v) c49]]), (41, .tuple #[.agg #[.bool (neg (Int.gcd x y : Int)), .slice A42 (zl (Int.gcd x y : Int)) c43], .agg #[.bool (neg u), .slice A45 (zl u) c46], .agg #[.bool (neg v), .slice A48 (zl v) c49]]), (45, .agg #[.bool (neg (Int.gcd x y : Int)), .slice A42 (zl (Int.gcd x y : Int)) c43]), (46, .agg #[.bool (neg u), .slice A45 (zl u) c46]), (47, .agg #[.bool (neg v), .slice A48 (zl v) c49]), (10, .pointer (some ⟨g52, 0, none⟩)), (11, .pointer (some ⟨g54, 0, none⟩)), (12, .pointer (some ⟨g56, 0, none⟩)), (48, .agg #[.bool (neg x), .slice A9 (zl x) c10]), (49, .agg #[.bool (neg y), .slice A22 (zl y) c23]), (51, .agg #[.bool (neg ((Int.gcd x y : Nat) : Int)), .slice A35 (dl ((Int.gcd x y : Nat) : Int)) c36]), (50, .agg #[.bool (neg ((Int.gcd x y : Nat) : Int)), .slice A62 (zl ((Int.gcd x y : Nat) : Int)) c63]), (52, .bool true), (53, .bool false), (54, .bool false), (55, .agg #[.bool (neg (Int.gcd x y : Int)), .slice A42 (zl (Int.gcd x y : Int)) c43]), (56, .agg #[.bool (neg ((Int.gcd x y : Nat) : Int)), .slice A35 (dl ((Int.gcd x y : Nat) : Int)) c36]), (57, .bool true), (58, .bool false), (59, .bool false), (60, .bool false), (61, .bool true), (62, .bool false), (63, .bool false), (65, .agg #[.bool (neg u), .slice A45 (zl u) c46]), (66, .tuple #[.bool (neg u), .slice A69 (zl u) c70]), (64, .tuple #[.bool (neg u), .slice A69 (zl u) c70]), (67, .bool (neg u)), (68, .slice A69 (zl u) c70), (13, .bool (neg u)), (14, .slice A69 (zl u) c70), (70, .agg #[.bool (neg v), .slice A48 (zl v) c49]), (71, .tuple #[.bool (neg v), .slice A73 (zl v) c74]), (69, .tuple #[.bool (neg v), .slice A73 (zl v) c74]), (72, .bool (neg v)), (73, .slice A73 (zl v) c74), (15, .bool (neg v)), (16, .slice A73 (zl v) c74), (74, .bool (neg u)), (75, .slice A69 (zl u) c70), (76, .agg #[.bool (neg u), .slice A77 (dl u) c78]), (77, .bool (neg v)), (78, .slice A73 (zl v) c74), (79, .agg #[.bool (neg v), .slice A81 (dl v) c82]), (17, .pointer (some ⟨g85, 0, none⟩)), (18, .pointer (some ⟨g87, 0, none⟩)), (19, .pointer (some ⟨g104, 0, none⟩)), (87, .agg #[.bool (neg ((u * x) + (v * y))), .slice A100 (dl ((u * x) + (v * y))) c101]), (88, .agg #[.bool (neg ((Int.gcd x y : Nat) : Int)), .slice A35 (dl ((Int.gcd x y : Nat) : Int)) c36]), (89, .bool true), (90, .bool false), (91, .agg #[.bool (neg y), .slice A25 (dl y) c26]), (92, .int .i64 y.sign), (93, .bool (y.sign == (0 : Int))), (20, .pointer (some ⟨g152, 0, none⟩))] ∧ St w0 w [⟨g152, #[.bool (neg ((y.natAbs : Int) / ((Int.gcd x y : Nat) : Int))), .slice A148 (dl ((y.natAbs : Int) / ((Int.gcd x y : Nat) : Int))) c149], 30⟩, ⟨g104, #[.bool (neg ((u * x) + (v * y))), .slice A100 (dl ((u * x) + (v * y))) c101], 30⟩, ⟨g87, #[.bool (neg v), .slice A81 (dl v) c82], 30⟩, ⟨g85, #[.bool (neg u), .slice A77 (dl u) c78], 30⟩, ⟨g56, #[.bool (neg v), .slice A48 (zl v) c49], 28⟩, ⟨g54, #[.bool (neg u), .slice A45 (zl u) c46], 28⟩, ⟨g52, #[.bool (neg (Int.gcd x y : Int)), .slice A42 (zl (Int.gcd x y : Int)) c43], 28⟩, ⟨g39, #[.bool (neg ((Int.gcd x y : Nat) : Int)), .slice A35 (dl ((Int.gcd x y : Nat) : Int)) c36], 30⟩, ⟨g31, #[.bool (neg y), .slice A25 (dl y) c26], 30⟩, ⟨g29, #[.bool (neg y), .slice A22 (zl y) c23], 28⟩, ⟨g18, #[.bool (neg x), .slice A12 (dl x) c13], 30⟩, ⟨g16, #[.bool (neg x), .slice A9 (zl x) c10], 28⟩, ⟨g6, #[.bool b0, .slice A0 n0 c0, .bool b1, .slice A1 n1 c1], 24⟩, ⟨g3, #[.bool b1, .slice A1 n1 c1], 24⟩, ⟨g1, #[.bool b0, .slice A0 n0 c0], 24⟩] [pfR A148 c149 ((y.natAbs : Int) / ((Int.gcd x y : Nat) : Int)), pfR A144 c145 (y.natAbs : Int), pfR A100 c101 ((u * x) + (v * y)), pfR A96 c97 (v * y), pfR A92 c93 (u * x), pfR A81 c82 v, pfR A77 c78 u, pfZ A73 c74 v, pfZ A69 c70 u, pfZ A62 c63 ((Int.gcd x y : Nat) : Int), pfZ A48 c49 v, pfZ A45 c46 u, pfZ A42 c43 (Int.gcd x y : Int), pfR A35 c36 ((Int.gcd x y : Nat) : Int), pfR A25 c26 y, pfZ A22 c23 y, pfR A12 c13 x, pfZ A9 c10 x, pfU A1 n1 c1 xs1, pfU A0 n0 c0 xs0]) ?_ ?_
  · refine region_any (n := 10) (Sk [⟨g104, #[.bool (neg ((u * x) + (v * y))), .slice A100 (dl ((u * x) + (v * y))) c101], 30⟩, ⟨g87, #[.bool (neg v), .slice A81 (dl v) c82], 30⟩, ⟨g85, #[.bool (neg u), .slice A77 (dl u) c78], 30⟩, ⟨g56, #[.bool (neg v), .slice A48 (zl v) c49], 28⟩, ⟨g54, #[.bool (neg u), .slice A45 (zl u) c46], 28⟩, ⟨g52, #[.bool (neg (Int.gcd x y : Int)), .slice A42 (zl (Int.gcd x y : Int)) c43], 28⟩, ⟨g39, #[.bool (neg ((Int.gcd x y : Nat) : Int)), .slice A35 (dl ((Int.gcd x y : Nat) : Int)) c36], 30⟩, ⟨g31, #[.bool (neg y), .slice A25 (dl y) c26], 30⟩, ⟨g29, #[.bool (neg y), .slice A22 (zl y) c23], 28⟩, ⟨g18, #[.bool (neg x), .slice A12 (dl x) c13], 30⟩, ⟨g16, #[.bool (neg x), .slice A9 (zl x) c10], 28⟩, ⟨g6, #[.bool b0, .slice A0 n0 c0, .bool b1, .slice A1 n1 c1], 24⟩, ⟨g3, #[.bool b1, .slice A1 n1 c1], 24⟩, ⟨g1, #[.bool b0, .slice A0 n0 c0], 24⟩] [pfR A100 c101 ((u * x) + (v * y)), pfR A96 c97 (v * y), pfR A92 c93 (u * x), pfR A81 c82 v, pfR A77 c78 u, pfZ A73 c74 v, pfZ A69 c70 u, pfZ A62 c63 ((Int.gcd x y : Nat) : Int), pfZ A48 c49 v, pfZ A45 c46 u, pfZ A42 c43 (Int.gcd x y : Int), pfR A35 c36 ((Int.gcd x y : Nat) : Int), pfR A25 c26 y, pfZ A22 c23 y, pfR A12 c13 x, pfZ A9 c10 x, pfU A1 n1 c1 xs1, pfU A0 n0 c0 xs0] [8] []) mixed rfl henv hst ?_
    clear henv hst; intro w143 henv hst
    refine sAny_take (i := 0) [1, 3, 4, 5, 6, 8, 9] (fun w' => w'.heap[g31]? = some (.cells #[.bool (neg y), .slice A25 (dl y) c26] 30 (0, 0))) (v := .agg #[.bool (neg y), .slice A25 (dl y) c26]) rfl (by kernel_rfl) (fun _ _ _ h => h) (fun _ _ _ hS => hS.1.oat (k := 7) rfl) henv rfl (hst.oat (k := 7) rfl) (fun w' hg => rn_load0 henv ty_anvil_anvilref02_Int rfl hg rfl) ?_
    clear henv a; intro a henv
    refine sAny_take (i := 2) [3, 4, 5, 6, 8, 9] (fun w' => w'.heap[g39]? = some (.cells #[.bool (neg ((Int.gcd x y : Nat) : Int)), .slice A35 (dl ((Int.gcd x y : Nat) : Int)) c36] 30 (0, 0))) (v := .agg #[.bool (neg ((Int.gcd x y : Nat) : Int)), .slice A35 (dl ((Int.gcd x y : Nat) : Int)) c36]) rfl (by kernel_rfl) (fun _ _ _ h => h) (fun _ _ _ hS => hS.1.oat (k := 6) rfl) henv rfl (hst.oat (k := 6) rfl) (fun w' hg => rn_load0 henv ty_anvil_anvilref02_Int rfl hg rfl) ?_
    clear henv a; intro a henv
    refine sAny_all (rs := [1, 7]) (by kernel_rfl) (by simp) ?_
    simp only [List.forall_mem_cons, List.not_mem_nil, false_implies, implies_true, and_true]
    refine ⟨?_, ?_⟩
    · refine ⟨_, rfl, rfl, op_call henv rfl Try.call19 rfl (abs_r (z := y) (show RIn _ A25 c26 y from hst.pat (k := 12) rfl)) ?_⟩
      rintro e w147 ⟨_, rfl, ⟨A144, c145, rfl, hz146⟩, hb⟩
      refine ⟨_, rfl, ?_⟩
      clear henv a; intro a henv
      replace hst := (hst.call hb).addR hz146 rfl
      clear hz146
      clear hb
      refine ⟨.inr ⟨hst.kn.pick [0, 1, 2, 3, 4, 5, 6, 7, 8, 9, 10, 11, 12, 13] [1, 2, 3, 4, 5, 6, 7, 8, 9, 10, 11, 12, 13, 14, 15, 16, 17, 18], .inr (hst.kn.pick [] [])⟩, ?_⟩
      refine sAny_all (rs := [3, 7]) (by kernel_rfl) (by simp) ?_
      simp only [List.forall_mem_cons, List.not_mem_nil, false_implies, implies_true, and_true]
      refine ⟨?_, ?_⟩
      · refine ⟨_, rfl, rfl, op_call henv rfl Try.call39 rfl (over_r (x := (y.natAbs : Int)) (y := ((Int.gcd x y : Nat) : Int)) (show RIn _ A144 c145 (y.natAbs : Int) from hst.pat (k := 0) rfl) (show RIn _ A35 c36 ((Int.gcd x y : Nat) : Int) from hst.pat (k := 12) rfl) (by omega) (by omega) (by have := gcd_pos (x := x) hy0; omega) (Int.emod_eq_zero_of_dvd (Int.dvd_natAbs.2 (Int.gcd_dvd_right x y)))) ?_⟩
        rintro e w151 ⟨_, rfl, ⟨A148, c149, rfl, hz150⟩, hb⟩
        refine ⟨_, rfl, ?_⟩
        clear henv a; intro a henv
        replace hst := (hst.call hb).addR hz150 rfl
        clear hz150
        clear hb
        refine ⟨.inr ⟨hst.kn.pick [0, 1, 2, 3, 4, 5, 6, 7, 8, 9, 10, 11, 12, 13] [2, 3, 4, 5, 6, 7, 8, 9, 10, 11, 12, 13, 14, 15, 16, 17, 18, 19], .inr (hst.kn.pick [] [])⟩, ?_⟩
        refine sAny_take (i := 4) [5, 6, 8, 9] (fun _ => True) (v := .tuple #[.agg #[.bool (neg ((y.natAbs : Int) / ((Int.gcd x y : Nat) : Int))), .slice A148 (dl ((y.natAbs : Int) / ((Int.gcd x y : Nat) : Int))) c149], .bool true]) rfl (by kernel_rfl) (fun _ _ _ h => h) (fun _ _ _ _ => trivial) henv rfl trivial (fun w' _ => rn_move henv rfl) ?_
        clear henv a; intro a henv
        refine sAny_take (i := 5) [8, 9] (fun _ => True) (v := .agg #[.bool (neg ((y.natAbs : Int) / ((Int.gcd x y : Nat) : Int))), .slice A148 (dl ((y.natAbs : Int) / ((Int.gcd x y : Nat) : Int))) c149]) rfl (by kernel_rfl) (fun _ _ _ h => h) (fun _ _ _ _ => trivial) henv rfl trivial (fun w' _ => rn_extract henv rfl rfl) ?_
        clear henv a; intro a henv
        refine sAny_take (i := 6) [9] (fun _ => True) (v := .bool true) rfl (by kernel_rfl) (fun _ _ _ h => h) (fun _ _ _ _ => trivial) henv rfl trivial (fun w' _ => rn_extract henv rfl rfl) ?_
        clear henv a; intro a henv
        refine sAny_one (i := 7) (by kernel_rfl) rfl rfl (op_alloc (c := #[.bool (neg 0), .slice none (dl 0) 0]) henv hst rfl zero_anvil_anvilref02_Int rcells ?_)
        clear henv hst a; intro a w153 g152 henv hst
        refine ⟨.inr ⟨hst.kn.pick [1, 2, 3, 4, 5, 6, 7, 8, 9, 10, 11, 12, 13, 14] [2, 3, 4, 5, 6, 7, 8, 9, 10, 11, 12, 13, 14, 15, 16, 17, 18, 19], .inr (hst.kn.pick [] [])⟩, ?_⟩
        refine sAny_one (i := 8) (by kernel_rfl) rfl rfl (op_store (k := 0) (c' := #[.bool (neg ((y.natAbs : Int) / ((Int.gcd x y : Nat) : Int))), .slice A148 (dl ((y.natAbs : Int) / ((Int.gcd x y : Nat) : Int))) c149]) henv hst (ty_anvil_anvilref02_Int.size) rfl rfl rfl rfl (by simp) rfl rfl ?_)
        clear henv hst a; intro a w154 henv hst
        refine ⟨.inr ⟨hst.kn.pick [1, 2, 3, 4, 5, 6, 7, 8, 9, 10, 11, 12, 13, 14] [2, 3, 4, 5, 6, 7, 8, 9, 10, 11, 12, 13, 14, 15, 16, 17, 18, 19], .inl rfl⟩, ?_⟩
        refine sAny_take (i := 9) [] (fun _ => True) (v := .bool true) rfl (by kernel_rfl) (fun _ _ _ h => h) (fun _ _ _ _ => trivial) henv rfl trivial (fun w' _ => rn_assign henv rfl) ?_
        clear henv a; intro a henv
        refine sAny_done (by kernel_rfl) ?_ _
        exact th_n ⟨A144, c145, A148, c149, g152, henv.sub ⟨rfl, rfl, rfl, rfl, rfl, rfl, rfl, rfl, rfl, rfl, rfl, rfl, rfl, rfl, rfl, rfl, rfl, rfl, rfl, rfl, rfl, rfl, rfl, rfl, rfl, rfl, rfl, rfl, rfl, rfl, rfl, rfl, rfl, rfl, rfl, rfl, rfl, rfl, rfl, rfl, rfl, rfl, rfl, rfl, rfl, rfl, rfl, rfl, rfl, rfl, rfl, rfl, rfl, rfl, rfl, rfl, rfl, rfl, rfl, rfl, rfl, rfl, rfl, rfl, rfl, rfl, rfl, rfl, rfl, rfl, rfl, rfl, rfl, rfl, rfl, rfl, rfl, rfl, rfl, rfl, rfl, rfl, rfl, rfl, rfl, rfl, trivial⟩, hst.pick [0, 1, 2, 3, 4, 5, 6, 7, 8, 9, 10, 11, 12, 13, 14] [0, 1, 2, 3, 4, 5, 6, 7, 8, 9, 10, 11, 12, 13, 14, 15, 16, 17, 18, 19] (by decide)⟩
      · refine ⟨_, rfl, rfl, op_alloc (c := #[.bool (neg 0), .slice none (dl 0) 0]) henv hst rfl zero_anvil_anvilref02_Int rcells ?_⟩
        clear henv hst a; intro a w156 g155 henv hst
        refine ⟨.inr ⟨hst.kn.pick [1, 2, 3, 4, 5, 6, 7, 8, 9, 10, 11, 12, 13, 14] [1, 2, 3, 4, 5, 6, 7, 8, 9, 10, 11, 12, 13, 14, 15, 16, 17, 18], .inr (hst.kn.pick [] [])⟩, ?_⟩
        refine sAny_one (i := 3) (by kernel_rfl) rfl rfl (op_call henv rfl Try.call39 rfl (over_r (x := (y.natAbs : Int)) (y := ((Int.gcd x y : Nat) : Int)) (show RIn _ A144 c145 (y.natAbs : Int) from hst.pat (k := 0) rfl) (show RIn _ A35 c36 ((Int.gcd x y : Nat) : Int) from hst.pat (k := 12) rfl) (by omega) (by omega) (by have := gcd_pos (x := x) hy0; omega) (Int.emod_eq_zero_of_dvd (Int.dvd_natAbs.2 (Int.gcd_dvd_right x y)))) ?_)
        rintro e w160 ⟨_, rfl, ⟨A157, c158, rfl, hz159⟩, hb⟩
        refine ⟨_, rfl, ?_⟩
        clear henv a; intro a henv
        replace hst := (hst.call hb).addR hz159 rfl
        clear hz159
        clear hb
        refine ⟨.inr ⟨hst.kn.pick [1, 2, 3, 4, 5, 6, 7, 8, 9, 10, 11, 12, 13, 14] [2, 3, 4, 5, 6, 7, 8, 9, 10, 11, 12, 13, 14, 15, 16, 17, 18, 19], .inr (hst.kn.pick [] [])⟩, ?_⟩
        refine sAny_take (i := 4) [5, 6, 8, 9] (fun _ => True) (v := .tuple #[.agg #[.bool (neg ((y.natAbs : Int) / ((Int.gcd x y : Nat) : Int))), .slice A157 (dl ((y.natAbs : Int) / ((Int.gcd x y : Nat) : Int))) c158], .bool true]) rfl (by kernel_rfl) (fun _ _ _ h => h) (fun _ _ _ _ => trivial) henv rfl trivial (fun w' _ => rn_move henv rfl) ?_
        clear henv a; intro a henv
        refine sAny_take (i := 5) [8, 9] (fun _ => True) (v := .agg #[.bool (neg ((y.natAbs : Int) / ((Int.gcd x y : Nat) : Int))), .slice A157 (dl ((y.natAbs : Int) / ((Int.gcd x y : Nat) : Int))) c158]) rfl (by kernel_rfl) (fun _ _ _ h => h) (fun _ _ _ _ => trivial) henv rfl trivial (fun w' _ => rn_extract henv rfl rfl) ?_
        clear henv a; intro a henv
        refine sAny_take (i := 6) [9] (fun _ => True) (v := .bool true) rfl (by kernel_rfl) (fun _ _ _ h => h) (fun _ _ _ _ => trivial) henv rfl trivial (fun w' _ => rn_extract henv rfl rfl) ?_
        clear henv a; intro a henv
        refine sAny_one (i := 8) (by kernel_rfl) rfl rfl (op_store (k := 0) (c' := #[.bool (neg ((y.natAbs : Int) / ((Int.gcd x y : Nat) : Int))), .slice A157 (dl ((y.natAbs : Int) / ((Int.gcd x y : Nat) : Int))) c158]) henv hst (ty_anvil_anvilref02_Int.size) rfl rfl rfl rfl (by simp) rfl rfl ?_)
        clear henv hst a; intro a w161 henv hst
        refine ⟨.inr ⟨hst.kn.pick [1, 2, 3, 4, 5, 6, 7, 8, 9, 10, 11, 12, 13, 14] [2, 3, 4, 5, 6, 7, 8, 9, 10, 11, 12, 13, 14, 15, 16, 17, 18, 19], .inl rfl⟩, ?_⟩
        refine sAny_take (i := 9) [] (fun _ => True) (v := .bool true) rfl (by kernel_rfl) (fun _ _ _ h => h) (fun _ _ _ _ => trivial) henv rfl trivial (fun w' _ => rn_assign henv rfl) ?_
        clear henv a; intro a henv
        refine sAny_done (by kernel_rfl) ?_ _
        exact th_n ⟨A144, c145, A157, c158, g155, henv.sub ⟨rfl, rfl, rfl, rfl, rfl, rfl, rfl, rfl, rfl, rfl, rfl, rfl, rfl, rfl, rfl, rfl, rfl, rfl, rfl, rfl, rfl, rfl, rfl, rfl, rfl, rfl, rfl, rfl, rfl, rfl, rfl, rfl, rfl, rfl, rfl, rfl, rfl, rfl, rfl, rfl, rfl, rfl, rfl, rfl, rfl, rfl, rfl, rfl, rfl, rfl, rfl, rfl, rfl, rfl, rfl, rfl, rfl, rfl, rfl, rfl, rfl, rfl, rfl, rfl, rfl, rfl, rfl, rfl, rfl, rfl, rfl, rfl, rfl, rfl, rfl, rfl, rfl, rfl, rfl, rfl, rfl, rfl, rfl, rfl, rfl, rfl, trivial⟩, hst.pick [0, 1, 2, 3, 4, 5, 6, 7, 8, 9, 10, 11, 12, 13, 14] [0, 1, 2, 3, 4, 5, 6, 7, 8, 9, 10, 11, 12, 13, 14, 15, 16, 17, 18, 19] (by decide)⟩
    · refine ⟨_, rfl, rfl, op_alloc (c := #[.bool (neg 0), .slice none (dl 0) 0]) henv hst rfl zero_anvil_anvilref02_Int rcells ?_⟩
      clear henv hst a; intro a w163 g162 henv hst
      refine ⟨.inr ⟨hst.kn.pick [1, 2, 3, 4, 5, 6, 7, 8, 9, 10, 11, 12, 13, 14] [0, 1, 2, 3, 4, 5, 6, 7, 8, 9, 10, 11, 12, 13, 14, 15, 16, 17], .inr (hst.kn.pick [] [])⟩, ?_⟩
      refine sAny_one (i := 1) (by kernel_rfl) rfl rfl (op_call henv rfl Try.call19 rfl (abs_r (z := y) (show RIn _ A25 c26 y from hst.pat (k := 12) rfl)) ?_)
      rintro e w167 ⟨_, rfl, ⟨A164, c165, rfl, hz166⟩, hb⟩
      refine ⟨_, rfl, ?_⟩
      clear henv a; intro a henv
      replace hst := (hst.call hb).addR hz166 rfl
      clear hz166
      clear hb
      refine ⟨.inr ⟨hst.kn.pick [1, 2, 3, 4, 5, 6, 7, 8, 9, 10, 11, 12, 13, 14] [1, 2, 3, 4, 5, 6, 7, 8, 9, 10, 11, 12, 13, 14, 15, 16, 17, 18], .inr (hst.kn.pick [] [])⟩, ?_⟩
      refine sAny_one (i := 3) (by kernel_rfl) rfl rfl (op_call henv rfl Try.call39 rfl (over_r (x := (y.natAbs : Int)) (y := ((Int.gcd x y : Nat) : Int)) (show RIn _ A164 c165 (y.natAbs : Int) from hst.pat (k := 0) rfl) (show RIn _ A35 c36 ((Int.gcd x y : Nat) : Int) from hst.pat (k := 12) rfl) (by omega) (by omega) (by have := gcd_pos (x := x) hy0; omega) (Int.emod_eq_zero_of_dvd (Int.dvd_natAbs.2 (Int.gcd_dvd_right x y)))) ?_)
      rintro e w171 ⟨_, rfl, ⟨A168, c169, rfl, hz170⟩, hb⟩
      refine ⟨_, rfl, ?_⟩
      clear henv a; intro a henv
      replace hst := (hst.call hb).addR hz170 rfl
      clear hz170
      clear hb
      refine ⟨.inr ⟨hst.kn.pick [1, 2, 3, 4, 5, 6, 7, 8, 9, 10, 11, 12, 13, 14] [2, 3, 4, 5, 6, 7, 8, 9, 10, 11, 12, 13, 14, 15, 16, 17, 18, 19], .inr (hst.kn.pick [] [])⟩, ?_⟩
      refine sAny_take (i := 4) [5, 6, 8, 9] (fun _ => True) (v := .tuple #[.agg #[.bool (neg ((y.natAbs : Int) / ((Int.gcd x y : Nat) : Int))), .slice A168 (dl ((y.natAbs : Int) / ((Int.gcd x y : Nat) : Int))) c169], .bool true]) rfl (by kernel_rfl) (fun _ _ _ h => h) (fun _ _ _ _ => trivial) henv rfl trivial (fun w' _ => rn_move henv rfl) ?_
      clear henv a; intro a henv
      refine sAny_take (i := 5) [8, 9] (fun _ => True) (v := .agg #[.bool (neg ((y.natAbs : Int) / ((Int.gcd x y : Nat) : Int))), .slice A168 (dl ((y.natAbs : Int) / ((Int.gcd x y : Nat) : Int))) c169]) rfl (by kernel_rfl) (fun _ _ _ h => h) (fun _ _ _ _ => trivial) henv rfl trivial (fun w' _ => rn_extract henv rfl rfl) ?_
      clear henv a; intro a henv
      refine sAny_take (i := 6) [9] (fun _ => True) (v := .bool true) rfl (by kernel_rfl) (fun _ _ _ h => h) (fun _ _ _ _ => trivial) henv rfl trivial (fun w' _ => rn_extract henv rfl rfl) ?_
      clear henv a; intro a henv
      refine sAny_one (i := 8) (by kernel_rfl) rfl rfl (op_store (k := 0) (c' := #[.bool (neg ((y.natAbs : Int) / ((Int.gcd x y : Nat) : Int))), .slice A168 (dl ((y.natAbs : Int) / ((Int.gcd x y : Nat) : Int))) c169]) henv hst (ty_anvil_anvilref02_Int.size) rfl rfl rfl rfl (by simp) rfl rfl ?_)
      clear henv hst a; intro a w172 henv hst
      refine ⟨.inr ⟨hst.kn.pick [1, 2, 3, 4, 5, 6, 7, 8, 9, 10, 11, 12, 13, 14] [2, 3, 4, 5, 6, 7, 8, 9, 10, 11, 12, 13, 14, 15, 16, 17, 18, 19], .inl rfl⟩, ?_⟩
      refine sAny_take (i := 9) [] (fun _ => True) (v := .bool true) rfl (by kernel_rfl) (fun _ _ _ h => h) (fun _ _ _ _ => trivial) henv rfl trivial (fun w' _ => rn_assign henv rfl) ?_
      clear henv a; intro a henv
      refine sAny_done (by kernel_rfl) ?_ _
      exact th_n ⟨A164, c165, A168, c169, g162, henv.sub ⟨rfl, rfl, rfl, rfl, rfl, rfl, rfl, rfl, rfl, rfl, rfl, rfl, rfl, rfl, rfl, rfl, rfl, rfl, rfl, rfl, rfl, rfl, rfl, rfl, rfl, rfl, rfl, rfl, rfl, rfl, rfl, rfl, rfl, rfl, rfl, rfl, rfl, rfl, rfl, rfl, rfl, rfl, rfl, rfl, rfl, rfl, rfl, rfl, rfl, rfl, rfl, rfl, rfl, rfl, rfl, rfl, rfl, rfl, rfl, rfl, rfl, rfl, rfl, rfl, rfl, rfl, rfl, rfl, rfl, rfl, rfl, rfl, rfl, rfl, rfl, rfl, rfl, rfl, rfl, rfl, rfl, rfl, rfl, rfl, rfl, rfl, trivial⟩, hst.pick [0, 1, 2, 3, 4, 5, 6, 7, 8, 9, 10, 11, 12, 13, 14] [0, 1, 2, 3, 4, 5, 6, 7, 8, 9, 10, 11, 12, 13, 14, 15, 16, 17, 18, 19] (by decide)⟩
  clear henv hst a
  rintro a w173 ⟨A144, c145, A148, c149, g152, henv, hst⟩
  refine wp_seq ?_
  refine region_seq ?_
  refine seq_step rfl (op_val (v := .agg #[.bool (neg u), .slice A77 (dl u) c78]) henv rfl (rn_load0 henv ty_anvil_anvilref02_Int rfl (hst.oat (k := 3) rfl) rfl) ?_)
  clear henv a; intro a henv
  refine seq_step rfl (op_call henv rfl Try.call12 rfl (sign_r (z := u)) ?_)
  rintro e w174 ⟨rfl, hb⟩
  refine ⟨_, rfl, ?_⟩
  clear henv a; intro a henv
  replace hst := hst.call hb
  clear hb
  refine seq_step rfl (op_val (v := .bool (decide (u.sign ≥ (0 : Int)))) henv rfl (rn_bin henv rfl rfl rfl) ?_)
  clear henv a; intro a henv
  rw [show (decide (u.sign ≥ (0 : Int))) = true from (decide_eq_true (by have := (sign_lt u).1; omega))] at henv
  refine seq_step rfl (op_val (v := .bool true) henv rfl (rn_move henv rfl) ?_)
  clear henv a; intro a henv
  refine seq_g rfl henv rfl rfl (op_val (v := .agg #[.bool (neg u), .slice A77 (dl u) c78]) henv rfl (rn_load0 henv ty_anvil_anvilref02_Int rfl (hst.oat (k := 3) rfl) rfl) ?_)
  clear henv a; intro a henv
  refine seq_g rfl henv rfl rfl (op_val (v := .agg #[.bool (neg ((y.natAbs : Int) / ((Int.gcd x y : Nat) : Int))), .slice A148 (dl ((y.natAbs : Int) / ((Int.gcd x y : Nat) : Int))) c149]) henv rfl (rn_load0 henv ty_anvil_anvilref02_Int rfl (hst.oat (k := 0) rfl) rfl) ?_)
  clear henv a; intro a henv
  refine seq_g rfl henv rfl rfl (op_call henv rfl Try.call14 rfl (cmp_r (x := u) (y := (y.natAbs : Int) / ((Int.gcd x y : Nat) : Int)) (show RIn _ A77 c78 u from hst.pat (k := 6) rfl) (show RIn _ A148 c149 ((y.natAbs : Int) / ((Int.gcd x y : Nat) : Int)) from hst.pat (k := 0) rfl)) ?_)
  rintro e w175 ⟨rfl, hb⟩
  refine ⟨_, rfl, ?_⟩
  clear henv a; intro a henv
  replace hst := hst.call hb
  clear hb
  refine seq_g rfl henv rfl rfl (op_val (v := .bool (decide ((u - ((y.natAbs : Int) / ((Int.gcd x y : Nat) : Int))).sign < (0 : Int)))) henv rfl (rn_bin henv rfl rfl rfl) ?_)
  clear henv a; intro a henv
  rw [show (decide ((u - ((y.natAbs : Int) / ((Int.gcd x y : Nat) : Int))).sign < (0 : Int))) = true from (decide_eq_true ((sign_lt _).2 (by omega)))] at henv
  refine seq_step rfl (op_val (v := .bool true) henv rfl (rn_pick henv rfl rfl) ?_)
  clear henv a; intro a henv
  refine seq_step rfl (op_val (v := .bool true) henv rfl (rn_assign henv rfl) ?_)
  clear henv a; intro a henv
  refine wpList_nil ?_
  refine th_n ?_
  refine wp_ret ?_
  refine leave henv (res1 Try.results7 (RV.tmp henv rfl)) ?_
  exact ⟨rfl, hst.below⟩

theorem common_short {b0 b1 : Bool} {A0 A1 : Option Addr} {n0 n1 c0 c1 : Nat} {xs0 xs1 : List Nat} {w : World} (h0 : U32 w A0 n0 c0 xs0) (h1 : U32 w A1 n1 c1 xs1) (hs0 : n0 ≤ 60) (hs1 : n1 ≤ 60) :
    Calls Try.prog 7 #[.agg #[.bool b0, .slice A0 n0 c0], .agg #[.bool b1, .slice A1 n1 c1]] w fun e w' => e = .returned (.bool true) ∧ Below w.heap.size w w' := by
  by_cases hy : sg b1 (val 4294967296 xs1) = 0
  · exact common_y0 h0 h1 hs0 hs1 rfl hy
  · exact common_y h0 h1 hs0 hs1 rfl rfl hy

end Go.Proofs.Ytnldopjbiacbfaa
