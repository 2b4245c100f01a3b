/- kept; PolyReckons: the law's walk. Printed by pv/gen_po7.py. No condition. -/
import Derived.Test.YtghaenkacjgdnaaDoorM50
import Derived.Test.YtghaenkacjgdnaaDoorM15

namespace Go.Proofs.YtghaenkacjgdnaaDoor.W
open Go.RowKit Anv Go.Lib
theorem spare_zero {ps : List NE} {es : List Int} {n : Nat} (h : ps.map zz = es ++ [0, 0]) (hl : es.length = n) : ∀ e ∈ ps.drop n, zz e = 0 := fun e he => by
  have h1 : zz e ∈ (ps.drop n).map zz := List.mem_map_of_mem he
  rw [List.map_drop, h, List.drop_left' hl] at h1
  simpa using h1
theorem zl_b64 {t : Int} (h : -9223372036854775808 ≤ t ∧ t ≤ 9223372036854775807) : zl t ≤ 2 := nl_le_of_lt (by show t.natAbs < _; omega)
set_option maxRecDepth 100000 in
set_option maxHeartbeats 2000000 in
theorem kp_one {A : Option Addr} {c : Nat} {x : Int} {w0 : World} (hx : ZIn w0 A c x) :
    Calls Tryd.prog 70 #[.agg #[.bool (neg x), .slice A (zl x) c]] w0 fun e w' => e = .returned (.bool (x.sign != 0)) ∧ Below w0.heap.size w0 w' := by
  refine enter Tryd.func70 rfl Tryd.ntmps70 rfl ?_
  intro a henv hst
  replace hst := hst.addZ hx trivial
  clear hx
  refine wp_seq ?_
  refine region_seq ?_
  refine seq_step rfl (op_box (c := #[.bool (neg x), .slice A (zl x) c]) henv hst rfl rfl rfl ?_)
  clear henv hst a; intro a w52 g51 henv hst
  refine sv (v := .bool false) henv rfl (rn_assign henv rfl) ?_
  clear henv a; intro a henv
  refine wpList_nil ?_
  refine th_n ?_
  refine wp_seq ?_
  refine region_seq ?_
  refine sv (v := .agg #[.bool (neg x), .slice A (zl x) c]) henv rfl (rn_load0 henv ty_anvil_integer_Int rfl (hst.oat (k := 0) rfl) rfl) ?_
  clear henv a; intro a henv
  refine seq_step rfl (op_call henv rfl Tryd.call14 rfl (sign_z (z := x)) ?_)
  rintro e w53 ⟨rfl, hb⟩
  refine ⟨_, rfl, ?_⟩
  clear henv a; intro a henv
  replace hst := hst.call hb
  clear hb
  revert a
  refine sA (v := .bool (x.sign != (0 : Int))) rfl (fun _ henv => rn_bin henv rfl rfl rfl) ?_
  refine aA rfl rfl ?_
  intro a henv
  refine wpList_nil ?_
  refine th_n ?_
  refine wp_ret ?_
  refine leave henv (res1 Tryd.results70 (RV.tmp henv rfl)) ?_
  exact ⟨rfl, hst.below⟩
set_option maxRecDepth 100000 in
set_option maxHeartbeats 2000000 in
theorem kp_two {A : Option Addr} {c : Nat} {x y : Int} {w0 : World} (hx : ZIn w0 A c x) (hy : -9223372036854775808 ≤ y ∧ y ≤ 9223372036854775807) :
    Calls Tryd.prog 72 #[.agg #[.bool (neg x), .slice A (zl x) c], .int .i64 y] w0 fun e w' => e = .returned (.bool (decide (x = y))) ∧ Below w0.heap.size w0 w' := by
  refine enter Tryd.func72 rfl Tryd.ntmps72 rfl ?_
  intro a henv hst
  replace hst := hst.addZ hx trivial
  clear hx
  refine wp_seq ?_
  refine region_seq ?_
  refine seq_step rfl (op_box (c := #[.bool (neg x), .slice A (zl x) c]) henv hst rfl rfl rfl ?_)
  clear henv hst a; intro a w52 g51 henv hst
  refine sv (v := .bool false) henv rfl (rn_assign henv rfl) ?_
  clear henv a; intro a henv
  refine wpList_nil ?_
  refine th_n ?_
  refine wp_seq ?_
  refine region_any (n := 6) (Sk [bk g51 #[.bool (neg x), .slice A (zl x) c] 28] [pfZ A c x] [] []) mixed rfl henv hst ?_
  clear henv hst; intro w53 henv hst
  refine tL (i := 0) 0 0 [3, 4, 5] rfl (by kernel_rfl) (fun _ _ _ h => h) henv rfl ty_anvil_integer_Int rfl hst rfl rfl rfl ?_
  clear henv a; intro a henv
  refine tM (i := 1) (rg 2 4) rfl (by kernel_rfl) (fun _ _ _ h => h) henv rfl rfl ?_
  clear henv a; intro a henv
  refine sAny_one (i := 2) (by kernel_rfl) rfl rfl (op_call henv rfl Tryd.call34 rfl (of_z (n := y) hy.1 hy.2) ?_)
  rintro e w57 ⟨_, rfl, ⟨A54, c55, rfl, hz56⟩, hb⟩
  refine ⟨_, rfl, ?_⟩
  clear henv a; intro a henv
  replace hst := (hst.call hb).addZ hz56 ⟨nou_bk rfl, trivial⟩
  clear hz56
  clear hb
  refine ⟨.inr ⟨hst.kn.pick [0] [1], .inr (hst.kn.pick [] [])⟩, ?_⟩
  refine sAny_one (i := 3) (by kernel_rfl) rfl rfl (op_call henv rfl Tryd.call42 rfl (cmp_z (x := x) (y := y) (show ZIn _ A c x from hst.pat (k := 1) rfl) (show ZIn _ A54 c55 y from hst.pat (k := 0) rfl)) ?_)
  rintro e w58 ⟨rfl, hb⟩
  refine ⟨_, rfl, ?_⟩
  clear henv a; intro a henv
  replace hst := hst.call hb
  clear hb
  refine ⟨.inr ⟨hst.kn.pick [0] [1], .inr (hst.kn.pick [] [])⟩, ?_⟩
  refine tA (i := 4) [5] (v := .bool ((x - y).sign == (0 : Int))) rfl (by kernel_rfl) (fun _ _ _ h => h) henv rfl (fun _ => rn_bin henv rfl rfl rfl) ?_
  clear henv a; intro a henv
  refine tA (i := 5) [] (v := .bool ((x - y).sign == (0 : Int))) rfl (by kernel_rfl) (fun _ _ _ h => h) henv rfl (fun _ => rn_assign henv rfl) ?_
  clear henv a; intro a henv
  refine sAny_done (by kernel_rfl) ?_ _
  refine th_n ?_
  refine wp_ret ?_
  refine leave henv (res1 Tryd.results72 (RV.tmp henv rfl)) ?_
  exact ⟨congrArg (fun b => Ending.returned (Value.bool b)) (sub_dec x y), hst.below⟩
set_option maxRecDepth 100000 in
set_option maxHeartbeats 2000000 in
theorem kp_index {A0 : Option Addr} {n0 c0 : Nat} {es0 : List NE} {w0 : World} (h0 : (pfRow fN FN 2 A0 n0 c0 es0).P w0) (hz : ∀ e ∈ es0, zz e = 0) :
    Calls Tryd.prog 94 #[.slice A0 n0 c0, .func (.func 70) #[] #[]] w0 fun e w' => e = .returned (.int .i64 (-1)) ∧ Below w0.heap.size w0 w' := by
  refine enter Tryd.func94 rfl Tryd.ntmps94 rfl ?_
  intro a henv hst
  have hlen0 := h0.2.1
  have hbig0 := Nat.le_trans h0.1.cap h0.1.big
  unfold maxLen at hbig0
  replace hst := hst.argRow h0
  clear h0
  refine wp_seq ?_
  refine region_seq ?_
  refine sv (v := .int .i64 0) henv rfl (rn_assign henv rfl) ?_
  clear henv a; intro a henv
  refine wpList_nil ?_
  refine th_n ?_
  refine wp_seq ?_
  refine wp_seq ?_
  refine region_seq ?_
  revert a
  refine mA rfl rfl ?_
  refine sA (v := .int .i64 (n0 : Nat)) rfl (fun _ henv => rn_len henv Tryd.underlying32 rfl) ?_
  refine mA rfl rfl ?_
  intro a henv
  refine wpList_nil ?_
  refine th_n ?_
  refine wp_block ?_
  refine wp_loop_ghost (fun mz a w => ∃ j : Nat, n0 - j = mz ∧ Env 19 a [(0, .slice A0 n0 c0), (1, .func (.func 70) #[] #[]), (7, .int .i64 (n0 : Nat)), (8, .int .i64 (j : Nat))] ∧ St w0 w [] [pfRow fN FN 2 A0 n0 c0 es0] ∧ j ≤ n0) _ ⟨0, rfl, henv.sub ⟨rfl, rfl, rfl, rfl, trivial⟩, hst.pick [] [0] (by decide), (Nat.zero_le _)⟩ ?_
  clear henv hst a
  rintro mz a w51 ⟨j, rfl, henv, hst, hj⟩
  refine wp_seq ?_
  refine region_seq ?_
  refine sv (v := .bool (decide (((j : Nat) : Int) < ((n0 : Nat) : Int)))) henv rfl (rn_bin henv rfl rfl rfl) ?_
  clear henv a; intro a henv
  refine wpList_nil ?_
  refine th_n ?_
  refine wp_seq ?_
  refine if_split henv rfl (fun hc52 => ?_) (fun hc52 => ?_)
  · have hlt : j < n0 := by have := of_decide_eq_true hc52; omega
    obtain ⟨⟨A, c, z⟩, he0⟩ : ∃ e, es0[j]? = some e := ⟨_, List.getElem?_eq_getElem (by omega)⟩
    replace hst := hst.elem (k := 0) rfl he0
    replace hst : St w0 _ [] [pfZ A c z, pfRow fN FN 2 A0 n0 c0 es0] := hst
    have hx0 : z = 0 := hz _ (List.mem_of_getElem? he0)
    refine wp_skip ?_
    refine th_n ?_
    refine wp_seq ?_
    refine wp_block ?_
    refine wp_seq ?_
    refine region_seq ?_
    revert a
    refine mA rfl rfl ?_
    refine aA rfl rfl ?_
    intro a henv
    refine wpList_nil ?_
    refine th_n ?_
    refine wp_seq ?_
    refine region_seq ?_
    revert a
    refine mA rfl rfl ?_
    refine mA rfl rfl ?_
    refine mA rfl rfl ?_
    refine sA (v := .pointer (some ⟨ab A0, ao A0 + j * 2, none⟩)) rfl (fun _ henv => rn_idxR (i := j) henv Tryd.underlying32 (ty_anvil_integer_Int.size) rfl rfl (by omega) rfl (show (pfRow fN FN 2 A0 n0 c0 es0).P _ from (hst.pat (k := 1) rfl)).1) ?_
    refine sA (v := .agg #[.bool (neg z), .slice A (zl z) c]) rfl (fun _ henv => rn_loadE (i := j) (e := (A, c, z)) henv ty_anvil_integer_Int rfl rfl fN_len (show (pfRow fN FN 2 A0 n0 c0 es0).P _ from (hst.pat (k := 1) rfl)).1 (by omega) he0 rfl) ?_
    intro a henv
    refine seq_step rfl (op_callc (vs := #[.agg #[.bool (neg z), .slice A (zl z) c]]) henv rfl Tryd.call70 rfl rfl (calls_app (by simp) (kp_one (x := z) (show ZIn _ A c z from hst.pat (k := 0) rfl))) ?_)
    rintro e w53 ⟨rfl, hb⟩
    refine ⟨_, rfl, ?_⟩
    clear henv a; intro a henv
    replace hst := hst.call hb
    clear hb
    rw [show (z.sign != (0 : Int)) = false from (by rw [hx0]; rfl)] at henv
    refine wpList_nil ?_
    refine th_n ?_
    refine if_f henv rfl (rfl) ?_
    refine wp_skip ?_
    refine bl_n (th_n ?_)
    refine region_seq ?_
    revert a
    refine sA (v := .int .i64 (j + 1 : Nat)) rfl (fun _ henv => rn_add henv rfl rfl (by rw [IntWalk.i64_in _ (by omega)]; omega)) ?_
    refine mA rfl rfl ?_
    intro a henv
    refine wpList_nil ?_
    exact th_n ⟨_, (by omega), ⟨j + 1, rfl, henv.sub ⟨rfl, rfl, rfl, rfl, trivial⟩, hst.pick [] [1] (by decide), (by omega)⟩⟩
  · refine wp_exit ?_
    refine th_x (th_x (bl_x (th_n ?_)))
    refine wp_seq ?_
    refine region_seq ?_
    refine sv (v := .int .i64 (-1)) henv rfl (rn_assign henv rfl) ?_
    clear henv a; intro a henv
    refine wpList_nil ?_
    refine th_n ?_
    refine wp_ret ?_
    refine leave henv (res1 Tryd.results94 (RV.tmp henv rfl)) ?_
    exact ⟨rfl, hst.below⟩
set_option maxRecDepth 100000 in
set_option maxHeartbeats 2000000 in
theorem kp_contains {A0 : Option Addr} {n0 c0 : Nat} {es0 : List NE} {w0 : World} (h0 : (pfRow fN FN 2 A0 n0 c0 es0).P w0) (hz : ∀ e ∈ es0, zz e = 0) :
    Calls Tryd.prog 69 #[.slice A0 n0 c0, .func (.func 70) #[] #[]] w0 fun e w' => e = .returned (.bool false) ∧ Below w0.heap.size w0 w' := by
  refine enter Tryd.func69 rfl Tryd.ntmps69 rfl ?_
  intro a henv hst
  have hlen0 := h0.2.1
  have hbig0 := Nat.le_trans h0.1.cap h0.1.big
  unfold maxLen at hbig0
  replace hst := hst.argRow h0
  clear h0
  refine wp_seq ?_
  refine region_seq ?_
  refine sv (v := .bool false) henv rfl (rn_assign henv rfl) ?_
  clear henv a; intro a henv
  refine wpList_nil ?_
  refine th_n ?_
  refine wp_seq ?_
  refine region_seq ?_
  revert a
  refine mA rfl rfl ?_
  refine mA rfl rfl ?_
  intro a henv
  refine seq_step rfl (op_call henv rfl Tryd.call94 rfl (kp_index (hst.pat (k := 0) rfl) hz) ?_)
  rintro e w51 ⟨rfl, hb⟩
  refine ⟨_, rfl, ?_⟩
  clear henv a; intro a henv
  replace hst := hst.call hb
  clear hb
  revert a
  refine sA (v := .bool false) rfl (fun _ henv => rn_bin henv rfl rfl rfl) ?_
  refine aA rfl rfl ?_
  intro a henv
  refine wpList_nil ?_
  refine th_n ?_
  refine wp_ret ?_
  refine leave henv (res1 Tryd.results69 (RV.tmp henv rfl)) ?_
  exact ⟨rfl, hst.below⟩
set_option maxRecDepth 100000 in
set_option maxHeartbeats 2000000 in
theorem kp_equal {A0 A1 : Option Addr} {n0 c0 c1 : Nat} {es0 : List NE} {es1 : List Int} {w0 : World} (h0 : (pfRow fN FN 2 A0 n0 c0 es0).P w0) (h1 : (pfRow fI FI 1 A1 n0 c1 es1).P w0) (hz : es0.map zz = es1) (hI1 : I64 es1) :
    Calls Tryd.prog 71 #[.slice A0 n0 c0, .slice A1 n0 c1, .func (.func 72) #[] #[]] w0 fun e w' => e = .returned (.bool true) ∧ Below w0.heap.size w0 w' := by
  refine enter Tryd.func71 rfl Tryd.ntmps71 rfl ?_
  intro a henv hst
  have hlen0 := h0.2.1
  have hlen1 := h1.2.1
  have hbig0 := Nat.le_trans h0.1.cap h0.1.big
  unfold maxLen at hbig0
  replace hst := (hst.argRow h1).argRow h0
  clear h0 h1
  refine wp_seq ?_
  refine region_seq ?_
  refine sv (v := .bool false) henv rfl (rn_assign henv rfl) ?_
  clear henv a; intro a henv
  refine wpList_nil ?_
  refine th_n ?_
  refine wp_seq ?_
  refine wp_seq ?_
  refine region_seq ?_
  revert a
  refine mA rfl rfl ?_
  refine sA (v := .int .i64 (n0 : Nat)) rfl (fun _ henv => rn_len henv Tryd.underlying32 rfl) ?_
  refine mA rfl rfl ?_
  refine sA (v := .int .i64 (n0 : Nat)) rfl (fun _ henv => rn_len henv Tryd.underlying22 rfl) ?_
  refine sA (v := .bool (((n0 : Nat) : Int) != ((n0 : Nat) : Int))) rfl (fun _ henv => rn_bin henv rfl rfl rfl) ?_
  intro a henv
  rw [show (((n0 : Nat) : Int) != ((n0 : Nat) : Int)) = false from (bne_self_eq_false _)] at henv
  refine wpList_nil ?_
  refine th_n ?_
  refine if_f henv rfl (rfl) ?_
  refine wp_skip ?_
  refine th_n ?_
  refine wp_seq ?_
  refine wp_seq ?_
  refine region_seq ?_
  revert a
  refine mA rfl rfl ?_
  refine sA (v := .int .i64 (n0 : Nat)) rfl (fun _ henv => rn_len henv Tryd.underlying32 rfl) ?_
  refine mA rfl rfl ?_
  intro a henv
  refine wpList_nil ?_
  refine th_n ?_
  refine wp_block ?_
  refine wp_loop_ghost (fun mz a w => ∃ j : Nat, n0 - j = mz ∧ Env 32 a [(1, .slice A1 n0 c1), (2, .func (.func 72) #[] #[]), (15, .slice A0 n0 c0), (16, .int .i64 (n0 : Nat)), (17, .int .i64 (j : Nat))] ∧ St w0 w [] [pfRow fN FN 2 A0 n0 c0 es0, pfRow fI FI 1 A1 n0 c1 es1] ∧ j ≤ n0) _ ⟨0, rfl, henv.sub ⟨rfl, rfl, rfl, rfl, rfl, trivial⟩, hst.pick [] [0, 1] (by decide), (Nat.zero_le _)⟩ ?_
  clear henv hst a
  rintro mz a w51 ⟨j, rfl, henv, hst, hj⟩
  refine wp_seq ?_
  refine region_seq ?_
  refine sv (v := .bool (decide (((j : Nat) : Int) < ((n0 : Nat) : Int)))) henv rfl (rn_bin henv rfl rfl rfl) ?_
  clear henv a; intro a henv
  refine wpList_nil ?_
  refine th_n ?_
  refine wp_seq ?_
  refine if_split henv rfl (fun hc52 => ?_) (fun hc52 => ?_)
  · have hlt : j < n0 := by have := of_decide_eq_true hc52; omega
    obtain ⟨⟨A, c, x⟩, he0⟩ : ∃ e, es0[j]? = some e := ⟨_, List.getElem?_eq_getElem (by omega)⟩
    replace hst := hst.elem (k := 0) rfl he0
    replace hst : St w0 _ [] [pfZ A c x, pfRow fN FN 2 A0 n0 c0 es0, pfRow fI FI 1 A1 n0 c1 es1] := hst
    have hg : es1[j]? = some x := by rw [← hz, List.getElem?_map, he0]; rfl
    have hxb := hI1.at hg
    refine wp_skip ?_
    refine th_n ?_
    refine wp_seq ?_
    refine wp_block ?_
    refine wp_seq ?_
    refine region_seq ?_
    revert a
    refine mA rfl rfl ?_
    refine sA (v := .pointer (some ⟨ab A0, ao A0 + j * 2, none⟩)) rfl (fun _ henv => rn_idxR (i := j) henv Tryd.underlying32 (ty_anvil_integer_Int.size) rfl rfl (by omega) rfl (show (pfRow fN FN 2 A0 n0 c0 es0).P _ from (hst.pat (k := 1) rfl)).1) ?_
    refine sA (v := .agg #[.bool (neg x), .slice A (zl x) c]) rfl (fun _ henv => rn_loadE (i := j) (e := (A, c, x)) henv ty_anvil_integer_Int rfl rfl fN_len (show (pfRow fN FN 2 A0 n0 c0 es0).P _ from (hst.pat (k := 1) rfl)).1 (by omega) he0 rfl) ?_
    intro a henv
    refine seq_step rfl (op_alloc (c := #[.bool (neg 0), .slice none (zl 0) 0]) henv hst rfl zero_anvil_integer_Int zcells ?_)
    clear henv hst a; intro a w54 g53 henv hst
    refine sv (v := .int .i64 (j : Nat)) henv rfl (rn_assign henv rfl) ?_
    clear henv a; intro a henv
    refine seq_step rfl (op_store (k := 0) (c' := #[.bool (neg x), .slice A (zl x) c]) henv hst (ty_anvil_integer_Int.size) rfl rfl rfl rfl (by simp) rfl rfl ?_)
    clear henv hst a; intro a w55 henv hst
    refine wpList_nil ?_
    refine th_n ?_
    refine wp_seq ?_
    refine region_seq ?_
    revert a
    refine mA rfl rfl ?_
    refine mA rfl rfl ?_
    refine sA (v := .pointer (some ⟨ab A1, ao A1 + j * 1, none⟩)) rfl (fun _ henv => rn_idxR (i := j) henv Tryd.underlying22 (ty_int64.size) rfl rfl (by omega) rfl (show (pfRow fI FI 1 A1 n0 c1 es1).P _ from (hst.pat (k := 2) rfl)).1) ?_
    refine sA (v := .int .i64 x) rfl (fun _ henv => rn_loadE1 (i := j) (j := 0) (e := x) henv ty_int64 rfl rfl fI_len (by decide) (show (pfRow fI FI 1 A1 n0 c1 es1).P _ from (hst.pat (k := 2) rfl)).1 (by omega) hg rfl) ?_
    refine aA rfl rfl ?_
    intro a henv
    refine wpList_nil ?_
    refine th_n ?_
    refine wp_seq ?_
    refine region_seq ?_
    revert a
    refine mA rfl rfl ?_
    refine sA (v := .agg #[.bool (neg x), .slice A (zl x) c]) rfl (fun _ henv => rn_load0 henv ty_anvil_integer_Int rfl (hst.oat (k := 0) rfl) rfl) ?_
    refine mA rfl rfl ?_
    intro a henv
    refine seq_step rfl (op_callc (vs := #[.agg #[.bool (neg x), .slice A (zl x) c], .int .i64 x]) henv rfl Tryd.call72 rfl rfl (calls_app (by simp) (kp_two (x := x) (y := x) (show ZIn _ A c x from hst.pat (k := 0) rfl) hxb)) ?_)
    rintro e w56 ⟨rfl, hb⟩
    refine ⟨_, rfl, ?_⟩
    clear henv a; intro a henv
    replace hst := hst.call hb
    clear hb
    rw [show (decide (x = x)) = true from (decide_eq_true rfl)] at henv
    refine sv (v := .bool false) henv rfl (rn_un henv rfl rfl) ?_
    clear henv a; intro a henv
    refine wpList_nil ?_
    refine th_n ?_
    refine if_f henv rfl (rfl) ?_
    refine wp_skip ?_
    refine bl_n (th_n ?_)
    refine region_seq ?_
    revert a
    refine sA (v := .int .i64 (j + 1 : Nat)) rfl (fun _ henv => rn_add henv rfl rfl (by rw [IntWalk.i64_in _ (by omega)]; omega)) ?_
    refine mA rfl rfl ?_
    intro a henv
    refine wpList_nil ?_
    exact th_n ⟨_, (by omega), ⟨j + 1, rfl, henv.sub ⟨rfl, rfl, rfl, rfl, rfl, trivial⟩, hst.pick [] [1, 2] (by decide), (by omega)⟩⟩
  · refine wp_exit ?_
    refine th_x (th_x (bl_x (th_n ?_)))
    refine wp_seq ?_
    refine region_seq ?_
    refine sv (v := .bool true) henv rfl (rn_assign henv rfl) ?_
    clear henv a; intro a henv
    refine wpList_nil ?_
    refine th_n ?_
    refine wp_ret ?_
    refine leave henv (res1 Tryd.results71 (RV.tmp henv rfl)) ?_
    exact ⟨rfl, hst.below⟩
set_option maxRecDepth 100000 in
set_option maxHeartbeats 2000000 in
theorem k_kept {A0 A1 : Option Addr} {n0 c1 : Nat} {ps : List NE} {es1 : List Int} {w0 : World} (hf : (pfRow fN FN 2 A0 (n0 + 2) (n0 + 2) ps).P w0) (hzf : ps.map zz = es1 ++ [0, 0]) (h1 : (pfRow fI FI 1 A1 n0 c1 es1).P w0) (hI1 : I64 es1) (_hn : n0 ≤ 10000000) :
    Calls Tryd.prog 39 #[.slice A0 n0 (n0 + 2), .slice A1 n0 c1] w0 fun e w' => e = .returned (.bool true) ∧ Below w0.heap.size w0 w' := by
  refine enter Tryd.func39 rfl Tryd.ntmps39 rfl ?_
  intro a henv hst
  have hlen1 := h1.2.1
  have hlenf := hf.2.1
  replace hst := (hst.argRow h1).argRow hf
  clear hf h1
  obtain ⟨es', hst, hl', hz'⟩ := hst.listRow (k := 0) (n := n0) rfl hzf hlen1
  have hz0 : ∀ e ∈ ps.drop n0, zz e = 0 := spare_zero hzf hlen1
  refine wp_seq ?_
  refine region_seq ?_
  refine sv (v := .bool false) henv rfl (rn_assign henv rfl) ?_
  clear henv a; intro a henv
  refine wpList_nil ?_
  refine th_n ?_
  refine wp_seq ?_
  refine region_seq ?_
  revert a
  refine mA rfl rfl ?_
  refine sA (v := .int .i64 (n0 : Nat)) rfl (fun _ henv => rn_len henv Tryd.underlying32 rfl) ?_
  refine mA rfl rfl ?_
  refine sA (v := .int .i64 (n0 : Nat)) rfl (fun _ henv => rn_len henv Tryd.underlying22 rfl) ?_
  refine sA (v := .bool (((n0 : Nat) : Int) == ((n0 : Nat) : Int))) rfl (fun _ henv => rn_bin henv rfl rfl rfl) ?_
  intro a henv
  rw [show (((n0 : Nat) : Int) == ((n0 : Nat) : Int)) = true from (beq_self_eq_true _)] at henv
  revert a
  refine mA rfl rfl ?_
  refine gA (v := .slice A0 n0 (n0 + 2)) rfl rfl rfl rfl (fun _ henv => rn_move henv rfl) ?_
  refine gA (v := .slice A0 n0 (n0 + 2)) rfl rfl rfl rfl (fun _ henv => rn_move henv rfl) ?_
  refine gA (v := .int .i64 (n0 : Nat)) rfl rfl rfl rfl (fun _ henv => rn_len henv Tryd.underlying32 rfl) ?_
  refine gA (v := .int .i64 (n0 + 2 : Nat)) rfl rfl rfl rfl (fun _ henv => rn_add henv rfl rfl (by rw [IntWalk.i64_in _ (by omega)]; omega)) ?_
  refine gA (v := .slice A0 (n0 + 2) (n0 + 2)) rfl rfl rfl rfl (fun _ henv => rn_sliceTo (m := n0 + 2) henv Tryd.underlying32 (ty_anvil_integer_Int.size) rfl rfl (by omega)) ?_
  refine gA (v := .slice A0 n0 (n0 + 2)) rfl rfl rfl rfl (fun _ henv => rn_move henv rfl) ?_
  refine gA (v := .int .i64 (n0 : Nat)) rfl rfl rfl rfl (fun _ henv => rn_len henv Tryd.underlying32 rfl) ?_
  refine gA (v := .slice (slA A0 (n0 + 2) n0 2) (n0 + 2 - n0) ((n0 + 2) - n0)) rfl rfl rfl rfl (fun _ henv => rn_sliceFromS (m := n0) (z := 2) henv Tryd.underlying32 (ty_anvil_integer_Int.size) rfl rfl (by omega)) ?_
  intro a henv
  replace hst := hst.rowFrom (i := 1) rfl n0 fN_len (by omega)
  replace hst : St w0 _ [] [pfRow fN FN 2 (slA A0 (n0 + 2) n0 2) (n0 + 2 - n0) ((n0 + 2) - n0) (ps.drop n0), pfRow fN FN 2 A0 n0 (n0 + 2) es', pfRow fN FN 2 A0 (n0 + 2) (n0 + 2) ps, pfRow fI FI 1 A1 n0 c1 es1] := hst
  refine seq_g rfl henv rfl rfl (op_call henv rfl Tryd.call69 rfl (kp_contains (hst.pat (k := 0) rfl) hz0) ?_)
  rintro e w51 ⟨rfl, hb⟩
  refine ⟨_, rfl, ?_⟩
  clear henv a; intro a henv
  replace hst := hst.call hb
  clear hb
  revert a
  refine gA (v := .bool true) rfl rfl rfl rfl (fun _ henv => rn_un henv rfl rfl) ?_
  refine sA (v := .bool true) rfl (fun _ henv => rn_pick henv rfl rfl) ?_
  refine mA rfl rfl ?_
  refine gA (v := .slice A0 n0 (n0 + 2)) rfl rfl rfl rfl (fun _ henv => rn_move henv rfl) ?_
  refine gA (v := .slice A1 n0 c1) rfl rfl rfl rfl (fun _ henv => rn_move henv rfl) ?_
  intro a henv
  refine seq_g rfl henv rfl rfl (op_call henv rfl Tryd.call71 rfl (kp_equal (hst.pat (k := 1) rfl) (hst.pat (k := 3) rfl) hz' hI1) ?_)
  rintro e w52 ⟨rfl, hb⟩
  refine ⟨_, rfl, ?_⟩
  clear henv a; intro a henv
  replace hst := hst.call hb
  clear hb
  revert a
  refine sA (v := .bool true) rfl (fun _ henv => rn_pick henv rfl rfl) ?_
  refine aA rfl rfl ?_
  intro a henv
  refine wpList_nil ?_
  refine th_n ?_
  refine wp_ret ?_
  refine leave henv (res1 Tryd.results39 (RV.tmp henv rfl)) ?_
  exact ⟨rfl, hst.below⟩
theorem p_mulN {A0 A1 : Option Addr} {n0 n1 c0 c1 : Nat} {es0 es1 : List NE} {xs ys : List Int} {w0 : World} (h0 : (pfRow fN FN 2 A0 n0 c0 es0).P w0) (hz0 : es0.map zz = xs) (h1 : (pfRow fN FN 2 A1 n1 c1 es1).P w0) (hz1 : es1.map zz = ys) (hk0 : Zk 1000 xs) (hk1 : Zk 1000 ys) (hn0 : n0 ≤ 300) (hn1 : n1 ≤ 300) :
    Calls Tryd.prog 24 #[.slice A0 n0 c0, .slice A1 n1 c1] w0 fun e w' => ∃ v, e = .returned (.tuple #[v, .int .i64 (n0 * n1 : Nat)]) ∧ ZRowN w0.heap.size w' v (mulF xs ys).length (mulF xs ys) ∧ Below w0.heap.size w0 w' := by
  have hlx : xs.length = n0 := by rw [← hz0, List.length_map]; exact h0.2.1
  have hly : ys.length = n1 := by rw [← hz1, List.length_map]; exact h1.2.1
  by_cases h : n0 = 0 ∨ n1 = 0
  · refine (p_mul_nil h0 hz0 h1 hz1 h).mono fun e w' ⟨he, hb⟩ => ⟨.slice none 0 0, ?_, ?_, hb⟩
    · rw [he, show n0 * n1 = 0 from Nat.mul_eq_zero.2 h]; rfl
    · rw [show mulF xs ys = [] by rw [mulF, hlx, hly, if_pos h]]
      exact zrown_nil rfl rfl
  · refine (p_mul h0 hz0 h1 hz1 hk0 hk1 (by omega) (by omega) hn0 hn1).mono fun e w' ⟨v, he, ⟨A, c, es, hv, hr, hl, hz⟩, hb⟩ => ⟨v, he, ?_, hb⟩
    have heq : mlN xs ys (n0 + n1 - 1) n0 = mulF xs ys := by rw [mulF, hlx, hly, if_neg h]
    have hle : n0 + n1 - 1 = (mulF xs ys).length := by rw [← heq, mlN_len]
    exact ⟨A, c, es, hle ▸ hv, hle ▸ hr, hl.trans hle, hz.trans heq, fun hq => absurd (hle.trans hq) (by omega)⟩
set_option maxRecDepth 100000 in
set_option maxHeartbeats 8000000 in
theorem preckons_w0 {A0 A1 : Option Addr} {n0 c0 n1 c1 : Nat} {es0 es1 : List Int} {cc : Int} {n : Int} {w0 : World} (h0 : (pfRow fI FI 1 A0 n0 c0 es0).P w0) (hI0 : I64 es0) (h1 : (pfRow fI FI 1 A1 n1 c1 es1).P w0) (hI1 : I64 es1) (_hc : -9223372036854775808 ≤ cc ∧ cc ≤ 9223372036854775807) (hw : 200 < n0) :
    Calls Tryd.prog 5 #[.slice A0 n0 c0, .slice A1 n1 c1, .int .i64 cc, .int .i64 n] w0 fun e w' => e = .returned (.bool true) ∧ Below w0.heap.size w0 w' := by
  refine enter Tryd.func5 rfl Tryd.ntmps5 rfl ?_
  intro a henv hst
  have hlen0 := h0.2.1
  have hbig0 := Nat.le_trans h0.1.cap h0.1.big
  unfold maxLen at hbig0
  have hlen1 := h1.2.1
  have hbig1 := Nat.le_trans h1.1.cap h1.1.big
  unfold maxLen at hbig1
  replace hst := hst.argRow h0
  replace hst := hst.argRow h1
  clear h0 h1
  have hk0 : Zk 2 es0 := i64_zk hI0
  have hk1 : Zk 2 es1 := i64_zk hI1
  refine wp_seq ?_
  refine region_seq ?_
  refine sv (v := .bool false) henv rfl (rn_assign henv rfl) ?_
  clear henv a; intro a henv
  refine wpList_nil ?_
  refine th_n ?_
  refine wp_seq ?_
  refine wp_seq ?_
  refine region_seq ?_
  refine seq_step rfl (op_call henv rfl Tryd.call10 rfl p20_works ?_)
  rintro e w51 ⟨rfl, hb⟩
  refine ⟨_, rfl, ?_⟩
  clear henv a; intro a henv
  replace hst := hst.call hb
  clear hb
  refine sv (v := .bool false) henv rfl (rn_un henv rfl rfl) ?_
  clear henv a; intro a henv
  refine wpList_nil ?_
  refine th_n ?_
  refine if_f henv rfl (rfl) ?_
  refine wp_skip ?_
  refine th_n ?_
  refine wp_seq ?_
  refine wp_seq ?_
  refine region_seq ?_
  revert a
  refine mA rfl rfl ?_
  refine sA (v := .int .i64 (n0 : Nat)) rfl (fun _ henv => rn_len henv Tryd.underlying22 rfl) ?_
  refine sA (v := .bool (decide (((n0 : Nat) : Int) > (200 : Int)))) rfl (fun _ henv => rn_bin henv rfl rfl rfl) ?_
  intro a henv
  rw [show (decide (((n0 : Nat) : Int) > (200 : Int))) = true from (decide_eq_true (by omega))] at henv
  revert a
  refine mA rfl rfl ?_
  refine kA rfl rfl rfl rfl rfl ?_
  refine kA rfl rfl rfl rfl rfl ?_
  refine kA rfl rfl rfl rfl rfl ?_
  refine sA (v := .bool true) rfl (fun _ henv => rn_pick henv rfl rfl) ?_
  intro a henv
  refine wpList_nil ?_
  refine th_n ?_
  refine if_t henv rfl (rfl) ?_
  refine wp_seq ?_
  refine region_seq ?_
  refine sv (v := .bool true) henv rfl (rn_assign henv rfl) ?_
  clear henv a; intro a henv
  refine wpList_nil ?_
  refine th_n ?_
  refine wp_ret ?_
  refine th_r ?_
  refine leave henv (res1 Tryd.results5 (RV.tmp henv rfl)) ?_
  exact ⟨rfl, hst.below⟩
set_option maxRecDepth 100000 in
set_option maxHeartbeats 8000000 in
theorem preckons_w1 {A0 A1 : Option Addr} {n0 c0 n1 c1 : Nat} {es0 es1 : List Int} {cc : Int} {n : Int} {w0 : World} (h0 : (pfRow fI FI 1 A0 n0 c0 es0).P w0) (hI0 : I64 es0) (h1 : (pfRow fI FI 1 A1 n1 c1 es1).P w0) (hI1 : I64 es1) (_hc : -9223372036854775808 ≤ cc ∧ cc ≤ 9223372036854775807) (hw0 : n0 ≤ 200) (hw : 200 < n1) :
    Calls Tryd.prog 5 #[.slice A0 n0 c0, .slice A1 n1 c1, .int .i64 cc, .int .i64 n] w0 fun e w' => e = .returned (.bool true) ∧ Below w0.heap.size w0 w' := by
  refine enter Tryd.func5 rfl Tryd.ntmps5 rfl ?_
  intro a henv hst
  have hlen0 := h0.2.1
  have hbig0 := Nat.le_trans h0.1.cap h0.1.big
  unfold maxLen at hbig0
  have hlen1 := h1.2.1
  have hbig1 := Nat.le_trans h1.1.cap h1.1.big
  unfold maxLen at hbig1
  replace hst := hst.argRow h0
  replace hst := hst.argRow h1
  clear h0 h1
  have hk0 : Zk 2 es0 := i64_zk hI0
  have hk1 : Zk 2 es1 := i64_zk hI1
  refine wp_seq ?_
  refine region_seq ?_
  refine sv (v := .bool false) henv rfl (rn_assign henv rfl) ?_
  clear henv a; intro a henv
  refine wpList_nil ?_
  refine th_n ?_
  refine wp_seq ?_
  refine wp_seq ?_
  refine region_seq ?_
  refine seq_step rfl (op_call henv rfl Tryd.call10 rfl p20_works ?_)
  rintro e w51 ⟨rfl, hb⟩
  refine ⟨_, rfl, ?_⟩
  clear henv a; intro a henv
  replace hst := hst.call hb
  clear hb
  refine sv (v := .bool false) henv rfl (rn_un henv rfl rfl) ?_
  clear henv a; intro a henv
  refine wpList_nil ?_
  refine th_n ?_
  refine if_f henv rfl (rfl) ?_
  refine wp_skip ?_
  refine th_n ?_
  refine wp_seq ?_
  refine wp_seq ?_
  refine region_seq ?_
  revert a
  refine mA rfl rfl ?_
  refine sA (v := .int .i64 (n0 : Nat)) rfl (fun _ henv => rn_len henv Tryd.underlying22 rfl) ?_
  refine sA (v := .bool (decide (((n0 : Nat) : Int) > (200 : Int)))) rfl (fun _ henv => rn_bin henv rfl rfl rfl) ?_
  intro a henv
  rw [show (decide (((n0 : Nat) : Int) > (200 : Int))) = false from (decide_eq_false (by omega))] at henv
  revert a
  refine mA rfl rfl ?_
  refine gA (v := .slice A1 n1 c1) rfl rfl rfl rfl (fun _ henv => rn_move henv rfl) ?_
  refine gA (v := .int .i64 (n1 : Nat)) rfl rfl rfl rfl (fun _ henv => rn_len henv Tryd.underlying22 rfl) ?_
  refine gA (v := .bool (decide (((n1 : Nat) : Int) > (200 : Int)))) rfl rfl rfl rfl (fun _ henv => rn_bin henv rfl rfl rfl) ?_
  intro a henv
  rw [show (decide (((n1 : Nat) : Int) > (200 : Int))) = true from (decide_eq_true (by omega))] at henv
  refine sv (v := .bool true) henv rfl (rn_pick henv rfl rfl) ?_
  clear henv a; intro a henv
  refine wpList_nil ?_
  refine th_n ?_
  refine if_t henv rfl (rfl) ?_
  refine wp_seq ?_
  refine region_seq ?_
  refine sv (v := .bool true) henv rfl (rn_assign henv rfl) ?_
  clear henv a; intro a henv
  refine wpList_nil ?_
  refine th_n ?_
  refine wp_ret ?_
  refine th_r ?_
  refine leave henv (res1 Tryd.results5 (RV.tmp henv rfl)) ?_
  exact ⟨rfl, hst.below⟩
set_option maxRecDepth 100000 in
set_option maxHeartbeats 8000000 in
theorem preckons_neg {A0 A1 : Option Addr} {n0 c0 n1 c1 : Nat} {es0 es1 : List Int} {cc : Int} {n : Int} {w0 : World} (h0 : (pfRow fI FI 1 A0 n0 c0 es0).P w0) (hI0 : I64 es0) (h1 : (pfRow fI FI 1 A1 n1 c1 es1).P w0) (hI1 : I64 es1) (hc : -9223372036854775808 ≤ cc ∧ cc ≤ 9223372036854775807) (hw0 : n0 ≤ 200) (hw1 : n1 ≤ 200) (hq : n < 0) :
    Calls Tryd.prog 5 #[.slice A0 n0 c0, .slice A1 n1 c1, .int .i64 cc, .int .i64 n] w0 fun e w' => e = .returned (.bool true) ∧ Below w0.heap.size w0 w' := by
  refine enter Tryd.func5 rfl Tryd.ntmps5 rfl ?_
  intro a henv hst
  have hlen0 := h0.2.1
  have hbig0 := Nat.le_trans h0.1.cap h0.1.big
  unfold maxLen at hbig0
  have hlen1 := h1.2.1
  have hbig1 := Nat.le_trans h1.1.cap h1.1.big
  unfold maxLen at hbig1
  replace hst := hst.argRow h0
  replace hst := hst.argRow h1
  clear h0 h1
  have hk0 : Zk 2 es0 := i64_zk hI0
  have hk1 : Zk 2 es1 := i64_zk hI1
  have hm0 : es0.length ≤ 200 := by omega
  have hm1 : es1.length ≤ 200 := by omega
  have hkT1 : Zk 3 (addF es0 es1) := add_zk hk0 hk1 (by decide) (by decide)
  have hlT1 : (addF es0 es1).length ≤ 200 := add_len (Nat.le_trans hm0 (by decide)) (Nat.le_trans hm1 (by decide))
  have hkT2 : Zk 3 (subF es0 es1) := sub_zk hk0 hk1 (by decide) (by decide)
  have hlT2 : (subF es0 es1).length ≤ 200 := sub_len (Nat.le_trans hm0 (by decide)) (Nat.le_trans hm1 (by decide))
  have hkT3 : Zk 204 (mulF es0 es1) := mul_zk hk0 hk1 hm0
  have hlT3 : (mulF es0 es1).length ≤ 400 := mul_len hm0 hm1
  have hdl0 : degN es0 ≤ n0 := by have := deg_len es0; omega
  have hzc : zl cc ≤ 2 := zl_b64 hc
  have hdc := dl_zl cc
  have hkc : Zk 4 (es0.map (· * cc)) := hk0.map fun z hz => Nat.le_trans (zl_mul z cc) (by omega)
  refine wp_seq ?_
  refine region_seq ?_
  refine sv (v := .bool false) henv rfl (rn_assign henv rfl) ?_
  clear henv a; intro a henv
  refine wpList_nil ?_
  refine th_n ?_
  refine wp_seq ?_
  refine wp_seq ?_
  refine region_seq ?_
  refine seq_step rfl (op_call henv rfl Tryd.call10 rfl p20_works ?_)
  rintro e w51 ⟨rfl, hb⟩
  refine ⟨_, rfl, ?_⟩
  clear henv a; intro a henv
  replace hst := hst.call hb
  clear hb
  refine sv (v := .bool false) henv rfl (rn_un henv rfl rfl) ?_
  clear henv a; intro a henv
  refine wpList_nil ?_
  refine th_n ?_
  refine if_f henv rfl (rfl) ?_
  refine wp_skip ?_
  refine th_n ?_
  refine wp_seq ?_
  refine wp_seq ?_
  refine region_seq ?_
  revert a
  refine mA rfl rfl ?_
  refine sA (v := .int .i64 (n0 : Nat)) rfl (fun _ henv => rn_len henv Tryd.underlying22 rfl) ?_
  refine sA (v := .bool (decide (((n0 : Nat) : Int) > (200 : Int)))) rfl (fun _ henv => rn_bin henv rfl rfl rfl) ?_
  intro a henv
  rw [show (decide (((n0 : Nat) : Int) > (200 : Int))) = false from (decide_eq_false (by omega))] at henv
  revert a
  refine mA rfl rfl ?_
  refine gA (v := .slice A1 n1 c1) rfl rfl rfl rfl (fun _ henv => rn_move henv rfl) ?_
  refine gA (v := .int .i64 (n1 : Nat)) rfl rfl rfl rfl (fun _ henv => rn_len henv Tryd.underlying22 rfl) ?_
  refine gA (v := .bool (decide (((n1 : Nat) : Int) > (200 : Int)))) rfl rfl rfl rfl (fun _ henv => rn_bin henv rfl rfl rfl) ?_
  intro a henv
  rw [show (decide (((n1 : Nat) : Int) > (200 : Int))) = false from (decide_eq_false (by omega))] at henv
  refine sv (v := .bool false) henv rfl (rn_pick henv rfl rfl) ?_
  clear henv a; intro a henv
  refine wpList_nil ?_
  refine th_n ?_
  refine if_f henv rfl (rfl) ?_
  refine wp_skip ?_
  refine th_n ?_
  refine wp_seq ?_
  refine region_seq ?_
  refine sv (v := .slice A0 n0 c0) henv rfl (rn_move henv rfl) ?_
  clear henv a; intro a henv
  refine seq_step rfl (op_call henv rfl Tryd.call12 rfl (p20_list (es0 := es0) (hst.pat (k := 1) rfl) hI0 (by omega)) ?_)
  rintro e w59 ⟨_, rfl, ⟨g52, ps53, rfl, hr, hl54, hz55⟩, hb⟩
  refine ⟨_, rfl, ?_⟩
  clear henv a; intro a henv
  replace hst := hst.freshRd hb hr hl54 (ap_N hr.2.1 trivial)
  clear hr
  obtain ⟨es56, hst, hl57, hz58⟩ := hst.listRow (k := 0) (n := n0) rfl hz55 (hlen0)
  clear hb
  refine sv (v := .slice A1 n1 c1) henv rfl (rn_move henv rfl) ?_
  clear henv a; intro a henv
  refine seq_step rfl (op_call henv rfl Tryd.call12 rfl (p20_list (es0 := es1) (hst.pat (k := 2) rfl) hI1 (by omega)) ?_)
  rintro e w67 ⟨_, rfl, ⟨g60, ps61, rfl, hr, hl62, hz63⟩, hb⟩
  refine ⟨_, rfl, ?_⟩
  clear henv a; intro a henv
  replace hst := hst.freshRd hb hr hl62 (ap_N hr.2.1 trivial)
  clear hr
  obtain ⟨es64, hst, hl65, hz66⟩ := hst.listRow (k := 0) (n := n1) rfl hz63 (hlen1)
  clear hb
  revert a
  refine aA rfl rfl ?_
  refine aA rfl rfl ?_
  intro a henv
  refine wpList_nil ?_
  refine th_n ?_
  refine wp_seq ?_
  refine region_seq ?_
  revert a
  refine mA rfl rfl ?_
  refine mA rfl rfl ?_
  intro a henv
  refine seq_step rfl (op_call henv rfl Tryd.call24 rfl (p_mulN (xs := es0) (ys := es1) (hst.pat (k := 2) rfl) hz58 (hst.pat (k := 0) rfl) hz66 (hk0.mono (by decide)) (hk1.mono (by decide)) (by omega) (by omega)) ?_)
  rintro e w74 ⟨_, rfl, ⟨A68, c69, es70, rfl, hr, hl71, hz72, hn73⟩, hb⟩
  refine ⟨_, rfl, ?_⟩
  clear henv a; intro a henv
  replace hst := hst.freshRd hb hr hl71 (ap_N hr.2.1 trivial)
  clear hr
  clear hb
  revert a
  refine mA rfl rfl ?_
  refine sA (v := .slice A68 ((mulF es0 es1).length) c69) rfl (fun _ henv => rn_extract henv rfl rfl) ?_
  refine sA (v := .int .i64 (n0 * n1 : Nat)) rfl (fun _ henv => rn_extract henv rfl rfl) ?_
  refine aA rfl rfl ?_
  refine aA rfl rfl ?_
  intro a henv
  refine wpList_nil ?_
  refine th_n ?_
  refine wp_seq ?_
  refine region_seq ?_
  revert a
  refine mA rfl rfl ?_
  refine mA rfl rfl ?_
  intro a henv
  refine seq_step rfl (op_call henv rfl Tryd.call25 rfl (p_shift_neg (hst.pat (k := 3) rfl) hz58 hq) ?_)
  rintro e w75 ⟨rfl, hb⟩
  refine ⟨_, rfl, ?_⟩
  clear henv a; intro a henv
  replace hst := hst.call hb
  clear hb
  revert a
  refine mA rfl rfl ?_
  refine sA (v := .slice none 0 0) rfl (fun _ henv => rn_extract henv rfl rfl) ?_
  refine sA (v := .int .i64 2) rfl (fun _ henv => rn_extract henv rfl rfl) ?_
  refine aA rfl rfl ?_
  refine aA rfl rfl ?_
  intro a henv
  refine wpList_nil ?_
  refine th_n ?_
  refine wp_seq ?_
  refine region_seq ?_
  refine sv (v := .slice A0 n0 c0) henv rfl (rn_move henv rfl) ?_
  clear henv a; intro a henv
  refine seq_step rfl (op_call henv rfl Tryd.call18 rfl (p20_ref (es0 := es0) (hst.pat (k := 6) rfl) hI0 (by omega)) ?_)
  rintro e w82 ⟨_, rfl, ⟨A76, c77, es78, rfl, hr, hl79, hz80, hn81⟩, hb⟩
  refine ⟨_, rfl, ?_⟩
  clear henv a; intro a henv
  replace hst := hst.freshRd hb hr hl79 (ap_M hr.2.1 trivial)
  clear hr
  clear hb
  refine sv (v := .slice A1 n1 c1) henv rfl (rn_move henv rfl) ?_
  clear henv a; intro a henv
  refine seq_step rfl (op_call henv rfl Tryd.call18 rfl (p20_ref (es0 := es1) (hst.pat (k := 6) rfl) hI1 (by omega)) ?_)
  rintro e w89 ⟨_, rfl, ⟨A83, c84, es85, rfl, hr, hl86, hz87, hn88⟩, hb⟩
  refine ⟨_, rfl, ?_⟩
  clear henv a; intro a henv
  replace hst := hst.freshRd hb hr hl86 (ap_M hr.2.1 trivial)
  clear hr
  clear hb
  revert a
  refine aA rfl rfl ?_
  refine aA rfl rfl ?_
  intro a henv
  refine wpList_nil ?_
  refine th_n ?_
  refine wp_seq ?_
  refine wp_seq ?_
  simp only [List.append_eq, List.cons_append, List.nil_append]
  refine region_seq ?_
  refine sv (v := .slice (some ⟨g52, 0, none⟩) n0 (n0 + 2)) henv rfl (rn_move henv rfl) ?_
  clear henv a; intro a henv
  refine seq_step rfl (op_call henv rfl Tryd.call27 rfl (p_trim (xs := es0) (hst.pat (k := 5) rfl) hz58 (by omega)) ?_)
  rintro e w96 ⟨_, rfl, ⟨A90, c91, es92, rfl, hr, hl93, hz94, hn95⟩, hb⟩
  refine ⟨_, rfl, ?_⟩
  clear henv a; intro a henv
  replace hst := hst.freshRd hb hr hl93 (ap_N hr.2.1 trivial)
  clear hr
  clear hb
  refine sv (v := .slice A76 n0 c77) henv rfl (rn_move henv rfl) ?_
  clear henv a; intro a henv
  refine seq_step rfl (op_call henv rfl Tryd.call28 rfl (r20_trim (xs := es0) (hst.pat (k := 2) rfl) hz80 (by omega)) ?_)
  rintro e w97 ⟨rfl, hb⟩
  refine ⟨_, rfl, ?_⟩
  clear henv a; intro a henv
  replace hst := hst.call hb
  replace hst := hst.preRow (i := 2) rfl (degN es0) fM_len hdl0
  clear hb
  replace hst : St w0 _ [] [pfRow fM FM 2 A76 (degN es0) c77 (es78.take (degN es0)), pfRow fN FN 2 A90 (degN es0) c91 es92, pfRow fM FM 2 A83 n1 c84 es85, pfRow fM FM 2 A76 n0 c77 es78, pfRow fN FN 2 A68 ((mulF es0 es1).length) c69 es70, pfRow fN FN 2 (some ⟨g60, 0, none⟩) n1 (n1 + 2) es64, pfRow fN FN 2 (some ⟨g60, 0, none⟩) (n1 + 2) (n1 + 2) ps61, pfRow fN FN 2 (some ⟨g52, 0, none⟩) n0 (n0 + 2) es56, pfRow fN FN 2 (some ⟨g52, 0, none⟩) (n0 + 2) (n0 + 2) ps53, pfRow fI FI 1 A1 n1 c1 es1, pfRow fI FI 1 A0 n0 c0 es0] := hst
  refine seq_step rfl (op_call henv rfl Tryd.call26 rfl (p20_is (xs := (trimN es0)) (ys := (trimN es0)) (hst.pat (k := 1) rfl) hz94 (hst.pat (k := 0) rfl) (by rw [List.map_take, hz80]; rfl) ((hk0.take (degN es0)).mono (by decide)) ((hk0.take (degN es0)).mono (by decide)) hn95) ?_)
  rintro e w98 ⟨rfl, hb⟩
  refine ⟨_, rfl, ?_⟩
  clear henv a; intro a henv
  replace hst := hst.call hb
  clear hb
  rw [show (decide (((trimN es0) : List Int) = (trimN es0))) = true from (decide_eq_true rfl)] at henv
  revert a
  refine sA (v := .bool false) rfl (fun _ henv => rn_un henv rfl rfl) ?_
  refine mA rfl rfl ?_
  refine gA (v := .slice (some ⟨g52, 0, none⟩) n0 (n0 + 2)) rfl rfl rfl rfl (fun _ henv => rn_move henv rfl) ?_
  intro a henv
  refine seq_g rfl henv rfl rfl (op_call henv rfl Tryd.call23 rfl (p_deg (xs := es0) (hst.pat (k := 7) rfl) hz58 (by omega)) ?_)
  rintro e w99 ⟨rfl, hb⟩
  refine ⟨_, rfl, ?_⟩
  clear henv a; intro a henv
  replace hst := hst.call hb
  clear hb
  refine seq_g rfl henv rfl rfl (op_val (v := .slice A76 n0 c77) henv rfl (rn_move henv rfl) ?_)
  clear henv a; intro a henv
  refine seq_g rfl henv rfl rfl (op_call henv rfl Tryd.call29 rfl (r20_deg (xs := es0) (hst.pat (k := 3) rfl) hz80 (by omega)) ?_)
  rintro e w100 ⟨rfl, hb⟩
  refine ⟨_, rfl, ?_⟩
  clear henv a; intro a henv
  replace hst := hst.call hb
  clear hb
  refine seq_g rfl henv rfl rfl (op_val (v := .bool (((degN es0 : Nat) : Int) - 1 != ((degN es0 : Nat) : Int) - 1)) henv rfl (rn_bin henv rfl rfl rfl) ?_)
  clear henv a; intro a henv
  rw [show (((degN es0 : Nat) : Int) - 1 != ((degN es0 : Nat) : Int) - 1) = false from (bne_self_eq_false _)] at henv
  revert a
  refine sA (v := .bool false) rfl (fun _ henv => rn_pick henv rfl rfl) ?_
  refine mA rfl rfl ?_
  refine gA (v := .slice (some ⟨g52, 0, none⟩) n0 (n0 + 2)) rfl rfl rfl rfl (fun _ henv => rn_move henv rfl) ?_
  refine gA (v := .slice (some ⟨g60, 0, none⟩) n1 (n1 + 2)) rfl rfl rfl rfl (fun _ henv => rn_move henv rfl) ?_
  intro a henv
  refine seq_g rfl henv rfl rfl (op_call henv rfl Tryd.call19 rfl (p_same (xs := es0) (ys := es1) (hst.pat (k := 7) rfl) hz58 (hst.pat (k := 5) rfl) hz66 (by omega) (by omega)) ?_)
  rintro e w101 ⟨rfl, hb⟩
  refine ⟨_, rfl, ?_⟩
  clear henv a; intro a henv
  replace hst := hst.call hb
  clear hb
  revert a
  refine gA (v := .slice A76 n0 c77) rfl rfl rfl rfl (fun _ henv => rn_move henv rfl) ?_
  refine gA (v := .slice A83 n1 c84) rfl rfl rfl rfl (fun _ henv => rn_move henv rfl) ?_
  intro a henv
  refine seq_g rfl henv rfl rfl (op_call henv rfl Tryd.call30 rfl (r20_same (xs := es0) (ys := es1) (hst.pat (k := 3) rfl) hz80 (hst.pat (k := 2) rfl) hz87 (by omega) (by omega)) ?_)
  rintro e w102 ⟨rfl, hb⟩
  refine ⟨_, rfl, ?_⟩
  clear henv a; intro a henv
  replace hst := hst.call hb
  clear hb
  refine seq_g rfl henv rfl rfl (op_val (v := .bool (!((decide (trimN es0 = trimN es1)) == (decide (trimN es0 = trimN es1))))) henv rfl (rn_neqb henv Tryd.underlying4 rfl rfl) ?_)
  clear henv a; intro a henv
  rw [show (!((decide (trimN es0 = trimN es1)) == (decide (trimN es0 = trimN es1)))) = false from (by rw [beq_self_eq_true]; rfl)] at henv
  revert a
  refine sA (v := .bool false) rfl (fun _ henv => rn_pick henv rfl rfl) ?_
  refine mA rfl rfl ?_
  refine gA (v := .slice (some ⟨g52, 0, none⟩) n0 (n0 + 2)) rfl rfl rfl rfl (fun _ henv => rn_move henv rfl) ?_
  refine gA (v := .slice (some ⟨g60, 0, none⟩) n1 (n1 + 2)) rfl rfl rfl rfl (fun _ henv => rn_move henv rfl) ?_
  intro a henv
  refine seq_g rfl henv rfl rfl (op_call henv rfl Tryd.call20 rfl (p_addN (xs := es0) (ys := es1) (hst.pat (k := 7) rfl) hz58 (hst.pat (k := 5) rfl) hz66 (hk0.mono (by decide)) (hk1.mono (by decide)) (by omega) (by omega)) ?_)
  rintro e w109 ⟨_, rfl, ⟨A103, c104, es105, rfl, hr, hl106, hz107, hn108⟩, hb⟩
  refine ⟨_, rfl, ?_⟩
  clear henv a; intro a henv
  replace hst := hst.freshRd hb hr hl106 (ap_N hr.2.1 trivial)
  clear hr
  clear hb
  revert a
  refine gA (v := .slice A76 n0 c77) rfl rfl rfl rfl (fun _ henv => rn_move henv rfl) ?_
  refine gA (v := .slice A83 n1 c84) rfl rfl rfl rfl (fun _ henv => rn_move henv rfl) ?_
  intro a henv
  refine seq_g rfl henv rfl rfl (op_call henv rfl Tryd.call31 rfl (r20_add (xs := es0) (ys := es1) (hst.pat (k := 4) rfl) hz80 (hst.pat (k := 3) rfl) hz87 (hk0.mono (by decide)) (hk1.mono (by decide)) (by omega) (by omega)) ?_)
  rintro e w115 ⟨_, rfl, ⟨A110, c111, es112, rfl, hr, hl113, hz114⟩, hb⟩
  refine ⟨_, rfl, ?_⟩
  clear henv a; intro a henv
  replace hst := hst.freshRd hb hr hl113 (ap_M hr.2.1 trivial)
  clear hr
  clear hb
  refine seq_g rfl henv rfl rfl (op_call henv rfl Tryd.call26 rfl (p20_is (xs := (addF es0 es1)) (ys := (addF es0 es1)) (hst.pat (k := 1) rfl) hz107 (hst.pat (k := 0) rfl) hz114 (hkT1.mono (by decide)) (hkT1.mono (by decide)) hn108) ?_)
  rintro e w116 ⟨rfl, hb⟩
  refine ⟨_, rfl, ?_⟩
  clear henv a; intro a henv
  replace hst := hst.call hb
  clear hb
  rw [show (decide (((addF es0 es1) : List Int) = (addF es0 es1))) = true from (decide_eq_true rfl)] at henv
  revert a
  refine gA (v := .bool false) rfl rfl rfl rfl (fun _ henv => rn_un henv rfl rfl) ?_
  refine sA (v := .bool false) rfl (fun _ henv => rn_pick henv rfl rfl) ?_
  refine mA rfl rfl ?_
  refine gA (v := .slice (some ⟨g52, 0, none⟩) n0 (n0 + 2)) rfl rfl rfl rfl (fun _ henv => rn_move henv rfl) ?_
  refine gA (v := .slice (some ⟨g60, 0, none⟩) n1 (n1 + 2)) rfl rfl rfl rfl (fun _ henv => rn_move henv rfl) ?_
  intro a henv
  refine seq_g rfl henv rfl rfl (op_call henv rfl Tryd.call22 rfl (p_subN (xs := es0) (ys := es1) (hst.pat (k := 9) rfl) hz58 (hst.pat (k := 7) rfl) hz66 (hk0.mono (by decide)) (hk1.mono (by decide)) (by omega) (by omega)) ?_)
  rintro e w123 ⟨_, rfl, ⟨A117, c118, es119, rfl, hr, hl120, hz121, hn122⟩, hb⟩
  refine ⟨_, rfl, ?_⟩
  clear henv a; intro a henv
  replace hst := hst.freshRd hb hr hl120 (ap_N hr.2.1 trivial)
  clear hr
  clear hb
  revert a
  refine gA (v := .slice A76 n0 c77) rfl rfl rfl rfl (fun _ henv => rn_move henv rfl) ?_
  refine gA (v := .slice A83 n1 c84) rfl rfl rfl rfl (fun _ henv => rn_move henv rfl) ?_
  intro a henv
  refine seq_g rfl henv rfl rfl (op_call henv rfl Tryd.call32 rfl (r20_sub (xs := es0) (ys := es1) (hst.pat (k := 6) rfl) hz80 (hst.pat (k := 5) rfl) hz87 (hk0.mono (by decide)) (hk1.mono (by decide)) (by omega) (by omega)) ?_)
  rintro e w129 ⟨_, rfl, ⟨A124, c125, es126, rfl, hr, hl127, hz128⟩, hb⟩
  refine ⟨_, rfl, ?_⟩
  clear henv a; intro a henv
  replace hst := hst.freshRd hb hr hl127 (ap_M hr.2.1 trivial)
  clear hr
  clear hb
  refine seq_g rfl henv rfl rfl (op_call henv rfl Tryd.call26 rfl (p20_is (xs := (subF es0 es1)) (ys := (subF es0 es1)) (hst.pat (k := 1) rfl) hz121 (hst.pat (k := 0) rfl) hz128 (hkT2.mono (by decide)) (hkT2.mono (by decide)) hn122) ?_)
  rintro e w130 ⟨rfl, hb⟩
  refine ⟨_, rfl, ?_⟩
  clear henv a; intro a henv
  replace hst := hst.call hb
  clear hb
  rw [show (decide (((subF es0 es1) : List Int) = (subF es0 es1))) = true from (decide_eq_true rfl)] at henv
  revert a
  refine gA (v := .bool false) rfl rfl rfl rfl (fun _ henv => rn_un henv rfl rfl) ?_
  refine sA (v := .bool false) rfl (fun _ henv => rn_pick henv rfl rfl) ?_
  refine mA rfl rfl ?_
  refine gA (v := .slice (some ⟨g52, 0, none⟩) n0 (n0 + 2)) rfl rfl rfl rfl (fun _ henv => rn_move henv rfl) ?_
  refine gA (v := .int .i64 cc) rfl rfl rfl rfl (fun _ henv => rn_move henv rfl) ?_
  intro a henv
  refine seq_g rfl henv rfl rfl (op_call henv rfl Tryd.call34 rfl (of_z (n := cc) (by omega) (by omega)) ?_)
  rintro e w134 ⟨_, rfl, ⟨A131, c132, rfl, hz133⟩, hb⟩
  refine ⟨_, rfl, ?_⟩
  clear henv a; intro a henv
  replace hst := (hst.call hb).addZ hz133 trivial
  clear hz133
  clear hb
  refine seq_g rfl henv rfl rfl (op_call henv rfl Tryd.call33 rfl (p_scale (xs := es0) (hst.pat (k := 12) rfl) hz58 (show ZIn _ A131 c132 cc from hst.pat (k := 0) rfl) (by omega) (hk0.mono (by decide)) (by omega)) ?_)
  rintro e w141 ⟨_, rfl, ⟨A135, c136, es137, rfl, hr, hl138, hz139, hn140⟩, hb⟩
  refine ⟨_, rfl, ?_⟩
  clear henv a; intro a henv
  replace hst := hst.freshRd hb hr hl138 (ap_N hr.2.1 trivial)
  clear hr
  clear hb
  revert a
  refine gA (v := .slice A76 n0 c77) rfl rfl rfl rfl (fun _ henv => rn_move henv rfl) ?_
  refine gA (v := .int .i64 cc) rfl rfl rfl rfl (fun _ henv => rn_move henv rfl) ?_
  intro a henv
  refine seq_g rfl henv rfl rfl (op_call henv rfl Tryd.call36 rfl (of_r (n := cc) (by omega) (by omega)) ?_)
  rintro e w145 ⟨_, rfl, ⟨A142, c143, rfl, hz144⟩, hb⟩
  refine ⟨_, rfl, ?_⟩
  clear henv a; intro a henv
  replace hst := (hst.call hb).addR hz144 trivial
  clear hz144
  clear hb
  refine seq_g rfl henv rfl rfl (op_call henv rfl Tryd.call35 rfl (r20_scale (xs := es0) (hst.pat (k := 10) rfl) hz80 (show RIn _ A142 c143 cc from hst.pat (k := 0) rfl) (by omega) (hk0.mono (by decide)) (by omega)) ?_)
  rintro e w151 ⟨_, rfl, ⟨A146, c147, es148, rfl, hr, hl149, hz150⟩, hb⟩
  refine ⟨_, rfl, ?_⟩
  clear henv a; intro a henv
  replace hst := hst.freshRd hb hr hl149 (ap_M hr.2.1 trivial)
  clear hr
  clear hb
  refine seq_g rfl henv rfl rfl (op_call henv rfl Tryd.call26 rfl (p20_is (xs := (es0.map (· * cc))) (ys := (es0.map (· * cc))) (hst.pat (k := 2) rfl) hz139 (hst.pat (k := 0) rfl) hz150 (hkc.mono (by decide)) (hkc.mono (by decide)) hn140) ?_)
  rintro e w152 ⟨rfl, hb⟩
  refine ⟨_, rfl, ?_⟩
  clear henv a; intro a henv
  replace hst := hst.call hb
  clear hb
  rw [show (decide (((es0.map (· * cc)) : List Int) = (es0.map (· * cc)))) = true from (decide_eq_true rfl)] at henv
  revert a
  refine gA (v := .bool false) rfl rfl rfl rfl (fun _ henv => rn_un henv rfl rfl) ?_
  refine sA (v := .bool false) rfl (fun _ henv => rn_pick henv rfl rfl) ?_
  refine mA rfl rfl ?_
  refine gA (v := .slice A68 ((mulF es0 es1).length) c69) rfl rfl rfl rfl (fun _ henv => rn_move henv rfl) ?_
  refine gA (v := .slice A76 n0 c77) rfl rfl rfl rfl (fun _ henv => rn_move henv rfl) ?_
  refine gA (v := .slice A83 n1 c84) rfl rfl rfl rfl (fun _ henv => rn_move henv rfl) ?_
  intro a henv
  refine seq_g rfl henv rfl rfl (op_call henv rfl Tryd.call37 rfl (r20_mul (xs := es0) (ys := es1) (hst.pat (k := 11) rfl) hz80 (hst.pat (k := 10) rfl) hz87 (hk0.mono (by decide)) (hk1.mono (by decide)) (by omega) (by omega)) ?_)
  rintro e w158 ⟨_, rfl, ⟨A153, c154, es155, rfl, hr, hl156, hz157⟩, hb⟩
  refine ⟨_, rfl, ?_⟩
  clear henv a; intro a henv
  replace hst := hst.freshRd hb hr hl156 (ap_M hr.2.1 trivial)
  clear hr
  clear hb
  refine seq_g rfl henv rfl rfl (op_call henv rfl Tryd.call26 rfl (p20_is (xs := (mulF es0 es1)) (ys := (mulF es0 es1)) (hst.pat (k := 13) rfl) hz72 (hst.pat (k := 0) rfl) hz157 (hkT3.mono (by decide)) (hkT3.mono (by decide)) hn73) ?_)
  rintro e w159 ⟨rfl, hb⟩
  refine ⟨_, rfl, ?_⟩
  clear henv a; intro a henv
  replace hst := hst.call hb
  clear hb
  rw [show (decide (((mulF es0 es1) : List Int) = (mulF es0 es1))) = true from (decide_eq_true rfl)] at henv
  revert a
  refine gA (v := .bool false) rfl rfl rfl rfl (fun _ henv => rn_un henv rfl rfl) ?_
  refine sA (v := .bool false) rfl (fun _ henv => rn_pick henv rfl rfl) ?_
  refine mA rfl rfl ?_
  refine gA (v := .int .i64 (n0 * n1 : Nat)) rfl rfl rfl rfl (fun _ henv => rn_move henv rfl) ?_
  refine gA (v := .slice A0 n0 c0) rfl rfl rfl rfl (fun _ henv => rn_move henv rfl) ?_
  refine gA (v := .int .i64 (n0 : Nat)) rfl rfl rfl rfl (fun _ henv => rn_len henv Tryd.underlying22 rfl) ?_
  refine gA (v := .slice A1 n1 c1) rfl rfl rfl rfl (fun _ henv => rn_move henv rfl) ?_
  refine gA (v := .int .i64 (n1 : Nat)) rfl rfl rfl rfl (fun _ henv => rn_len henv Tryd.underlying22 rfl) ?_
  refine gA (v := .int .i64 (n0 * n1 : Nat)) rfl rfl rfl rfl (fun _ henv => rn_mul henv rfl rfl (by have h9 := Nat.mul_le_mul hw0 hw1; rw [← Int.natCast_mul, IntWalk.i64_in _ (by omega)])) ?_
  refine gA (v := .bool (((n0 * n1 : Nat) : Int) != ((n0 * n1 : Nat) : Int))) rfl rfl rfl rfl (fun _ henv => rn_bin henv rfl rfl rfl) ?_
  intro a henv
  rw [show (((n0 * n1 : Nat) : Int) != ((n0 * n1 : Nat) : Int)) = false from (bne_self_eq_false _)] at henv
  refine sv (v := .bool false) henv rfl (rn_pick henv rfl rfl) ?_
  clear henv a; intro a henv
  refine wpList_nil ?_
  refine th_n ?_
  refine if_f henv rfl (rfl) ?_
  refine wp_skip ?_
  refine th_n ?_
  refine wp_seq ?_
  refine wp_block ?_
  refine wp_seq ?_
  refine region_seq ?_
  revert a
  refine mA rfl rfl ?_
  refine sA (v := .bool (decide (n < (0 : Int)))) rfl (fun _ henv => rn_bin henv rfl rfl rfl) ?_
  intro a henv
  rw [show (decide (n < (0 : Int))) = true from (decide_eq_true (by omega))] at henv
  refine sv (v := .bool true) henv rfl (rn_assign henv rfl) ?_
  clear henv a; intro a henv
  refine wpList_nil ?_
  refine th_n ?_
  refine if_t henv rfl (rfl) ?_
  refine wp_seq ?_
  refine region_seq ?_
  revert a
  refine mA rfl rfl ?_
  refine sA (v := .bool (!none.isNone)) rfl (fun _ henv => rn_nilN henv Tryd.underlying32 rfl) ?_
  intro a henv
  rw [show (!none.isNone) = false from rfl] at henv
  revert a
  refine mA rfl rfl ?_
  refine gA (v := .int .i64 2) rfl rfl rfl rfl (fun _ henv => rn_move henv rfl) ?_
  refine gA (v := .bool false) rfl rfl rfl rfl (fun _ henv => rn_bin henv rfl rfl rfl) ?_
  refine sA (v := .bool false) rfl (fun _ henv => rn_pick henv rfl rfl) ?_
  intro a henv
  refine wpList_nil ?_
  refine th_n ?_
  refine if_f henv rfl (rfl) ?_
  refine wp_skip ?_
  refine bl_n (th_n ?_)
  refine wp_seq ?_
  refine region_seq ?_
  refine sv (v := .slice (some ⟨g52, 0, none⟩) n0 (n0 + 2)) henv rfl (rn_move henv rfl) ?_
  clear henv a; intro a henv
  refine seq_step rfl (op_call henv rfl Tryd.call27 rfl (p_trim (xs := es0) (hst.pat (k := 16) rfl) hz58 (by omega)) ?_)
  rintro e w167 ⟨_, rfl, ⟨A160, c161, es162, rfl, hr, hl163, hz164, hn165⟩, hb⟩
  refine ⟨_, rfl, ?_⟩
  clear henv a; intro a henv
  replace hst := hst.freshRow hb hr (ap_N hr.2.1 ⟨nou_rowS, trivial⟩)
  clear hr
  clear hb
  refine sv (v := .slice A160 (degN es0) c161) henv rfl (rn_assign henv rfl) ?_
  clear henv a; intro a henv
  refine wpList_nil ?_
  refine th_n ?_
  refine wp_seq ?_
  refine wp_seq ?_
  refine region_seq ?_
  revert a
  refine mA rfl rfl ?_
  refine sA (v := .int .i64 ((degN es0) : Nat)) rfl (fun _ henv => rn_len henv Tryd.underlying32 rfl) ?_
  refine mA rfl rfl ?_
  intro a henv
  refine wpList_nil ?_
  refine th_n ?_
  refine wp_block ?_
  refine wp_loop_ghost (fun mz a w => ∃ j : Nat, ∃ qs : List NE, degN es0 - j = mz ∧ Env 172 a [(0, .slice A0 n0 c0), (1, .slice A1 n1 c1), (9, .slice (some ⟨g52, 0, none⟩) n0 (n0 + 2)), (10, .slice (some ⟨g60, 0, none⟩) n1 (n1 + 2)), (17, .slice A160 (degN es0) c161), (151, .int .i64 (degN es0 : Nat)), (152, .int .i64 (j : Nat))] ∧ St w0 w [rowS notU 28 2 A160 (degN es0) c161 (fl fN qs)] [pfRow fN FN 2 (some ⟨g60, 0, none⟩) (n1 + 2) (n1 + 2) ps61, pfRow fN FN 2 (some ⟨g52, 0, none⟩) (n0 + 2) (n0 + 2) ps53, pfRow fI FI 1 A1 n1 c1 es1, pfRow fI FI 1 A0 n0 c0 es0, pfEs FN qs] ∧ j ≤ degN es0 ∧ qs.length = degN es0) _ ⟨0, es162, rfl, henv.sub ⟨rfl, rfl, rfl, rfl, rfl, rfl, rfl, trivial⟩, hst.pick [0] [16, 18, 19, 20, 0] (by decide), (Nat.zero_le _), hl163⟩ ?_
  clear henv hst a
  rintro mz a w168 ⟨j, qs, rfl, henv, hst, hj, hpl⟩
  refine wp_seq ?_
  refine region_seq ?_
  refine sv (v := .bool (decide (((j : Nat) : Int) < ((degN es0 : Nat) : Int)))) henv rfl (rn_bin henv rfl rfl rfl) ?_
  clear henv a; intro a henv
  refine wpList_nil ?_
  refine th_n ?_
  refine wp_seq ?_
  refine if_split henv rfl (fun hc169 => ?_) (fun hc169 => ?_)
  · have hlt : j < degN es0 := by have := of_decide_eq_true hc169; omega
    refine wp_skip ?_
    refine th_n ?_
    refine wp_seq ?_
    refine wp_block ?_
    refine wp_seq ?_
    refine region_seq ?_
    revert a
    refine mA rfl rfl ?_
    refine aA rfl rfl ?_
    intro a henv
    refine wpList_nil ?_
    refine th_n ?_
    refine region_seq ?_
    revert a
    refine mA rfl rfl ?_
    refine mA rfl rfl ?_
    intro a henv
    refine seq_step rfl (op_call henv rfl Tryd.call34 rfl (of_z (n := (77 : Int)) (by omega) (by omega)) ?_)
    rintro e w173 ⟨_, rfl, ⟨A170, c171, rfl, hz172⟩, hb⟩
    refine ⟨_, rfl, ?_⟩
    clear henv a; intro a henv
    replace hst := (hst.call hb).addZ hz172 ⟨nou_rowS, trivial⟩
    clear hz172
    clear hb
    refine sv (v := .pointer (some ⟨ab A160, ao A160 + j * 2, none⟩)) henv rfl (rn_idxR (i := j) henv Tryd.underlying32 (ty_anvil_integer_Int.size) rfl rfl (by omega) rfl (rowS_rd (hst.owns (k := 0) rfl))) ?_
    clear henv a; intro a henv
    refine seq_step rfl (op_storeS (i := j) (e := (A170, c171, 77)) (k := 0) henv hst (ty_anvil_integer_Int.size) rfl rfl rfl rfl fN_len (by omega) hpl rfl rfl rfl ?_)
    clear henv hst a; intro a w174 henv hst
    replace hst := hst.setEs (e := (A170, c171, 77)) (i := 5) (j := 0) rfl rfl j
    refine wpList_nil ?_
    refine bl_n (th_n ?_)
    refine region_seq ?_
    revert a
    refine sA (v := .int .i64 (j + 1 : Nat)) rfl (fun _ henv => rn_add henv rfl rfl (by rw [IntWalk.i64_in _ (by omega)]; omega)) ?_
    refine mA rfl rfl ?_
    intro a henv
    refine wpList_nil ?_
    exact th_n ⟨_, (by omega), ⟨j + 1, (qs.set j (A170, c171, 77)), rfl, henv.sub ⟨rfl, rfl, rfl, rfl, rfl, rfl, rfl, trivial⟩, hst.pick [0] [2, 3, 4, 5, 0] (by decide), (by omega), (by rw [List.length_set]; exact hpl)⟩⟩
  · have hjn : j = degN es0 := by have := of_decide_eq_false hc169; omega
    refine wp_exit ?_
    refine th_x (th_x (bl_x (th_n ?_)))
    refine wp_seq ?_
    refine region_seq ?_
    refine sv (v := .slice A160 (degN es0) c161) henv rfl (rn_move henv rfl) ?_
    clear henv a; intro a henv
    refine seq_step rfl (op_call henv rfl Tryd.call34 rfl (of_z (n := (78 : Int)) (by omega) (by omega)) ?_)
    rintro e w178 ⟨_, rfl, ⟨A175, c176, rfl, hz177⟩, hb⟩
    refine ⟨_, rfl, ?_⟩
    clear henv a; intro a henv
    replace hst := (hst.call hb).addZ hz177 ⟨nou_rowS, trivial⟩
    clear hz177
    clear hb
    refine seq_step rfl (op_buildSlice (z := 2) (pv := #[(0, .agg #[.bool (neg 78), .slice A175 (zl 78) c176])]) (c := #[.bool (neg 78), .slice A175 (zl 78) c176]) henv hst rfl Tryd.underlying32 (ty_anvil_integer_Int.size) zero_anvil_integer_Int (by decide) (by decide) rfl (by kernel_rfl) ?_)
    clear henv hst a; intro a w180 g179 henv hst
    refine seq_step rfl (op_appendS (k := 1) (j := 0) henv hst rfl Tryd.underlying32 inf_anvil_integer_Int rfl rfl rfl rfl rfl rfl rfl rfl rfl rfl rfl (by unfold maxLen; omega) (by omega) ?_)
    clear henv hst a; intro a w183 g181 c182 henv hst
    rw [show fl fN qs ++ (#[.bool (neg 78), .slice A175 (zl 78) c176] : Array Value).toList = fl fN (qs ++ [(A175, c176, 78)]) from fl_snoc (f := fN) qs (A175, c176, 78)] at hst
    replace hst := hst.snocEs (e := (A175, c176, 78)) (i := 5) (j := 0) rfl rfl
    refine wpList_nil ?_
    refine th_n ?_
    refine wp_seq ?_
    refine region_seq ?_
    revert a
    refine mA rfl rfl ?_
    refine mA rfl rfl ?_
    intro a henv
    refine seq_step rfl (op_call henv rfl Tryd.call39 rfl (k_kept (hst.pat (k := 3) rfl) hz55 (hst.pat (k := 5) rfl) hI0 (by omega)) ?_)
    rintro e w184 ⟨rfl, hb⟩
    refine ⟨_, rfl, ?_⟩
    clear henv a; intro a henv
    replace hst := hst.call hb
    clear hb
    revert a
    refine mA rfl rfl ?_
    refine gA (v := .slice (some ⟨g60, 0, none⟩) n1 (n1 + 2)) rfl rfl rfl rfl (fun _ henv => rn_move henv rfl) ?_
    refine gA (v := .slice A1 n1 c1) rfl rfl rfl rfl (fun _ henv => rn_move henv rfl) ?_
    intro a henv
    refine seq_g rfl henv rfl rfl (op_call henv rfl Tryd.call39 rfl (k_kept (hst.pat (k := 2) rfl) hz63 (hst.pat (k := 4) rfl) hI1 (by omega)) ?_)
    rintro e w185 ⟨rfl, hb⟩
    refine ⟨_, rfl, ?_⟩
    clear henv a; intro a henv
    replace hst := hst.call hb
    clear hb
    revert a
    refine sA (v := .bool true) rfl (fun _ henv => rn_pick henv rfl rfl) ?_
    refine aA rfl rfl ?_
    intro a henv
    refine wpList_nil ?_
    refine th_n ?_
    refine wp_ret ?_
    refine leave henv (res1 Tryd.results5 (RV.tmp henv rfl)) ?_
    exact ⟨rfl, hst.below⟩
set_option maxRecDepth 100000 in
set_option maxHeartbeats 8000000 in
theorem preckons_big {A0 A1 : Option Addr} {n0 c0 n1 c1 : Nat} {es0 es1 : List Int} {cc : Int} {n : Int} {w0 : World} (h0 : (pfRow fI FI 1 A0 n0 c0 es0).P w0) (hI0 : I64 es0) (h1 : (pfRow fI FI 1 A1 n1 c1 es1).P w0) (hI1 : I64 es1) (hc : -9223372036854775808 ≤ cc ∧ cc ≤ 9223372036854775807) (hw0 : n0 ≤ 200) (hw1 : n1 ≤ 200) (hq : 4096 < n) :
    Calls Tryd.prog 5 #[.slice A0 n0 c0, .slice A1 n1 c1, .int .i64 cc, .int .i64 n] w0 fun e w' => e = .returned (.bool true) ∧ Below w0.heap.size w0 w' := by
  refine enter Tryd.func5 rfl Tryd.ntmps5 rfl ?_
  intro a henv hst
  have hlen0 := h0.2.1
  have hbig0 := Nat.le_trans h0.1.cap h0.1.big
  unfold maxLen at hbig0
  have hlen1 := h1.2.1
  have hbig1 := Nat.le_trans h1.1.cap h1.1.big
  unfold maxLen at hbig1
  replace hst := hst.argRow h0
  replace hst := hst.argRow h1
  clear h0 h1
  have hk0 : Zk 2 es0 := i64_zk hI0
  have hk1 : Zk 2 es1 := i64_zk hI1
  have hm0 : es0.length ≤ 200 := by omega
  have hm1 : es1.length ≤ 200 := by omega
  have hkT1 : Zk 3 (addF es0 es1) := add_zk hk0 hk1 (by decide) (by decide)
  have hlT1 : (addF es0 es1).length ≤ 200 := add_len (Nat.le_trans hm0 (by decide)) (Nat.le_trans hm1 (by decide))
  have hkT2 : Zk 3 (subF es0 es1) := sub_zk hk0 hk1 (by decide) (by decide)
  have hlT2 : (subF es0 es1).length ≤ 200 := sub_len (Nat.le_trans hm0 (by decide)) (Nat.le_trans hm1 (by decide))
  have hkT3 : Zk 204 (mulF es0 es1) := mul_zk hk0 hk1 hm0
  have hlT3 : (mulF es0 es1).length ≤ 400 := mul_len hm0 hm1
  have hdl0 : degN es0 ≤ n0 := by have := deg_len es0; omega
  have hzc : zl cc ≤ 2 := zl_b64 hc
  have hdc := dl_zl cc
  have hkc : Zk 4 (es0.map (· * cc)) := hk0.map fun z hz => Nat.le_trans (zl_mul z cc) (by omega)
  refine wp_seq ?_
  refine region_seq ?_
  refine sv (v := .bool false) henv rfl (rn_assign henv rfl) ?_
  clear henv a; intro a henv
  refine wpList_nil ?_
  refine th_n ?_
  refine wp_seq ?_
  refine wp_seq ?_
  refine region_seq ?_
  refine seq_step rfl (op_call henv rfl Tryd.call10 rfl p20_works ?_)
  rintro e w51 ⟨rfl, hb⟩
  refine ⟨_, rfl, ?_⟩
  clear henv a; intro a henv
  replace hst := hst.call hb
  clear hb
  refine sv (v := .bool false) henv rfl (rn_un henv rfl rfl) ?_
  clear henv a; intro a henv
  refine wpList_nil ?_
  refine th_n ?_
  refine if_f henv rfl (rfl) ?_
  refine wp_skip ?_
  refine th_n ?_
  refine wp_seq ?_
  refine wp_seq ?_
  refine region_seq ?_
  revert a
  refine mA rfl rfl ?_
  refine sA (v := .int .i64 (n0 : Nat)) rfl (fun _ henv => rn_len henv Tryd.underlying22 rfl) ?_
  refine sA (v := .bool (decide (((n0 : Nat) : Int) > (200 : Int)))) rfl (fun _ henv => rn_bin henv rfl rfl rfl) ?_
  intro a henv
  rw [show (decide (((n0 : Nat) : Int) > (200 : Int))) = false from (decide_eq_false (by omega))] at henv
  revert a
  refine mA rfl rfl ?_
  refine gA (v := .slice A1 n1 c1) rfl rfl rfl rfl (fun _ henv => rn_move henv rfl) ?_
  refine gA (v := .int .i64 (n1 : Nat)) rfl rfl rfl rfl (fun _ henv => rn_len henv Tryd.underlying22 rfl) ?_
  refine gA (v := .bool (decide (((n1 : Nat) : Int) > (200 : Int)))) rfl rfl rfl rfl (fun _ henv => rn_bin henv rfl rfl rfl) ?_
  intro a henv
  rw [show (decide (((n1 : Nat) : Int) > (200 : Int))) = false from (decide_eq_false (by omega))] at henv
  refine sv (v := .bool false) henv rfl (rn_pick henv rfl rfl) ?_
  clear henv a; intro a henv
  refine wpList_nil ?_
  refine th_n ?_
  refine if_f henv rfl (rfl) ?_
  refine wp_skip ?_
  refine th_n ?_
  refine wp_seq ?_
  refine region_seq ?_
  refine sv (v := .slice A0 n0 c0) henv rfl (rn_move henv rfl) ?_
  clear henv a; intro a henv
  refine seq_step rfl (op_call henv rfl Tryd.call12 rfl (p20_list (es0 := es0) (hst.pat (k := 1) rfl) hI0 (by omega)) ?_)
  rintro e w59 ⟨_, rfl, ⟨g52, ps53, rfl, hr, hl54, hz55⟩, hb⟩
  refine ⟨_, rfl, ?_⟩
  clear henv a; intro a henv
  replace hst := hst.freshRd hb hr hl54 (ap_N hr.2.1 trivial)
  clear hr
  obtain ⟨es56, hst, hl57, hz58⟩ := hst.listRow (k := 0) (n := n0) rfl hz55 (hlen0)
  clear hb
  refine sv (v := .slice A1 n1 c1) henv rfl (rn_move henv rfl) ?_
  clear henv a; intro a henv
  refine seq_step rfl (op_call henv rfl Tryd.call12 rfl (p20_list (es0 := es1) (hst.pat (k := 2) rfl) hI1 (by omega)) ?_)
  rintro e w67 ⟨_, rfl, ⟨g60, ps61, rfl, hr, hl62, hz63⟩, hb⟩
  refine ⟨_, rfl, ?_⟩
  clear henv a; intro a henv
  replace hst := hst.freshRd hb hr hl62 (ap_N hr.2.1 trivial)
  clear hr
  obtain ⟨es64, hst, hl65, hz66⟩ := hst.listRow (k := 0) (n := n1) rfl hz63 (hlen1)
  clear hb
  revert a
  refine aA rfl rfl ?_
  refine aA rfl rfl ?_
  intro a henv
  refine wpList_nil ?_
  refine th_n ?_
  refine wp_seq ?_
  refine region_seq ?_
  revert a
  refine mA rfl rfl ?_
  refine mA rfl rfl ?_
  intro a henv
  refine seq_step rfl (op_call henv rfl Tryd.call24 rfl (p_mulN (xs := es0) (ys := es1) (hst.pat (k := 2) rfl) hz58 (hst.pat (k := 0) rfl) hz66 (hk0.mono (by decide)) (hk1.mono (by decide)) (by omega) (by omega)) ?_)
  rintro e w74 ⟨_, rfl, ⟨A68, c69, es70, rfl, hr, hl71, hz72, hn73⟩, hb⟩
  refine ⟨_, rfl, ?_⟩
  clear henv a; intro a henv
  replace hst := hst.freshRd hb hr hl71 (ap_N hr.2.1 trivial)
  clear hr
  clear hb
  revert a
  refine mA rfl rfl ?_
  refine sA (v := .slice A68 ((mulF es0 es1).length) c69) rfl (fun _ henv => rn_extract henv rfl rfl) ?_
  refine sA (v := .int .i64 (n0 * n1 : Nat)) rfl (fun _ henv => rn_extract henv rfl rfl) ?_
  refine aA rfl rfl ?_
  refine aA rfl rfl ?_
  intro a henv
  refine wpList_nil ?_
  refine th_n ?_
  refine wp_seq ?_
  refine region_seq ?_
  revert a
  refine mA rfl rfl ?_
  refine mA rfl rfl ?_
  intro a henv
  refine seq_step rfl (op_call henv rfl Tryd.call25 rfl (p_shift_big (hst.pat (k := 3) rfl) hz58 hq) ?_)
  rintro e w75 ⟨rfl, hb⟩
  refine ⟨_, rfl, ?_⟩
  clear henv a; intro a henv
  replace hst := hst.call hb
  clear hb
  revert a
  refine mA rfl rfl ?_
  refine sA (v := .slice none 0 0) rfl (fun _ henv => rn_extract henv rfl rfl) ?_
  refine sA (v := .int .i64 3) rfl (fun _ henv => rn_extract henv rfl rfl) ?_
  refine aA rfl rfl ?_
  refine aA rfl rfl ?_
  intro a henv
  refine wpList_nil ?_
  refine th_n ?_
  refine wp_seq ?_
  refine region_seq ?_
  refine sv (v := .slice A0 n0 c0) henv rfl (rn_move henv rfl) ?_
  clear henv a; intro a henv
  refine seq_step rfl (op_call henv rfl Tryd.call18 rfl (p20_ref (es0 := es0) (hst.pat (k := 6) rfl) hI0 (by omega)) ?_)
  rintro e w82 ⟨_, rfl, ⟨A76, c77, es78, rfl, hr, hl79, hz80, hn81⟩, hb⟩
  refine ⟨_, rfl, ?_⟩
  clear henv a; intro a henv
  replace hst := hst.freshRd hb hr hl79 (ap_M hr.2.1 trivial)
  clear hr
  clear hb
  refine sv (v := .slice A1 n1 c1) henv rfl (rn_move henv rfl) ?_
  clear henv a; intro a henv
  refine seq_step rfl (op_call henv rfl Tryd.call18 rfl (p20_ref (es0 := es1) (hst.pat (k := 6) rfl) hI1 (by omega)) ?_)
  rintro e w89 ⟨_, rfl, ⟨A83, c84, es85, rfl, hr, hl86, hz87, hn88⟩, hb⟩
  refine ⟨_, rfl, ?_⟩
  clear henv a; intro a henv
  replace hst := hst.freshRd hb hr hl86 (ap_M hr.2.1 trivial)
  clear hr
  clear hb
  revert a
  refine aA rfl rfl ?_
  refine aA rfl rfl ?_
  intro a henv
  refine wpList_nil ?_
  refine th_n ?_
  refine wp_seq ?_
  refine wp_seq ?_
  simp only [List.append_eq, List.cons_append, List.nil_append]
  refine region_seq ?_
  refine sv (v := .slice (some ⟨g52, 0, none⟩) n0 (n0 + 2)) henv rfl (rn_move henv rfl) ?_
  clear henv a; intro a henv
  refine seq_step rfl (op_call henv rfl Tryd.call27 rfl (p_trim (xs := es0) (hst.pat (k := 5) rfl) hz58 (by omega)) ?_)
  rintro e w96 ⟨_, rfl, ⟨A90, c91, es92, rfl, hr, hl93, hz94, hn95⟩, hb⟩
  refine ⟨_, rfl, ?_⟩
  clear henv a; intro a henv
  replace hst := hst.freshRd hb hr hl93 (ap_N hr.2.1 trivial)
  clear hr
  clear hb
  refine sv (v := .slice A76 n0 c77) henv rfl (rn_move henv rfl) ?_
  clear henv a; intro a henv
  refine seq_step rfl (op_call henv rfl Tryd.call28 rfl (r20_trim (xs := es0) (hst.pat (k := 2) rfl) hz80 (by omega)) ?_)
  rintro e w97 ⟨rfl, hb⟩
  refine ⟨_, rfl, ?_⟩
  clear henv a; intro a henv
  replace hst := hst.call hb
  replace hst := hst.preRow (i := 2) rfl (degN es0) fM_len hdl0
  clear hb
  replace hst : St w0 _ [] [pfRow fM FM 2 A76 (degN es0) c77 (es78.take (degN es0)), pfRow fN FN 2 A90 (degN es0) c91 es92, pfRow fM FM 2 A83 n1 c84 es85, pfRow fM FM 2 A76 n0 c77 es78, pfRow fN FN 2 A68 ((mulF es0 es1).length) c69 es70, pfRow fN FN 2 (some ⟨g60, 0, none⟩) n1 (n1 + 2) es64, pfRow fN FN 2 (some ⟨g60, 0, none⟩) (n1 + 2) (n1 + 2) ps61, pfRow fN FN 2 (some ⟨g52, 0, none⟩) n0 (n0 + 2) es56, pfRow fN FN 2 (some ⟨g52, 0, none⟩) (n0 + 2) (n0 + 2) ps53, pfRow fI FI 1 A1 n1 c1 es1, pfRow fI FI 1 A0 n0 c0 es0] := hst
  refine seq_step rfl (op_call henv rfl Tryd.call26 rfl (p20_is (xs := (trimN es0)) (ys := (trimN es0)) (hst.pat (k := 1) rfl) hz94 (hst.pat (k := 0) rfl) (by rw [List.map_take, hz80]; rfl) ((hk0.take (degN es0)).mono (by decide)) ((hk0.take (degN es0)).mono (by decide)) hn95) ?_)
  rintro e w98 ⟨rfl, hb⟩
  refine ⟨_, rfl, ?_⟩
  clear henv a; intro a henv
  replace hst := hst.call hb
  clear hb
  rw [show (decide (((trimN es0) : List Int) = (trimN es0))) = true from (decide_eq_true rfl)] at henv
  revert a
  refine sA (v := .bool false) rfl (fun _ henv => rn_un henv rfl rfl) ?_
  refine mA rfl rfl ?_
  refine gA (v := .slice (some ⟨g52, 0, none⟩) n0 (n0 + 2)) rfl rfl rfl rfl (fun _ henv => rn_move henv rfl) ?_
  intro a henv
  refine seq_g rfl henv rfl rfl (op_call henv rfl Tryd.call23 rfl (p_deg (xs := es0) (hst.pat (k := 7) rfl) hz58 (by omega)) ?_)
  rintro e w99 ⟨rfl, hb⟩
  refine ⟨_, rfl, ?_⟩
  clear henv a; intro a henv
  replace hst := hst.call hb
  clear hb
  refine seq_g rfl henv rfl rfl (op_val (v := .slice A76 n0 c77) henv rfl (rn_move henv rfl) ?_)
  clear henv a; intro a henv
  refine seq_g rfl henv rfl rfl (op_call henv rfl Tryd.call29 rfl (r20_deg (xs := es0) (hst.pat (k := 3) rfl) hz80 (by omega)) ?_)
  rintro e w100 ⟨rfl, hb⟩
  refine ⟨_, rfl, ?_⟩
  clear henv a; intro a henv
  replace hst := hst.call hb
  clear hb
  refine seq_g rfl henv rfl rfl (op_val (v := .bool (((degN es0 : Nat) : Int) - 1 != ((degN es0 : Nat) : Int) - 1)) henv rfl (rn_bin henv rfl rfl rfl) ?_)
  clear henv a; intro a henv
  rw [show (((degN es0 : Nat) : Int) - 1 != ((degN es0 : Nat) : Int) - 1) = false from (bne_self_eq_false _)] at henv
  revert a
  refine sA (v := .bool false) rfl (fun _ henv => rn_pick henv rfl rfl) ?_
  refine mA rfl rfl ?_
  refine gA (v := .slice (some ⟨g52, 0, none⟩) n0 (n0 + 2)) rfl rfl rfl rfl (fun _ henv => rn_move henv rfl) ?_
  refine gA (v := .slice (some ⟨g60, 0, none⟩) n1 (n1 + 2)) rfl rfl rfl rfl (fun _ henv => rn_move henv rfl) ?_
  intro a henv
  refine seq_g rfl henv rfl rfl (op_call henv rfl Tryd.call19 rfl (p_same (xs := es0) (ys := es1) (hst.pat (k := 7) rfl) hz58 (hst.pat (k := 5) rfl) hz66 (by omega) (by omega)) ?_)
  rintro e w101 ⟨rfl, hb⟩
  refine ⟨_, rfl, ?_⟩
  clear henv a; intro a henv
  replace hst := hst.call hb
  clear hb
  revert a
  refine gA (v := .slice A76 n0 c77) rfl rfl rfl rfl (fun _ henv => rn_move henv rfl) ?_
  refine gA (v := .slice A83 n1 c84) rfl rfl rfl rfl (fun _ henv => rn_move henv rfl) ?_
  intro a henv
  refine seq_g rfl henv rfl rfl (op_call henv rfl Tryd.call30 rfl (r20_same (xs := es0) (ys := es1) (hst.pat (k := 3) rfl) hz80 (hst.pat (k := 2) rfl) hz87 (by omega) (by omega)) ?_)
  rintro e w102 ⟨rfl, hb⟩
  refine ⟨_, rfl, ?_⟩
  clear henv a; intro a henv
  replace hst := hst.call hb
  clear hb
  refine seq_g rfl henv rfl rfl (op_val (v := .bool (!((decide (trimN es0 = trimN es1)) == (decide (trimN es0 = trimN es1))))) henv rfl (rn_neqb henv Tryd.underlying4 rfl rfl) ?_)
  clear henv a; intro a henv
  rw [show (!((decide (trimN es0 = trimN es1)) == (decide (trimN es0 = trimN es1)))) = false from (by rw [beq_self_eq_true]; rfl)] at henv
  revert a
  refine sA (v := .bool false) rfl (fun _ henv => rn_pick henv rfl rfl) ?_
  refine mA rfl rfl ?_
  refine gA (v := .slice (some ⟨g52, 0, none⟩) n0 (n0 + 2)) rfl rfl rfl rfl (fun _ henv => rn_move henv rfl) ?_
  refine gA (v := .slice (some ⟨g60, 0, none⟩) n1 (n1 + 2)) rfl rfl rfl rfl (fun _ henv => rn_move henv rfl) ?_
  intro a henv
  refine seq_g rfl henv rfl rfl (op_call henv rfl Tryd.call20 rfl (p_addN (xs := es0) (ys := es1) (hst.pat (k := 7) rfl) hz58 (hst.pat (k := 5) rfl) hz66 (hk0.mono (by decide)) (hk1.mono (by decide)) (by omega) (by omega)) ?_)
  rintro e w109 ⟨_, rfl, ⟨A103, c104, es105, rfl, hr, hl106, hz107, hn108⟩, hb⟩
  refine ⟨_, rfl, ?_⟩
  clear henv a; intro a henv
  replace hst := hst.freshRd hb hr hl106 (ap_N hr.2.1 trivial)
  clear hr
  clear hb
  revert a
  refine gA (v := .slice A76 n0 c77) rfl rfl rfl rfl (fun _ henv => rn_move henv rfl) ?_
  refine gA (v := .slice A83 n1 c84) rfl rfl rfl rfl (fun _ henv => rn_move henv rfl) ?_
  intro a henv
  refine seq_g rfl henv rfl rfl (op_call henv rfl Tryd.call31 rfl (r20_add (xs := es0) (ys := es1) (hst.pat (k := 4) rfl) hz80 (hst.pat (k := 3) rfl) hz87 (hk0.mono (by decide)) (hk1.mono (by decide)) (by omega) (by omega)) ?_)
  rintro e w115 ⟨_, rfl, ⟨A110, c111, es112, rfl, hr, hl113, hz114⟩, hb⟩
  refine ⟨_, rfl, ?_⟩
  clear henv a; intro a henv
  replace hst := hst.freshRd hb hr hl113 (ap_M hr.2.1 trivial)
  clear hr
  clear hb
  refine seq_g rfl henv rfl rfl (op_call henv rfl Tryd.call26 rfl (p20_is (xs := (addF es0 es1)) (ys := (addF es0 es1)) (hst.pat (k := 1) rfl) hz107 (hst.pat (k := 0) rfl) hz114 (hkT1.mono (by decide)) (hkT1.mono (by decide)) hn108) ?_)
  rintro e w116 ⟨rfl, hb⟩
  refine ⟨_, rfl, ?_⟩
  clear henv a; intro a henv
  replace hst := hst.call hb
  clear hb
  rw [show (decide (((addF es0 es1) : List Int) = (addF es0 es1))) = true from (decide_eq_true rfl)] at henv
  revert a
  refine gA (v := .bool false) rfl rfl rfl rfl (fun _ henv => rn_un henv rfl rfl) ?_
  refine sA (v := .bool false) rfl (fun _ henv => rn_pick henv rfl rfl) ?_
  refine mA rfl rfl ?_
  refine gA (v := .slice (some ⟨g52, 0, none⟩) n0 (n0 + 2)) rfl rfl rfl rfl (fun _ henv => rn_move henv rfl) ?_
  refine gA (v := .slice (some ⟨g60, 0, none⟩) n1 (n1 + 2)) rfl rfl rfl rfl (fun _ henv => rn_move henv rfl) ?_
  intro a henv
  refine seq_g rfl henv rfl rfl (op_call henv rfl Tryd.call22 rfl (p_subN (xs := es0) (ys := es1) (hst.pat (k := 9) rfl) hz58 (hst.pat (k := 7) rfl) hz66 (hk0.mono (by decide)) (hk1.mono (by decide)) (by omega) (by omega)) ?_)
  rintro e w123 ⟨_, rfl, ⟨A117, c118, es119, rfl, hr, hl120, hz121, hn122⟩, hb⟩
  refine ⟨_, rfl, ?_⟩
  clear henv a; intro a henv
  replace hst := hst.freshRd hb hr hl120 (ap_N hr.2.1 trivial)
  clear hr
  clear hb
  revert a
  refine gA (v := .slice A76 n0 c77) rfl rfl rfl rfl (fun _ henv => rn_move henv rfl) ?_
  refine gA (v := .slice A83 n1 c84) rfl rfl rfl rfl (fun _ henv => rn_move henv rfl) ?_
  intro a henv
  refine seq_g rfl henv rfl rfl (op_call henv rfl Tryd.call32 rfl (r20_sub (xs := es0) (ys := es1) (hst.pat (k := 6) rfl) hz80 (hst.pat (k := 5) rfl) hz87 (hk0.mono (by decide)) (hk1.mono (by decide)) (by omega) (by omega)) ?_)
  rintro e w129 ⟨_, rfl, ⟨A124, c125, es126, rfl, hr, hl127, hz128⟩, hb⟩
  refine ⟨_, rfl, ?_⟩
  clear henv a; intro a henv
  replace hst := hst.freshRd hb hr hl127 (ap_M hr.2.1 trivial)
  clear hr
  clear hb
  refine seq_g rfl henv rfl rfl (op_call henv rfl Tryd.call26 rfl (p20_is (xs := (subF es0 es1)) (ys := (subF es0 es1)) (hst.pat (k := 1) rfl) hz121 (hst.pat (k := 0) rfl) hz128 (hkT2.mono (by decide)) (hkT2.mono (by decide)) hn122) ?_)
  rintro e w130 ⟨rfl, hb⟩
  refine ⟨_, rfl, ?_⟩
  clear henv a; intro a henv
  replace hst := hst.call hb
  clear hb
  rw [show (decide (((subF es0 es1) : List Int) = (subF es0 es1))) = true from (decide_eq_true rfl)] at henv
  revert a
  refine gA (v := .bool false) rfl rfl rfl rfl (fun _ henv => rn_un henv rfl rfl) ?_
  refine sA (v := .bool false) rfl (fun _ henv => rn_pick henv rfl rfl) ?_
  refine mA rfl rfl ?_
  refine gA (v := .slice (some ⟨g52, 0, none⟩) n0 (n0 + 2)) rfl rfl rfl rfl (fun _ henv => rn_move henv rfl) ?_
  refine gA (v := .int .i64 cc) rfl rfl rfl rfl (fun _ henv => rn_move henv rfl) ?_
  intro a henv
  refine seq_g rfl henv rfl rfl (op_call henv rfl Tryd.call34 rfl (of_z (n := cc) (by omega) (by omega)) ?_)
  rintro e w134 ⟨_, rfl, ⟨A131, c132, rfl, hz133⟩, hb⟩
  refine ⟨_, rfl, ?_⟩
  clear henv a; intro a henv
  replace hst := (hst.call hb).addZ hz133 trivial
  clear hz133
  clear hb
  refine seq_g rfl henv rfl rfl (op_call henv rfl Tryd.call33 rfl (p_scale (xs := es0) (hst.pat (k := 12) rfl) hz58 (show ZIn _ A131 c132 cc from hst.pat (k := 0) rfl) (by omega) (hk0.mono (by decide)) (by omega)) ?_)
  rintro e w141 ⟨_, rfl, ⟨A135, c136, es137, rfl, hr, hl138, hz139, hn140⟩, hb⟩
  refine ⟨_, rfl, ?_⟩
  clear henv a; intro a henv
  replace hst := hst.freshRd hb hr hl138 (ap_N hr.2.1 trivial)
  clear hr
  clear hb
  revert a
  refine gA (v := .slice A76 n0 c77) rfl rfl rfl rfl (fun _ henv => rn_move henv rfl) ?_
  refine gA (v := .int .i64 cc) rfl rfl rfl rfl (fun _ henv => rn_move henv rfl) ?_
  intro a henv
  refine seq_g rfl henv rfl rfl (op_call henv rfl Tryd.call36 rfl (of_r (n := cc) (by omega) (by omega)) ?_)
  rintro e w145 ⟨_, rfl, ⟨A142, c143, rfl, hz144⟩, hb⟩
  refine ⟨_, rfl, ?_⟩
  clear henv a; intro a henv
  replace hst := (hst.call hb).addR hz144 trivial
  clear hz144
  clear hb
  refine seq_g rfl henv rfl rfl (op_call henv rfl Tryd.call35 rfl (r20_scale (xs := es0) (hst.pat (k := 10) rfl) hz80 (show RIn _ A142 c143 cc from hst.pat (k := 0) rfl) (by omega) (hk0.mono (by decide)) (by omega)) ?_)
  rintro e w151 ⟨_, rfl, ⟨A146, c147, es148, rfl, hr, hl149, hz150⟩, hb⟩
  refine ⟨_, rfl, ?_⟩
  clear henv a; intro a henv
  replace hst := hst.freshRd hb hr hl149 (ap_M hr.2.1 trivial)
  clear hr
  clear hb
  refine seq_g rfl henv rfl rfl (op_call henv rfl Tryd.call26 rfl (p20_is (xs := (es0.map (· * cc))) (ys := (es0.map (· * cc))) (hst.pat (k := 2) rfl) hz139 (hst.pat (k := 0) rfl) hz150 (hkc.mono (by decide)) (hkc.mono (by decide)) hn140) ?_)
  rintro e w152 ⟨rfl, hb⟩
  refine ⟨_, rfl, ?_⟩
  clear henv a; intro a henv
  replace hst := hst.call hb
  clear hb
  rw [show (decide (((es0.map (· * cc)) : List Int) = (es0.map (· * cc)))) = true from (decide_eq_true rfl)] at henv
  revert a
  refine gA (v := .bool false) rfl rfl rfl rfl (fun _ henv => rn_un henv rfl rfl) ?_
  refine sA (v := .bool false) rfl (fun _ henv => rn_pick henv rfl rfl) ?_
  refine mA rfl rfl ?_
  refine gA (v := .slice A68 ((mulF es0 es1).length) c69) rfl rfl rfl rfl (fun _ henv => rn_move henv rfl) ?_
  refine gA (v := .slice A76 n0 c77) rfl rfl rfl rfl (fun _ henv => rn_move henv rfl) ?_
  refine gA (v := .slice A83 n1 c84) rfl rfl rfl rfl (fun _ henv => rn_move henv rfl) ?_
  intro a henv
  refine seq_g rfl henv rfl rfl (op_call henv rfl Tryd.call37 rfl (r20_mul (xs := es0) (ys := es1) (hst.pat (k := 11) rfl) hz80 (hst.pat (k := 10) rfl) hz87 (hk0.mono (by decide)) (hk1.mono (by decide)) (by omega) (by omega)) ?_)
  rintro e w158 ⟨_, rfl, ⟨A153, c154, es155, rfl, hr, hl156, hz157⟩, hb⟩
  refine ⟨_, rfl, ?_⟩
  clear henv a; intro a henv
  replace hst := hst.freshRd hb hr hl156 (ap_M hr.2.1 trivial)
  clear hr
  clear hb
  refine seq_g rfl henv rfl rfl (op_call henv rfl Tryd.call26 rfl (p20_is (xs := (mulF es0 es1)) (ys := (mulF es0 es1)) (hst.pat (k := 13) rfl) hz72 (hst.pat (k := 0) rfl) hz157 (hkT3.mono (by decide)) (hkT3.mono (by decide)) hn73) ?_)
  rintro e w159 ⟨rfl, hb⟩
  refine ⟨_, rfl, ?_⟩
  clear henv a; intro a henv
  replace hst := hst.call hb
  clear hb
  rw [show (decide (((mulF es0 es1) : List Int) = (mulF es0 es1))) = true from (decide_eq_true rfl)] at henv
  revert a
  refine gA (v := .bool false) rfl rfl rfl rfl (fun _ henv => rn_un henv rfl rfl) ?_
  refine sA (v := .bool false) rfl (fun _ henv => rn_pick henv rfl rfl) ?_
  refine mA rfl rfl ?_
  refine gA (v := .int .i64 (n0 * n1 : Nat)) rfl rfl rfl rfl (fun _ henv => rn_move henv rfl) ?_
  refine gA (v := .slice A0 n0 c0) rfl rfl rfl rfl (fun _ henv => rn_move henv rfl) ?_
  refine gA (v := .int .i64 (n0 : Nat)) rfl rfl rfl rfl (fun _ henv => rn_len henv Tryd.underlying22 rfl) ?_
  refine gA (v := .slice A1 n1 c1) rfl rfl rfl rfl (fun _ henv => rn_move henv rfl) ?_
  refine gA (v := .int .i64 (n1 : Nat)) rfl rfl rfl rfl (fun _ henv => rn_len henv Tryd.underlying22 rfl) ?_
  refine gA (v := .int .i64 (n0 * n1 : Nat)) rfl rfl rfl rfl (fun _ henv => rn_mul henv rfl rfl (by have h9 := Nat.mul_le_mul hw0 hw1; rw [← Int.natCast_mul, IntWalk.i64_in _ (by omega)])) ?_
  refine gA (v := .bool (((n0 * n1 : Nat) : Int) != ((n0 * n1 : Nat) : Int))) rfl rfl rfl rfl (fun _ henv => rn_bin henv rfl rfl rfl) ?_
  intro a henv
  rw [show (((n0 * n1 : Nat) : Int) != ((n0 * n1 : Nat) : Int)) = false from (bne_self_eq_false _)] at henv
  refine sv (v := .bool false) henv rfl (rn_pick henv rfl rfl) ?_
  clear henv a; intro a henv
  refine wpList_nil ?_
  refine th_n ?_
  refine if_f henv rfl (rfl) ?_
  refine wp_skip ?_
  refine th_n ?_
  refine wp_seq ?_
  refine wp_block ?_
  refine wp_seq ?_
  refine region_seq ?_
  revert a
  refine mA rfl rfl ?_
  refine sA (v := .bool (decide (n < (0 : Int)))) rfl (fun _ henv => rn_bin henv rfl rfl rfl) ?_
  intro a henv
  rw [show (decide (n < (0 : Int))) = false from (decide_eq_false (by omega))] at henv
  refine sv (v := .bool false) henv rfl (rn_assign henv rfl) ?_
  clear henv a; intro a henv
  refine wpList_nil ?_
  refine th_n ?_
  refine if_f henv rfl (rfl) ?_
  refine wp_seq ?_
  refine region_seq ?_
  revert a
  refine mA rfl rfl ?_
  refine sA (v := .bool (decide (n > (4096 : Int)))) rfl (fun _ henv => rn_bin henv rfl rfl rfl) ?_
  intro a henv
  rw [show (decide (n > (4096 : Int))) = true from (decide_eq_true (by omega))] at henv
  refine sv (v := .bool true) henv rfl (rn_assign henv rfl) ?_
  clear henv a; intro a henv
  refine wpList_nil ?_
  refine th_n ?_
  refine if_t henv rfl (rfl) ?_
  refine wp_seq ?_
  refine region_seq ?_
  revert a
  refine mA rfl rfl ?_
  refine sA (v := .bool (!none.isNone)) rfl (fun _ henv => rn_nilN henv Tryd.underlying32 rfl) ?_
  intro a henv
  rw [show (!none.isNone) = false from rfl] at henv
  revert a
  refine mA rfl rfl ?_
  refine gA (v := .int .i64 3) rfl rfl rfl rfl (fun _ henv => rn_move henv rfl) ?_
  refine gA (v := .bool false) rfl rfl rfl rfl (fun _ henv => rn_bin henv rfl rfl rfl) ?_
  refine sA (v := .bool false) rfl (fun _ henv => rn_pick henv rfl rfl) ?_
  intro a henv
  refine wpList_nil ?_
  refine th_n ?_
  refine if_f henv rfl (rfl) ?_
  refine wp_skip ?_
  refine bl_n (th_n ?_)
  refine wp_seq ?_
  refine region_seq ?_
  refine sv (v := .slice (some ⟨g52, 0, none⟩) n0 (n0 + 2)) henv rfl (rn_move henv rfl) ?_
  clear henv a; intro a henv
  refine seq_step rfl (op_call henv rfl Tryd.call27 rfl (p_trim (xs := es0) (hst.pat (k := 16) rfl) hz58 (by omega)) ?_)
  rintro e w167 ⟨_, rfl, ⟨A160, c161, es162, rfl, hr, hl163, hz164, hn165⟩, hb⟩
  refine ⟨_, rfl, ?_⟩
  clear henv a; intro a henv
  replace hst := hst.freshRow hb hr (ap_N hr.2.1 ⟨nou_rowS, trivial⟩)
  clear hr
  clear hb
  refine sv (v := .slice A160 (degN es0) c161) henv rfl (rn_assign henv rfl) ?_
  clear henv a; intro a henv
  refine wpList_nil ?_
  refine th_n ?_
  refine wp_seq ?_
  refine wp_seq ?_
  refine region_seq ?_
  revert a
  refine mA rfl rfl ?_
  refine sA (v := .int .i64 ((degN es0) : Nat)) rfl (fun _ henv => rn_len henv Tryd.underlying32 rfl) ?_
  refine mA rfl rfl ?_
  intro a henv
  refine wpList_nil ?_
  refine th_n ?_
  refine wp_block ?_
  refine wp_loop_ghost (fun mz a w => ∃ j : Nat, ∃ qs : List NE, degN es0 - j = mz ∧ Env 172 a [(0, .slice A0 n0 c0), (1, .slice A1 n1 c1), (9, .slice (some ⟨g52, 0, none⟩) n0 (n0 + 2)), (10, .slice (some ⟨g60, 0, none⟩) n1 (n1 + 2)), (17, .slice A160 (degN es0) c161), (151, .int .i64 (degN es0 : Nat)), (152, .int .i64 (j : Nat))] ∧ St w0 w [rowS notU 28 2 A160 (degN es0) c161 (fl fN qs)] [pfRow fN FN 2 (some ⟨g60, 0, none⟩) (n1 + 2) (n1 + 2) ps61, pfRow fN FN 2 (some ⟨g52, 0, none⟩) (n0 + 2) (n0 + 2) ps53, pfRow fI FI 1 A1 n1 c1 es1, pfRow fI FI 1 A0 n0 c0 es0, pfEs FN qs] ∧ j ≤ degN es0 ∧ qs.length = degN es0) _ ⟨0, es162, rfl, henv.sub ⟨rfl, rfl, rfl, rfl, rfl, rfl, rfl, trivial⟩, hst.pick [0] [16, 18, 19, 20, 0] (by decide), (Nat.zero_le _), hl163⟩ ?_
  clear henv hst a
  rintro mz a w168 ⟨j, qs, rfl, henv, hst, hj, hpl⟩
  refine wp_seq ?_
  refine region_seq ?_
  refine sv (v := .bool (decide (((j : Nat) : Int) < ((degN es0 : Nat) : Int)))) henv rfl (rn_bin henv rfl rfl rfl) ?_
  clear henv a; intro a henv
  refine wpList_nil ?_
  refine th_n ?_
  refine wp_seq ?_
  refine if_split henv rfl (fun hc169 => ?_) (fun hc169 => ?_)
  · have hlt : j < degN es0 := by have := of_decide_eq_true hc169; omega
    refine wp_skip ?_
    refine th_n ?_
    refine wp_seq ?_
    refine wp_block ?_
    refine wp_seq ?_
    refine region_seq ?_
    revert a
    refine mA rfl rfl ?_
    refine aA rfl rfl ?_
    intro a henv
    refine wpList_nil ?_
    refine th_n ?_
    refine region_seq ?_
    revert a
    refine mA rfl rfl ?_
    refine mA rfl rfl ?_
    intro a henv
    refine seq_step rfl (op_call henv rfl Tryd.call34 rfl (of_z (n := (77 : Int)) (by omega) (by omega)) ?_)
    rintro e w173 ⟨_, rfl, ⟨A170, c171, rfl, hz172⟩, hb⟩
    refine ⟨_, rfl, ?_⟩
    clear henv a; intro a henv
    replace hst := (hst.call hb).addZ hz172 ⟨nou_rowS, trivial⟩
    clear hz172
    clear hb
    refine sv (v := .pointer (some ⟨ab A160, ao A160 + j * 2, none⟩)) henv rfl (rn_idxR (i := j) henv Tryd.underlying32 (ty_anvil_integer_Int.size) rfl rfl (by omega) rfl (rowS_rd (hst.owns (k := 0) rfl))) ?_
    clear henv a; intro a henv
    refine seq_step rfl (op_storeS (i := j) (e := (A170, c171, 77)) (k := 0) henv hst (ty_anvil_integer_Int.size) rfl rfl rfl rfl fN_len (by omega) hpl rfl rfl rfl ?_)
    clear henv hst a; intro a w174 henv hst
    replace hst := hst.setEs (e := (A170, c171, 77)) (i := 5) (j := 0) rfl rfl j
    refine wpList_nil ?_
    refine bl_n (th_n ?_)
    refine region_seq ?_
    revert a
    refine sA (v := .int .i64 (j + 1 : Nat)) rfl (fun _ henv => rn_add henv rfl rfl (by rw [IntWalk.i64_in _ (by omega)]; omega)) ?_
    refine mA rfl rfl ?_
    intro a henv
    refine wpList_nil ?_
    exact th_n ⟨_, (by omega), ⟨j + 1, (qs.set j (A170, c171, 77)), rfl, henv.sub ⟨rfl, rfl, rfl, rfl, rfl, rfl, rfl, trivial⟩, hst.pick [0] [2, 3, 4, 5, 0] (by decide), (by omega), (by rw [List.length_set]; exact hpl)⟩⟩
  · have hjn : j = degN es0 := by have := of_decide_eq_false hc169; omega
    refine wp_exit ?_
    refine th_x (th_x (bl_x (th_n ?_)))
    refine wp_seq ?_
    refine region_seq ?_
    refine sv (v := .slice A160 (degN es0) c161) henv rfl (rn_move henv rfl) ?_
    clear henv a; intro a henv
    refine seq_step rfl (op_call henv rfl Tryd.call34 rfl (of_z (n := (78 : Int)) (by omega) (by omega)) ?_)
    rintro e w178 ⟨_, rfl, ⟨A175, c176, rfl, hz177⟩, hb⟩
    refine ⟨_, rfl, ?_⟩
    clear henv a; intro a henv
    replace hst := (hst.call hb).addZ hz177 ⟨nou_rowS, trivial⟩
    clear hz177
    clear hb
    refine seq_step rfl (op_buildSlice (z := 2) (pv := #[(0, .agg #[.bool (neg 78), .slice A175 (zl 78) c176])]) (c := #[.bool (neg 78), .slice A175 (zl 78) c176]) henv hst rfl Tryd.underlying32 (ty_anvil_integer_Int.size) zero_anvil_integer_Int (by decide) (by decide) rfl (by kernel_rfl) ?_)
    clear henv hst a; intro a w180 g179 henv hst
    refine seq_step rfl (op_appendS (k := 1) (j := 0) henv hst rfl Tryd.underlying32 inf_anvil_integer_Int rfl rfl rfl rfl rfl rfl rfl rfl rfl rfl rfl (by unfold maxLen; omega) (by omega) ?_)
    clear henv hst a; intro a w183 g181 c182 henv hst
    rw [show fl fN qs ++ (#[.bool (neg 78), .slice A175 (zl 78) c176] : Array Value).toList = fl fN (qs ++ [(A175, c176, 78)]) from fl_snoc (f := fN) qs (A175, c176, 78)] at hst
    replace hst := hst.snocEs (e := (A175, c176, 78)) (i := 5) (j := 0) rfl rfl
    refine wpList_nil ?_
    refine th_n ?_
    refine wp_seq ?_
    refine region_seq ?_
    revert a
    refine mA rfl rfl ?_
    refine mA rfl rfl ?_
    intro a henv
    refine seq_step rfl (op_call henv rfl Tryd.call39 rfl (k_kept (hst.pat (k := 3) rfl) hz55 (hst.pat (k := 5) rfl) hI0 (by omega)) ?_)
    rintro e w184 ⟨rfl, hb⟩
    refine ⟨_, rfl, ?_⟩
    clear henv a; intro a henv
    replace hst := hst.call hb
    clear hb
    revert a
    refine mA rfl rfl ?_
    refine gA (v := .slice (some ⟨g60, 0, none⟩) n1 (n1 + 2)) rfl rfl rfl rfl (fun _ henv => rn_move henv rfl) ?_
    refine gA (v := .slice A1 n1 c1) rfl rfl rfl rfl (fun _ henv => rn_move henv rfl) ?_
    intro a henv
    refine seq_g rfl henv rfl rfl (op_call henv rfl Tryd.call39 rfl (k_kept (hst.pat (k := 2) rfl) hz63 (hst.pat (k := 4) rfl) hI1 (by omega)) ?_)
    rintro e w185 ⟨rfl, hb⟩
    refine ⟨_, rfl, ?_⟩
    clear henv a; intro a henv
    replace hst := hst.call hb
    clear hb
    revert a
    refine sA (v := .bool true) rfl (fun _ henv => rn_pick henv rfl rfl) ?_
    refine aA rfl rfl ?_
    intro a henv
    refine wpList_nil ?_
    refine th_n ?_
    refine wp_ret ?_
    refine leave henv (res1 Tryd.results5 (RV.tmp henv rfl)) ?_
    exact ⟨rfl, hst.below⟩
set_option maxRecDepth 100000 in
set_option maxHeartbeats 8000000 in
theorem preckons_ok {A0 A1 : Option Addr} {n0 c0 n1 c1 : Nat} {es0 es1 : List Int} {cc : Int} {k : Nat} {w0 : World} (h0 : (pfRow fI FI 1 A0 n0 c0 es0).P w0) (hI0 : I64 es0) (h1 : (pfRow fI FI 1 A1 n1 c1 es1).P w0) (hI1 : I64 es1) (hc : -9223372036854775808 ≤ cc ∧ cc ≤ 9223372036854775807) (hw0 : n0 ≤ 200) (hw1 : n1 ≤ 200) (hq : k ≤ 4096) :
    Calls Tryd.prog 5 #[.slice A0 n0 c0, .slice A1 n1 c1, .int .i64 cc, .int .i64 (k : Nat)] w0 fun e w' => e = .returned (.bool true) ∧ Below w0.heap.size w0 w' := by
  refine enter Tryd.func5 rfl Tryd.ntmps5 rfl ?_
  intro a henv hst
  have hlen0 := h0.2.1
  have hbig0 := Nat.le_trans h0.1.cap h0.1.big
  unfold maxLen at hbig0
  have hlen1 := h1.2.1
  have hbig1 := Nat.le_trans h1.1.cap h1.1.big
  unfold maxLen at hbig1
  replace hst := hst.argRow h0
  replace hst := hst.argRow h1
  clear h0 h1
  have hk0 : Zk 2 es0 := i64_zk hI0
  have hk1 : Zk 2 es1 := i64_zk hI1
  have hm0 : es0.length ≤ 200 := by omega
  have hm1 : es1.length ≤ 200 := by omega
  have hkT1 : Zk 3 (addF es0 es1) := add_zk hk0 hk1 (by decide) (by decide)
  have hlT1 : (addF es0 es1).length ≤ 200 := add_len (Nat.le_trans hm0 (by decide)) (Nat.le_trans hm1 (by decide))
  have hkT2 : Zk 3 (subF es0 es1) := sub_zk hk0 hk1 (by decide) (by decide)
  have hlT2 : (subF es0 es1).length ≤ 200 := sub_len (Nat.le_trans hm0 (by decide)) (Nat.le_trans hm1 (by decide))
  have hkT3 : Zk 204 (mulF es0 es1) := mul_zk hk0 hk1 hm0
  have hlT3 : (mulF es0 es1).length ≤ 400 := mul_len hm0 hm1
  have hdl0 : degN es0 ≤ n0 := by have := deg_len es0; omega
  have hzc : zl cc ≤ 2 := zl_b64 hc
  have hdc := dl_zl cc
  have hkc : Zk 4 (es0.map (· * cc)) := hk0.map fun z hz => Nat.le_trans (zl_mul z cc) (by omega)
  refine wp_seq ?_
  refine region_seq ?_
  refine sv (v := .bool false) henv rfl (rn_assign henv rfl) ?_
  clear henv a; intro a henv
  refine wpList_nil ?_
  refine th_n ?_
  refine wp_seq ?_
  refine wp_seq ?_
  refine region_seq ?_
  refine seq_step rfl (op_call henv rfl Tryd.call10 rfl p20_works ?_)
  rintro e w51 ⟨rfl, hb⟩
  refine ⟨_, rfl, ?_⟩
  clear henv a; intro a henv
  replace hst := hst.call hb
  clear hb
  refine sv (v := .bool false) henv rfl (rn_un henv rfl rfl) ?_
  clear henv a; intro a henv
  refine wpList_nil ?_
  refine th_n ?_
  refine if_f henv rfl (rfl) ?_
  refine wp_skip ?_
  refine th_n ?_
  refine wp_seq ?_
  refine wp_seq ?_
  refine region_seq ?_
  revert a
  refine mA rfl rfl ?_
  refine sA (v := .int .i64 (n0 : Nat)) rfl (fun _ henv => rn_len henv Tryd.underlying22 rfl) ?_
  refine sA (v := .bool (decide (((n0 : Nat) : Int) > (200 : Int)))) rfl (fun _ henv => rn_bin henv rfl rfl rfl) ?_
  intro a henv
  rw [show (decide (((n0 : Nat) : Int) > (200 : Int))) = false from (decide_eq_false (by omega))] at henv
  revert a
  refine mA rfl rfl ?_
  refine gA (v := .slice A1 n1 c1) rfl rfl rfl rfl (fun _ henv => rn_move henv rfl) ?_
  refine gA (v := .int .i64 (n1 : Nat)) rfl rfl rfl rfl (fun _ henv => rn_len henv Tryd.underlying22 rfl) ?_
  refine gA (v := .bool (decide (((n1 : Nat) : Int) > (200 : Int)))) rfl rfl rfl rfl (fun _ henv => rn_bin henv rfl rfl rfl) ?_
  intro a henv
  rw [show (decide (((n1 : Nat) : Int) > (200 : Int))) = false from (decide_eq_false (by omega))] at henv
  refine sv (v := .bool false) henv rfl (rn_pick henv rfl rfl) ?_
  clear henv a; intro a henv
  refine wpList_nil ?_
  refine th_n ?_
  refine if_f henv rfl (rfl) ?_
  refine wp_skip ?_
  refine th_n ?_
  refine wp_seq ?_
  refine region_seq ?_
  refine sv (v := .slice A0 n0 c0) henv rfl (rn_move henv rfl) ?_
  clear henv a; intro a henv
  refine seq_step rfl (op_call henv rfl Tryd.call12 rfl (p20_list (es0 := es0) (hst.pat (k := 1) rfl) hI0 (by omega)) ?_)
  rintro e w59 ⟨_, rfl, ⟨g52, ps53, rfl, hr, hl54, hz55⟩, hb⟩
  refine ⟨_, rfl, ?_⟩
  clear henv a; intro a henv
  replace hst := hst.freshRd hb hr hl54 (ap_N hr.2.1 trivial)
  clear hr
  obtain ⟨es56, hst, hl57, hz58⟩ := hst.listRow (k := 0) (n := n0) rfl hz55 (hlen0)
  clear hb
  refine sv (v := .slice A1 n1 c1) henv rfl (rn_move henv rfl) ?_
  clear henv a; intro a henv
  refine seq_step rfl (op_call henv rfl Tryd.call12 rfl (p20_list (es0 := es1) (hst.pat (k := 2) rfl) hI1 (by omega)) ?_)
  rintro e w67 ⟨_, rfl, ⟨g60, ps61, rfl, hr, hl62, hz63⟩, hb⟩
  refine ⟨_, rfl, ?_⟩
  clear henv a; intro a henv
  replace hst := hst.freshRd hb hr hl62 (ap_N hr.2.1 trivial)
  clear hr
  obtain ⟨es64, hst, hl65, hz66⟩ := hst.listRow (k := 0) (n := n1) rfl hz63 (hlen1)
  clear hb
  revert a
  refine aA rfl rfl ?_
  refine aA rfl rfl ?_
  intro a henv
  refine wpList_nil ?_
  refine th_n ?_
  refine wp_seq ?_
  refine region_seq ?_
  revert a
  refine mA rfl rfl ?_
  refine mA rfl rfl ?_
  intro a henv
  refine seq_step rfl (op_call henv rfl Tryd.call24 rfl (p_mulN (xs := es0) (ys := es1) (hst.pat (k := 2) rfl) hz58 (hst.pat (k := 0) rfl) hz66 (hk0.mono (by decide)) (hk1.mono (by decide)) (by omega) (by omega)) ?_)
  rintro e w74 ⟨_, rfl, ⟨A68, c69, es70, rfl, hr, hl71, hz72, hn73⟩, hb⟩
  refine ⟨_, rfl, ?_⟩
  clear henv a; intro a henv
  replace hst := hst.freshRd hb hr hl71 (ap_N hr.2.1 trivial)
  clear hr
  clear hb
  revert a
  refine mA rfl rfl ?_
  refine sA (v := .slice A68 ((mulF es0 es1).length) c69) rfl (fun _ henv => rn_extract henv rfl rfl) ?_
  refine sA (v := .int .i64 (n0 * n1 : Nat)) rfl (fun _ henv => rn_extract henv rfl rfl) ?_
  refine aA rfl rfl ?_
  refine aA rfl rfl ?_
  intro a henv
  refine wpList_nil ?_
  refine th_n ?_
  refine wp_seq ?_
  refine region_seq ?_
  revert a
  refine mA rfl rfl ?_
  refine mA rfl rfl ?_
  intro a henv
  refine seq_step rfl (op_call henv rfl Tryd.call25 rfl (p_shift (n := k) (hst.pat (k := 3) rfl) hz58 (by omega) (by omega)) ?_)
  rintro e w81 ⟨_, rfl, ⟨A75, c76, es77, rfl, hr, hl78, hz79, hn80⟩, hb⟩
  refine ⟨_, rfl, ?_⟩
  clear henv a; intro a henv
  replace hst := hst.freshRd hb hr hl78 (ap_N hr.2.1 trivial)
  clear hr
  clear hb
  revert a
  refine mA rfl rfl ?_
  refine sA (v := .slice A75 (k + n0) c76) rfl (fun _ henv => rn_extract henv rfl rfl) ?_
  refine sA (v := .int .i64 0) rfl (fun _ henv => rn_extract henv rfl rfl) ?_
  refine aA rfl rfl ?_
  refine aA rfl rfl ?_
  intro a henv
  refine wpList_nil ?_
  refine th_n ?_
  refine wp_seq ?_
  refine region_seq ?_
  refine sv (v := .slice A0 n0 c0) henv rfl (rn_move henv rfl) ?_
  clear henv a; intro a henv
  refine seq_step rfl (op_call henv rfl Tryd.call18 rfl (p20_ref (es0 := es0) (hst.pat (k := 7) rfl) hI0 (by omega)) ?_)
  rintro e w88 ⟨_, rfl, ⟨A82, c83, es84, rfl, hr, hl85, hz86, hn87⟩, hb⟩
  refine ⟨_, rfl, ?_⟩
  clear henv a; intro a henv
  replace hst := hst.freshRd hb hr hl85 (ap_M hr.2.1 trivial)
  clear hr
  clear hb
  refine sv (v := .slice A1 n1 c1) henv rfl (rn_move henv rfl) ?_
  clear henv a; intro a henv
  refine seq_step rfl (op_call henv rfl Tryd.call18 rfl (p20_ref (es0 := es1) (hst.pat (k := 7) rfl) hI1 (by omega)) ?_)
  rintro e w95 ⟨_, rfl, ⟨A89, c90, es91, rfl, hr, hl92, hz93, hn94⟩, hb⟩
  refine ⟨_, rfl, ?_⟩
  clear henv a; intro a henv
  replace hst := hst.freshRd hb hr hl92 (ap_M hr.2.1 trivial)
  clear hr
  clear hb
  revert a
  refine aA rfl rfl ?_
  refine aA rfl rfl ?_
  intro a henv
  refine wpList_nil ?_
  refine th_n ?_
  refine wp_seq ?_
  refine wp_seq ?_
  simp only [List.append_eq, List.cons_append, List.nil_append]
  refine region_seq ?_
  refine sv (v := .slice (some ⟨g52, 0, none⟩) n0 (n0 + 2)) henv rfl (rn_move henv rfl) ?_
  clear henv a; intro a henv
  refine seq_step rfl (op_call henv rfl Tryd.call27 rfl (p_trim (xs := es0) (hst.pat (k := 6) rfl) hz58 (by omega)) ?_)
  rintro e w102 ⟨_, rfl, ⟨A96, c97, es98, rfl, hr, hl99, hz100, hn101⟩, hb⟩
  refine ⟨_, rfl, ?_⟩
  clear henv a; intro a henv
  replace hst := hst.freshRd hb hr hl99 (ap_N hr.2.1 trivial)
  clear hr
  clear hb
  refine sv (v := .slice A82 n0 c83) henv rfl (rn_move henv rfl) ?_
  clear henv a; intro a henv
  refine seq_step rfl (op_call henv rfl Tryd.call28 rfl (r20_trim (xs := es0) (hst.pat (k := 2) rfl) hz86 (by omega)) ?_)
  rintro e w103 ⟨rfl, hb⟩
  refine ⟨_, rfl, ?_⟩
  clear henv a; intro a henv
  replace hst := hst.call hb
  replace hst := hst.preRow (i := 2) rfl (degN es0) fM_len hdl0
  clear hb
  replace hst : St w0 _ [] [pfRow fM FM 2 A82 (degN es0) c83 (es84.take (degN es0)), pfRow fN FN 2 A96 (degN es0) c97 es98, pfRow fM FM 2 A89 n1 c90 es91, pfRow fM FM 2 A82 n0 c83 es84, pfRow fN FN 2 A75 (k + n0) c76 es77, pfRow fN FN 2 A68 ((mulF es0 es1).length) c69 es70, pfRow fN FN 2 (some ⟨g60, 0, none⟩) n1 (n1 + 2) es64, pfRow fN FN 2 (some ⟨g60, 0, none⟩) (n1 + 2) (n1 + 2) ps61, pfRow fN FN 2 (some ⟨g52, 0, none⟩) n0 (n0 + 2) es56, pfRow fN FN 2 (some ⟨g52, 0, none⟩) (n0 + 2) (n0 + 2) ps53, pfRow fI FI 1 A1 n1 c1 es1, pfRow fI FI 1 A0 n0 c0 es0] := hst
  refine seq_step rfl (op_call henv rfl Tryd.call26 rfl (p20_is (xs := (trimN es0)) (ys := (trimN es0)) (hst.pat (k := 1) rfl) hz100 (hst.pat (k := 0) rfl) (by rw [List.map_take, hz86]; rfl) ((hk0.take (degN es0)).mono (by decide)) ((hk0.take (degN es0)).mono (by decide)) hn101) ?_)
  rintro e w104 ⟨rfl, hb⟩
  refine ⟨_, rfl, ?_⟩
  clear henv a; intro a henv
  replace hst := hst.call hb
  clear hb
  rw [show (decide (((trimN es0) : List Int) = (trimN es0))) = true from (decide_eq_true rfl)] at henv
  revert a
  refine sA (v := .bool false) rfl (fun _ henv => rn_un henv rfl rfl) ?_
  refine mA rfl rfl ?_
  refine gA (v := .slice (some ⟨g52, 0, none⟩) n0 (n0 + 2)) rfl rfl rfl rfl (fun _ henv => rn_move henv rfl) ?_
  intro a henv
  refine seq_g rfl henv rfl rfl (op_call henv rfl Tryd.call23 rfl (p_deg (xs := es0) (hst.pat (k := 8) rfl) hz58 (by omega)) ?_)
  rintro e w105 ⟨rfl, hb⟩
  refine ⟨_, rfl, ?_⟩
  clear henv a; intro a henv
  replace hst := hst.call hb
  clear hb
  refine seq_g rfl henv rfl rfl (op_val (v := .slice A82 n0 c83) henv rfl (rn_move henv rfl) ?_)
  clear henv a; intro a henv
  refine seq_g rfl henv rfl rfl (op_call henv rfl Tryd.call29 rfl (r20_deg (xs := es0) (hst.pat (k := 3) rfl) hz86 (by omega)) ?_)
  rintro e w106 ⟨rfl, hb⟩
  refine ⟨_, rfl, ?_⟩
  clear henv a; intro a henv
  replace hst := hst.call hb
  clear hb
  refine seq_g rfl henv rfl rfl (op_val (v := .bool (((degN es0 : Nat) : Int) - 1 != ((degN es0 : Nat) : Int) - 1)) henv rfl (rn_bin henv rfl rfl rfl) ?_)
  clear henv a; intro a henv
  rw [show (((degN es0 : Nat) : Int) - 1 != ((degN es0 : Nat) : Int) - 1) = false from (bne_self_eq_false _)] at henv
  revert a
  refine sA (v := .bool false) rfl (fun _ henv => rn_pick henv rfl rfl) ?_
  refine mA rfl rfl ?_
  refine gA (v := .slice (some ⟨g52, 0, none⟩) n0 (n0 + 2)) rfl rfl rfl rfl (fun _ henv => rn_move henv rfl) ?_
  refine gA (v := .slice (some ⟨g60, 0, none⟩) n1 (n1 + 2)) rfl rfl rfl rfl (fun _ henv => rn_move henv rfl) ?_
  intro a henv
  refine seq_g rfl henv rfl rfl (op_call henv rfl Tryd.call19 rfl (p_same (xs := es0) (ys := es1) (hst.pat (k := 8) rfl) hz58 (hst.pat (k := 6) rfl) hz66 (by omega) (by omega)) ?_)
  rintro e w107 ⟨rfl, hb⟩
  refine ⟨_, rfl, ?_⟩
  clear henv a; intro a henv
  replace hst := hst.call hb
  clear hb
  revert a
  refine gA (v := .slice A82 n0 c83) rfl rfl rfl rfl (fun _ henv => rn_move henv rfl) ?_
  refine gA (v := .slice A89 n1 c90) rfl rfl rfl rfl (fun _ henv => rn_move henv rfl) ?_
  intro a henv
  refine seq_g rfl henv rfl rfl (op_call henv rfl Tryd.call30 rfl (r20_same (xs := es0) (ys := es1) (hst.pat (k := 3) rfl) hz86 (hst.pat (k := 2) rfl) hz93 (by omega) (by omega)) ?_)
  rintro e w108 ⟨rfl, hb⟩
  refine ⟨_, rfl, ?_⟩
  clear henv a; intro a henv
  replace hst := hst.call hb
  clear hb
  refine seq_g rfl henv rfl rfl (op_val (v := .bool (!((decide (trimN es0 = trimN es1)) == (decide (trimN es0 = trimN es1))))) henv rfl (rn_neqb henv Tryd.underlying4 rfl rfl) ?_)
  clear henv a; intro a henv
  rw [show (!((decide (trimN es0 = trimN es1)) == (decide (trimN es0 = trimN es1)))) = false from (by rw [beq_self_eq_true]; rfl)] at henv
  revert a
  refine sA (v := .bool false) rfl (fun _ henv => rn_pick henv rfl rfl) ?_
  refine mA rfl rfl ?_
  refine gA (v := .slice (some ⟨g52, 0, none⟩) n0 (n0 + 2)) rfl rfl rfl rfl (fun _ henv => rn_move henv rfl) ?_
  refine gA (v := .slice (some ⟨g60, 0, none⟩) n1 (n1 + 2)) rfl rfl rfl rfl (fun _ henv => rn_move henv rfl) ?_
  intro a henv
  refine seq_g rfl henv rfl rfl (op_call henv rfl Tryd.call20 rfl (p_addN (xs := es0) (ys := es1) (hst.pat (k := 8) rfl) hz58 (hst.pat (k := 6) rfl) hz66 (hk0.mono (by decide)) (hk1.mono (by decide)) (by omega) (by omega)) ?_)
  rintro e w115 ⟨_, rfl, ⟨A109, c110, es111, rfl, hr, hl112, hz113, hn114⟩, hb⟩
  refine ⟨_, rfl, ?_⟩
  clear henv a; intro a henv
  replace hst := hst.freshRd hb hr hl112 (ap_N hr.2.1 trivial)
  clear hr
  clear hb
  revert a
  refine gA (v := .slice A82 n0 c83) rfl rfl rfl rfl (fun _ henv => rn_move henv rfl) ?_
  refine gA (v := .slice A89 n1 c90) rfl rfl rfl rfl (fun _ henv => rn_move henv rfl) ?_
  intro a henv
  refine seq_g rfl henv rfl rfl (op_call henv rfl Tryd.call31 rfl (r20_add (xs := es0) (ys := es1) (hst.pat (k := 4) rfl) hz86 (hst.pat (k := 3) rfl) hz93 (hk0.mono (by decide)) (hk1.mono (by decide)) (by omega) (by omega)) ?_)
  rintro e w121 ⟨_, rfl, ⟨A116, c117, es118, rfl, hr, hl119, hz120⟩, hb⟩
  refine ⟨_, rfl, ?_⟩
  clear henv a; intro a henv
  replace hst := hst.freshRd hb hr hl119 (ap_M hr.2.1 trivial)
  clear hr
  clear hb
  refine seq_g rfl henv rfl rfl (op_call henv rfl Tryd.call26 rfl (p20_is (xs := (addF es0 es1)) (ys := (addF es0 es1)) (hst.pat (k := 1) rfl) hz113 (hst.pat (k := 0) rfl) hz120 (hkT1.mono (by decide)) (hkT1.mono (by decide)) hn114) ?_)
  rintro e w122 ⟨rfl, hb⟩
  refine ⟨_, rfl, ?_⟩
  clear henv a; intro a henv
  replace hst := hst.call hb
  clear hb
  rw [show (decide (((addF es0 es1) : List Int) = (addF es0 es1))) = true from (decide_eq_true rfl)] at henv
  revert a
  refine gA (v := .bool false) rfl rfl rfl rfl (fun _ henv => rn_un henv rfl rfl) ?_
  refine sA (v := .bool false) rfl (fun _ henv => rn_pick henv rfl rfl) ?_
  refine mA rfl rfl ?_
  refine gA (v := .slice (some ⟨g52, 0, none⟩) n0 (n0 + 2)) rfl rfl rfl rfl (fun _ henv => rn_move henv rfl) ?_
  refine gA (v := .slice (some ⟨g60, 0, none⟩) n1 (n1 + 2)) rfl rfl rfl rfl (fun _ henv => rn_move henv rfl) ?_
  intro a henv
  refine seq_g rfl henv rfl rfl (op_call henv rfl Tryd.call22 rfl (p_subN (xs := es0) (ys := es1) (hst.pat (k := 10) rfl) hz58 (hst.pat (k := 8) rfl) hz66 (hk0.mono (by decide)) (hk1.mono (by decide)) (by omega) (by omega)) ?_)
  rintro e w129 ⟨_, rfl, ⟨A123, c124, es125, rfl, hr, hl126, hz127, hn128⟩, hb⟩
  refine ⟨_, rfl, ?_⟩
  clear henv a; intro a henv
  replace hst := hst.freshRd hb hr hl126 (ap_N hr.2.1 trivial)
  clear hr
  clear hb
  revert a
  refine gA (v := .slice A82 n0 c83) rfl rfl rfl rfl (fun _ henv => rn_move henv rfl) ?_
  refine gA (v := .slice A89 n1 c90) rfl rfl rfl rfl (fun _ henv => rn_move henv rfl) ?_
  intro a henv
  refine seq_g rfl henv rfl rfl (op_call henv rfl Tryd.call32 rfl (r20_sub (xs := es0) (ys := es1) (hst.pat (k := 6) rfl) hz86 (hst.pat (k := 5) rfl) hz93 (hk0.mono (by decide)) (hk1.mono (by decide)) (by omega) (by omega)) ?_)
  rintro e w135 ⟨_, rfl, ⟨A130, c131, es132, rfl, hr, hl133, hz134⟩, hb⟩
  refine ⟨_, rfl, ?_⟩
  clear henv a; intro a henv
  replace hst := hst.freshRd hb hr hl133 (ap_M hr.2.1 trivial)
  clear hr
  clear hb
  refine seq_g rfl henv rfl rfl (op_call henv rfl Tryd.call26 rfl (p20_is (xs := (subF es0 es1)) (ys := (subF es0 es1)) (hst.pat (k := 1) rfl) hz127 (hst.pat (k := 0) rfl) hz134 (hkT2.mono (by decide)) (hkT2.mono (by decide)) hn128) ?_)
  rintro e w136 ⟨rfl, hb⟩
  refine ⟨_, rfl, ?_⟩
  clear henv a; intro a henv
  replace hst := hst.call hb
  clear hb
  rw [show (decide (((subF es0 es1) : List Int) = (subF es0 es1))) = true from (decide_eq_true rfl)] at henv
  revert a
  refine gA (v := .bool false) rfl rfl rfl rfl (fun _ henv => rn_un henv rfl rfl) ?_
  refine sA (v := .bool false) rfl (fun _ henv => rn_pick henv rfl rfl) ?_
  refine mA rfl rfl ?_
  refine gA (v := .slice (some ⟨g52, 0, none⟩) n0 (n0 + 2)) rfl rfl rfl rfl (fun _ henv => rn_move henv rfl) ?_
  refine gA (v := .int .i64 cc) rfl rfl rfl rfl (fun _ henv => rn_move henv rfl) ?_
  intro a henv
  refine seq_g rfl henv rfl rfl (op_call henv rfl Tryd.call34 rfl (of_z (n := cc) (by omega) (by omega)) ?_)
  rintro e w140 ⟨_, rfl, ⟨A137, c138, rfl, hz139⟩, hb⟩
  refine ⟨_, rfl, ?_⟩
  clear henv a; intro a henv
  replace hst := (hst.call hb).addZ hz139 trivial
  clear hz139
  clear hb
  refine seq_g rfl henv rfl rfl (op_call henv rfl Tryd.call33 rfl (p_scale (xs := es0) (hst.pat (k := 13) rfl) hz58 (show ZIn _ A137 c138 cc from hst.pat (k := 0) rfl) (by omega) (hk0.mono (by decide)) (by omega)) ?_)
  rintro e w147 ⟨_, rfl, ⟨A141, c142, es143, rfl, hr, hl144, hz145, hn146⟩, hb⟩
  refine ⟨_, rfl, ?_⟩
  clear henv a; intro a henv
  replace hst := hst.freshRd hb hr hl144 (ap_N hr.2.1 trivial)
  clear hr
  clear hb
  revert a
  refine gA (v := .slice A82 n0 c83) rfl rfl rfl rfl (fun _ henv => rn_move henv rfl) ?_
  refine gA (v := .int .i64 cc) rfl rfl rfl rfl (fun _ henv => rn_move henv rfl) ?_
  intro a henv
  refine seq_g rfl henv rfl rfl (op_call henv rfl Tryd.call36 rfl (of_r (n := cc) (by omega) (by omega)) ?_)
  rintro e w151 ⟨_, rfl, ⟨A148, c149, rfl, hz150⟩, hb⟩
  refine ⟨_, rfl, ?_⟩
  clear henv a; intro a henv
  replace hst := (hst.call hb).addR hz150 trivial
  clear hz150
  clear hb
  refine seq_g rfl henv rfl rfl (op_call henv rfl Tryd.call35 rfl (r20_scale (xs := es0) (hst.pat (k := 10) rfl) hz86 (show RIn _ A148 c149 cc from hst.pat (k := 0) rfl) (by omega) (hk0.mono (by decide)) (by omega)) ?_)
  rintro e w157 ⟨_, rfl, ⟨A152, c153, es154, rfl, hr, hl155, hz156⟩, hb⟩
  refine ⟨_, rfl, ?_⟩
  clear henv a; intro a henv
  replace hst := hst.freshRd hb hr hl155 (ap_M hr.2.1 trivial)
  clear hr
  clear hb
  refine seq_g rfl henv rfl rfl (op_call henv rfl Tryd.call26 rfl (p20_is (xs := (es0.map (· * cc))) (ys := (es0.map (· * cc))) (hst.pat (k := 2) rfl) hz145 (hst.pat (k := 0) rfl) hz156 (hkc.mono (by decide)) (hkc.mono (by decide)) hn146) ?_)
  rintro e w158 ⟨rfl, hb⟩
  refine ⟨_, rfl, ?_⟩
  clear henv a; intro a henv
  replace hst := hst.call hb
  clear hb
  rw [show (decide (((es0.map (· * cc)) : List Int) = (es0.map (· * cc)))) = true from (decide_eq_true rfl)] at henv
  revert a
  refine gA (v := .bool false) rfl rfl rfl rfl (fun _ henv => rn_un henv rfl rfl) ?_
  refine sA (v := .bool false) rfl (fun _ henv => rn_pick henv rfl rfl) ?_
  refine mA rfl rfl ?_
  refine gA (v := .slice A68 ((mulF es0 es1).length) c69) rfl rfl rfl rfl (fun _ henv => rn_move henv rfl) ?_
  refine gA (v := .slice A82 n0 c83) rfl rfl rfl rfl (fun _ henv => rn_move henv rfl) ?_
  refine gA (v := .slice A89 n1 c90) rfl rfl rfl rfl (fun _ henv => rn_move henv rfl) ?_
  intro a henv
  refine seq_g rfl henv rfl rfl (op_call henv rfl Tryd.call37 rfl (r20_mul (xs := es0) (ys := es1) (hst.pat (k := 11) rfl) hz86 (hst.pat (k := 10) rfl) hz93 (hk0.mono (by decide)) (hk1.mono (by decide)) (by omega) (by omega)) ?_)
  rintro e w164 ⟨_, rfl, ⟨A159, c160, es161, rfl, hr, hl162, hz163⟩, hb⟩
  refine ⟨_, rfl, ?_⟩
  clear henv a; intro a henv
  replace hst := hst.freshRd hb hr hl162 (ap_M hr.2.1 trivial)
  clear hr
  clear hb
  refine seq_g rfl henv rfl rfl (op_call henv rfl Tryd.call26 rfl (p20_is (xs := (mulF es0 es1)) (ys := (mulF es0 es1)) (hst.pat (k := 14) rfl) hz72 (hst.pat (k := 0) rfl) hz163 (hkT3.mono (by decide)) (hkT3.mono (by decide)) hn73) ?_)
  rintro e w165 ⟨rfl, hb⟩
  refine ⟨_, rfl, ?_⟩
  clear henv a; intro a henv
  replace hst := hst.call hb
  clear hb
  rw [show (decide (((mulF es0 es1) : List Int) = (mulF es0 es1))) = true from (decide_eq_true rfl)] at henv
  revert a
  refine gA (v := .bool false) rfl rfl rfl rfl (fun _ henv => rn_un henv rfl rfl) ?_
  refine sA (v := .bool false) rfl (fun _ henv => rn_pick henv rfl rfl) ?_
  refine mA rfl rfl ?_
  refine gA (v := .int .i64 (n0 * n1 : Nat)) rfl rfl rfl rfl (fun _ henv => rn_move henv rfl) ?_
  refine gA (v := .slice A0 n0 c0) rfl rfl rfl rfl (fun _ henv => rn_move henv rfl) ?_
  refine gA (v := .int .i64 (n0 : Nat)) rfl rfl rfl rfl (fun _ henv => rn_len henv Tryd.underlying22 rfl) ?_
  refine gA (v := .slice A1 n1 c1) rfl rfl rfl rfl (fun _ henv => rn_move henv rfl) ?_
  refine gA (v := .int .i64 (n1 : Nat)) rfl rfl rfl rfl (fun _ henv => rn_len henv Tryd.underlying22 rfl) ?_
  refine gA (v := .int .i64 (n0 * n1 : Nat)) rfl rfl rfl rfl (fun _ henv => rn_mul henv rfl rfl (by have h9 := Nat.mul_le_mul hw0 hw1; rw [← Int.natCast_mul, IntWalk.i64_in _ (by omega)])) ?_
  refine gA (v := .bool (((n0 * n1 : Nat) : Int) != ((n0 * n1 : Nat) : Int))) rfl rfl rfl rfl (fun _ henv => rn_bin henv rfl rfl rfl) ?_
  intro a henv
  rw [show (((n0 * n1 : Nat) : Int) != ((n0 * n1 : Nat) : Int)) = false from (bne_self_eq_false _)] at henv
  refine sv (v := .bool false) henv rfl (rn_pick henv rfl rfl) ?_
  clear henv a; intro a henv
  refine wpList_nil ?_
  refine th_n ?_
  refine if_f henv rfl (rfl) ?_
  refine wp_skip ?_
  refine th_n ?_
  refine wp_seq ?_
  refine wp_block ?_
  refine wp_seq ?_
  refine region_seq ?_
  revert a
  refine mA rfl rfl ?_
  refine sA (v := .bool (decide (((k : Nat) : Int) < (0 : Int)))) rfl (fun _ henv => rn_bin henv rfl rfl rfl) ?_
  intro a henv
  rw [show (decide (((k : Nat) : Int) < (0 : Int))) = false from (decide_eq_false (by omega))] at henv
  refine sv (v := .bool false) henv rfl (rn_assign henv rfl) ?_
  clear henv a; intro a henv
  refine wpList_nil ?_
  refine th_n ?_
  refine if_f henv rfl (rfl) ?_
  refine wp_seq ?_
  refine region_seq ?_
  revert a
  refine mA rfl rfl ?_
  refine sA (v := .bool (decide (((k : Nat) : Int) > (4096 : Int)))) rfl (fun _ henv => rn_bin henv rfl rfl rfl) ?_
  intro a henv
  rw [show (decide (((k : Nat) : Int) > (4096 : Int))) = false from (decide_eq_false (by omega))] at henv
  refine sv (v := .bool false) henv rfl (rn_assign henv rfl) ?_
  clear henv a; intro a henv
  refine wpList_nil ?_
  refine th_n ?_
  refine if_f henv rfl (rfl) ?_
  refine wp_seq ?_
  refine region_seq ?_
  revert a
  refine mA rfl rfl ?_
  refine mA rfl rfl ?_
  refine mA rfl rfl ?_
  intro a henv
  refine seq_step rfl (op_call henv rfl Tryd.call38 rfl (r20_shift (xs := es0) (n := k) (hst.pat (k := 12) rfl) hz86 (by omega) (by omega)) ?_)
  rintro e w171 ⟨_, rfl, ⟨A166, c167, es168, rfl, hr, hl169, hz170⟩, hb⟩
  refine ⟨_, rfl, ?_⟩
  clear henv a; intro a henv
  replace hst := hst.freshRd hb hr hl169 (ap_M hr.2.1 trivial)
  clear hr
  clear hb
  refine seq_step rfl (op_call henv rfl Tryd.call26 rfl (p20_is (xs := (List.replicate k 0 ++ es0)) (ys := (List.replicate k 0 ++ es0)) (hst.pat (k := 14) rfl) hz79 (hst.pat (k := 0) rfl) hz170 ((zk_zeros (n := k) hk0).mono (by decide)) ((zk_zeros (n := k) hk0).mono (by decide)) hn80) ?_)
  rintro e w172 ⟨rfl, hb⟩
  refine ⟨_, rfl, ?_⟩
  clear henv a; intro a henv
  replace hst := hst.call hb
  clear hb
  rw [show (decide (((List.replicate k 0 ++ es0) : List Int) = (List.replicate k 0 ++ es0))) = true from (decide_eq_true rfl)] at henv
  revert a
  refine sA (v := .bool false) rfl (fun _ henv => rn_un henv rfl rfl) ?_
  refine mA rfl rfl ?_
  refine gA (v := .int .i64 0) rfl rfl rfl rfl (fun _ henv => rn_move henv rfl) ?_
  refine gA (v := .bool false) rfl rfl rfl rfl (fun _ henv => rn_bin henv rfl rfl rfl) ?_
  refine sA (v := .bool false) rfl (fun _ henv => rn_pick henv rfl rfl) ?_
  intro a henv
  refine wpList_nil ?_
  refine th_n ?_
  refine if_f henv rfl (rfl) ?_
  refine wp_skip ?_
  refine bl_n (th_n ?_)
  refine wp_seq ?_
  refine region_seq ?_
  refine sv (v := .slice (some ⟨g52, 0, none⟩) n0 (n0 + 2)) henv rfl (rn_move henv rfl) ?_
  clear henv a; intro a henv
  refine seq_step rfl (op_call henv rfl Tryd.call27 rfl (p_trim (xs := es0) (hst.pat (k := 18) rfl) hz58 (by omega)) ?_)
  rintro e w180 ⟨_, rfl, ⟨A173, c174, es175, rfl, hr, hl176, hz177, hn178⟩, hb⟩
  refine ⟨_, rfl, ?_⟩
  clear henv a; intro a henv
  replace hst := hst.freshRow hb hr (ap_N hr.2.1 ⟨nou_rowS, trivial⟩)
  clear hr
  clear hb
  refine sv (v := .slice A173 (degN es0) c174) henv rfl (rn_assign henv rfl) ?_
  clear henv a; intro a henv
  refine wpList_nil ?_
  refine th_n ?_
  refine wp_seq ?_
  refine wp_seq ?_
  refine region_seq ?_
  revert a
  refine mA rfl rfl ?_
  refine sA (v := .int .i64 ((degN es0) : Nat)) rfl (fun _ henv => rn_len henv Tryd.underlying32 rfl) ?_
  refine mA rfl rfl ?_
  intro a henv
  refine wpList_nil ?_
  refine th_n ?_
  refine wp_block ?_
  refine wp_loop_ghost (fun mz a w => ∃ j : Nat, ∃ qs : List NE, degN es0 - j = mz ∧ Env 172 a [(0, .slice A0 n0 c0), (1, .slice A1 n1 c1), (9, .slice (some ⟨g52, 0, none⟩) n0 (n0 + 2)), (10, .slice (some ⟨g60, 0, none⟩) n1 (n1 + 2)), (17, .slice A173 (degN es0) c174), (151, .int .i64 (degN es0 : Nat)), (152, .int .i64 (j : Nat))] ∧ St w0 w [rowS notU 28 2 A173 (degN es0) c174 (fl fN qs)] [pfRow fN FN 2 (some ⟨g60, 0, none⟩) (n1 + 2) (n1 + 2) ps61, pfRow fN FN 2 (some ⟨g52, 0, none⟩) (n0 + 2) (n0 + 2) ps53, pfRow fI FI 1 A1 n1 c1 es1, pfRow fI FI 1 A0 n0 c0 es0, pfEs FN qs] ∧ j ≤ degN es0 ∧ qs.length = degN es0) _ ⟨0, es175, rfl, henv.sub ⟨rfl, rfl, rfl, rfl, rfl, rfl, rfl, trivial⟩, hst.pick [0] [18, 20, 21, 22, 0] (by decide), (Nat.zero_le _), hl176⟩ ?_
  clear henv hst a
  rintro mz a w181 ⟨j, qs, rfl, henv, hst, hj, hpl⟩
  refine wp_seq ?_
  refine region_seq ?_
  refine sv (v := .bool (decide (((j : Nat) : Int) < ((degN es0 : Nat) : Int)))) henv rfl (rn_bin henv rfl rfl rfl) ?_
  clear henv a; intro a henv
  refine wpList_nil ?_
  refine th_n ?_
  refine wp_seq ?_
  refine if_split henv rfl (fun hc182 => ?_) (fun hc182 => ?_)
  · have hlt : j < degN es0 := by have := of_decide_eq_true hc182; omega
    refine wp_skip ?_
    refine th_n ?_
    refine wp_seq ?_
    refine wp_block ?_
    refine wp_seq ?_
    refine region_seq ?_
    revert a
    refine mA rfl rfl ?_
    refine aA rfl rfl ?_
    intro a henv
    refine wpList_nil ?_
    refine th_n ?_
    refine region_seq ?_
    revert a
    refine mA rfl rfl ?_
    refine mA rfl rfl ?_
    intro a henv
    refine seq_step rfl (op_call henv rfl Tryd.call34 rfl (of_z (n := (77 : Int)) (by omega) (by omega)) ?_)
    rintro e w186 ⟨_, rfl, ⟨A183, c184, rfl, hz185⟩, hb⟩
    refine ⟨_, rfl, ?_⟩
    clear henv a; intro a henv
    replace hst := (hst.call hb).addZ hz185 ⟨nou_rowS, trivial⟩
    clear hz185
    clear hb
    refine sv (v := .pointer (some ⟨ab A173, ao A173 + j * 2, none⟩)) henv rfl (rn_idxR (i := j) henv Tryd.underlying32 (ty_anvil_integer_Int.size) rfl rfl (by omega) rfl (rowS_rd (hst.owns (k := 0) rfl))) ?_
    clear henv a; intro a henv
    refine seq_step rfl (op_storeS (i := j) (e := (A183, c184, 77)) (k := 0) henv hst (ty_anvil_integer_Int.size) rfl rfl rfl rfl fN_len (by omega) hpl rfl rfl rfl ?_)
    clear henv hst a; intro a w187 henv hst
    replace hst := hst.setEs (e := (A183, c184, 77)) (i := 5) (j := 0) rfl rfl j
    refine wpList_nil ?_
    refine bl_n (th_n ?_)
    refine region_seq ?_
    revert a
    refine sA (v := .int .i64 (j + 1 : Nat)) rfl (fun _ henv => rn_add henv rfl rfl (by rw [IntWalk.i64_in _ (by omega)]; omega)) ?_
    refine mA rfl rfl ?_
    intro a henv
    refine wpList_nil ?_
    exact th_n ⟨_, (by omega), ⟨j + 1, (qs.set j (A183, c184, 77)), rfl, henv.sub ⟨rfl, rfl, rfl, rfl, rfl, rfl, rfl, trivial⟩, hst.pick [0] [2, 3, 4, 5, 0] (by decide), (by omega), (by rw [List.length_set]; exact hpl)⟩⟩
  · have hjn : j = degN es0 := by have := of_decide_eq_false hc182; omega
    refine wp_exit ?_
    refine th_x (th_x (bl_x (th_n ?_)))
    refine wp_seq ?_
    refine region_seq ?_
    refine sv (v := .slice A173 (degN es0) c174) henv rfl (rn_move henv rfl) ?_
    clear henv a; intro a henv
    refine seq_step rfl (op_call henv rfl Tryd.call34 rfl (of_z (n := (78 : Int)) (by omega) (by omega)) ?_)
    rintro e w191 ⟨_, rfl, ⟨A188, c189, rfl, hz190⟩, hb⟩
    refine ⟨_, rfl, ?_⟩
    clear henv a; intro a henv
    replace hst := (hst.call hb).addZ hz190 ⟨nou_rowS, trivial⟩
    clear hz190
    clear hb
    refine seq_step rfl (op_buildSlice (z := 2) (pv := #[(0, .agg #[.bool (neg 78), .slice A188 (zl 78) c189])]) (c := #[.bool (neg 78), .slice A188 (zl 78) c189]) henv hst rfl Tryd.underlying32 (ty_anvil_integer_Int.size) zero_anvil_integer_Int (by decide) (by decide) rfl (by kernel_rfl) ?_)
    clear henv hst a; intro a w193 g192 henv hst
    refine seq_step rfl (op_appendS (k := 1) (j := 0) henv hst rfl Tryd.underlying32 inf_anvil_integer_Int rfl rfl rfl rfl rfl rfl rfl rfl rfl rfl rfl (by unfold maxLen; omega) (by omega) ?_)
    clear henv hst a; intro a w196 g194 c195 henv hst
    rw [show fl fN qs ++ (#[.bool (neg 78), .slice A188 (zl 78) c189] : Array Value).toList = fl fN (qs ++ [(A188, c189, 78)]) from fl_snoc (f := fN) qs (A188, c189, 78)] at hst
    replace hst := hst.snocEs (e := (A188, c189, 78)) (i := 5) (j := 0) rfl rfl
    refine wpList_nil ?_
    refine th_n ?_
    refine wp_seq ?_
    refine region_seq ?_
    revert a
    refine mA rfl rfl ?_
    refine mA rfl rfl ?_
    intro a henv
    refine seq_step rfl (op_call henv rfl Tryd.call39 rfl (k_kept (hst.pat (k := 3) rfl) hz55 (hst.pat (k := 5) rfl) hI0 (by omega)) ?_)
    rintro e w197 ⟨rfl, hb⟩
    refine ⟨_, rfl, ?_⟩
    clear henv a; intro a henv
    replace hst := hst.call hb
    clear hb
    revert a
    refine mA rfl rfl ?_
    refine gA (v := .slice (some ⟨g60, 0, none⟩) n1 (n1 + 2)) rfl rfl rfl rfl (fun _ henv => rn_move henv rfl) ?_
    refine gA (v := .slice A1 n1 c1) rfl rfl rfl rfl (fun _ henv => rn_move henv rfl) ?_
    intro a henv
    refine seq_g rfl henv rfl rfl (op_call henv rfl Tryd.call39 rfl (k_kept (hst.pat (k := 2) rfl) hz63 (hst.pat (k := 4) rfl) hI1 (by omega)) ?_)
    rintro e w198 ⟨rfl, hb⟩
    refine ⟨_, rfl, ?_⟩
    clear henv a; intro a henv
    replace hst := hst.call hb
    clear hb
    revert a
    refine sA (v := .bool true) rfl (fun _ henv => rn_pick henv rfl rfl) ?_
    refine aA rfl rfl ?_
    intro a henv
    refine wpList_nil ?_
    refine th_n ?_
    refine wp_ret ?_
    refine leave henv (res1 Tryd.results5 (RV.tmp henv rfl)) ?_
    exact ⟨rfl, hst.below⟩
theorem preckons_law {A0 A1 : Option Addr} {n0 c0 n1 c1 : Nat} {es0 es1 : List Int} {cc n : Int} {w0 : World} (h0 : (pfRow fI FI 1 A0 n0 c0 es0).P w0) (hI0 : I64 es0) (h1 : (pfRow fI FI 1 A1 n1 c1 es1).P w0) (hI1 : I64 es1) (hc : -9223372036854775808 ≤ cc ∧ cc ≤ 9223372036854775807) (_hb : -9223372036854775808 ≤ n ∧ n ≤ 9223372036854775807) :
    Calls Tryd.prog 5 #[.slice A0 n0 c0, .slice A1 n1 c1, .int .i64 cc, .int .i64 n] w0 fun e w' => e = .returned (.bool true) ∧ Below w0.heap.size w0 w' := by
  rcases Nat.lt_or_ge 200 n0 with a0 | a0
  · exact preckons_w0 h0 hI0 h1 hI1 hc a0
  rcases Nat.lt_or_ge 200 n1 with a1 | a1
  · exact preckons_w1 h0 hI0 h1 hI1 hc a0 a1
  rcases Int.lt_or_le n 0 with b0 | b0
  · exact preckons_neg h0 hI0 h1 hI1 hc a0 a1 b0
  rcases Int.lt_or_le 4096 n with b1 | b1
  · exact preckons_big h0 hI0 h1 hI1 hc a0 a1 b1
  · obtain ⟨k, rfl⟩ := Int.eq_ofNat_of_zero_le b0
    exact preckons_ok h0 hI0 h1 hI1 hc a0 a1 (by omega)
end Go.Proofs.YtghaenkacjgdnaaDoor.W
