/- Package row: what its functions leave. Printed by pv/gen_row.py. No condition. -/
import Derived.Test.YtegglooojlheoaaDoorM34
import Derived.Test.YtegglooojlheoaaDoorM11
import Derived.Test.YtegglooojlheoaaDoorM43

namespace Go.Proofs.YtegglooojlheoaaDoor.W
open Go.RowKit Anv Go.Lib
set_option maxRecDepth 100000 in
set_option maxHeartbeats 1000000 in
theorem row_of {A0 : Option Addr} {n0 c0 : Nat} {es0 : List Int} {w0 : World} (h0 : (pfRow fI FI 1 A0 n0 c0 es0).P w0) (hI : I64 es0) (hn : n0 ≤ 100000000) :
    Calls Tryd.prog 39 #[.slice A0 n0 c0] w0 fun e w' => ∃ v, e = .returned v ∧ ZRow w0.heap.size w' v n0 es0 ∧ Below w0.heap.size w0 w' := by
  refine enter Tryd.func39 rfl Tryd.ntmps39 rfl ?_
  intro a henv hst
  have hlen0 := h0.2.1
  have hbig0 := Nat.le_trans h0.1.cap h0.1.big
  unfold maxLen at hbig0
  replace hst := hst.argRow h0
  clear h0
  refine wp_seq ?_
  refine region_seq ?_
  refine sv (v := .slice none 0 0) henv rfl (rn_assign henv rfl) ?_
  clear henv a; intro a henv
  refine wpList_nil ?_
  refine th_n ?_
  refine wp_seq ?_
  refine region_seq ?_
  refine sv (v := .slice none 0 0) henv rfl (rn_assign henv rfl) ?_
  clear henv a; intro a henv
  refine wpList_nil ?_
  refine th_n ?_
  refine wp_seq ?_
  refine wp_seq ?_
  refine region_seq ?_
  revert a
  refine mA rfl rfl ?_
  refine sA (v := .int .i64 (n0 : Nat)) rfl (fun _ henv => rn_len henv Tryd.underlying59 rfl) ?_
  refine mA rfl rfl ?_
  intro a henv
  refine wpList_nil ?_
  refine th_n ?_
  refine wp_block ?_
  replace hst := (hst.addRowS notU 36 2).nilEs FN
  replace hst : St w0 _ [rowS notU 36 2 none 0 0 (fl fN ([]))] [pfEs FN ([]), pfRow fI FI 1 A0 n0 c0 es0] := hst
  refine wp_loop_ghost (fun mz a w => ∃ j : Nat, ∃ B : Option Addr, ∃ d : Nat, ∃ os : List NE, n0 - j = mz ∧ Env 19 a [(6, .slice A0 n0 c0), (7, .int .i64 (n0 : Nat)), (8, .int .i64 (j : Nat)), (3, .slice B j d)] ∧ St w0 w [rowS notU 36 2 B j d (fl fN os)] [pfRow fI FI 1 A0 n0 c0 es0, pfEs FN os] ∧ j ≤ n0 ∧ os.map zz = es0.take j) _ ⟨0, none, 0, [], rfl, henv.sub ⟨rfl, rfl, rfl, rfl, trivial⟩, hst.pick [0] [1, 0] (by decide), (Nat.zero_le _), rfl⟩ ?_
  clear henv hst a
  rintro mz a w1 ⟨j, B, d, os, rfl, henv, hst, hj, ho⟩
  refine wp_seq ?_
  refine region_seq ?_
  refine sv (v := .bool (decide (((j : Nat) : Int) < ((n0 : Nat) : Int)))) henv rfl (rn_bin henv rfl rfl rfl) ?_
  clear henv a; intro a henv
  refine wpList_nil ?_
  refine th_n ?_
  refine wp_seq ?_
  refine if_split henv rfl (fun hc2 => ?_) (fun hc2 => ?_)
  · have hlt : j < n0 := by have := of_decide_eq_true hc2; omega
    obtain ⟨x, he0⟩ : ∃ x, es0[j]? = some x := ⟨_, List.getElem?_eq_getElem (by omega)⟩
    have hx := hI.at he0
    refine wp_skip ?_
    refine th_n ?_
    refine wp_seq ?_
    refine wp_block ?_
    refine wp_seq ?_
    refine region_seq ?_
    revert a
    refine sA (v := .pointer (some ⟨ab A0, ao A0 + j * 1, none⟩)) rfl (fun _ henv => rn_idxR (i := j) henv Tryd.underlying59 (ty_int64.size) rfl rfl (by omega) rfl (show (pfRow fI FI 1 A0 n0 c0 es0).P _ from (hst.pat (k := 0) rfl)).1) ?_
    refine sA (v := .int .i64 x) rfl (fun _ henv => rn_loadE1 (i := j) (j := 0) (e := x) henv ty_int64 rfl rfl fI_len (by decide) (show (pfRow fI FI 1 A0 n0 c0 es0).P _ from (hst.pat (k := 0) rfl)).1 (by omega) he0 rfl) ?_
    refine aA rfl rfl ?_
    intro a henv
    refine wpList_nil ?_
    refine th_n ?_
    refine region_seq ?_
    revert a
    refine mA rfl rfl ?_
    refine mA rfl rfl ?_
    intro a henv
    refine seq_step rfl (op_call henv rfl Tryd.call43 rfl (of_z (n := x) (by omega) (by omega)) ?_)
    rintro e w6 ⟨_, rfl, ⟨A3, c4, rfl, hz5⟩, hb⟩
    refine ⟨_, rfl, ?_⟩
    clear henv a; intro a henv
    replace hst := (hst.call hb).addZ hz5 ⟨nou_rowS, trivial⟩
    clear hz5
    clear hb
    refine seq_step rfl (op_buildSlice (z := 2) (pv := #[(0, .agg #[.bool (neg x), .slice A3 (zl x) c4])]) (c := #[.bool (neg x), .slice A3 (zl x) c4]) henv hst rfl Tryd.underlying30 (ty_anvil_integer_Int.size) zero_anvil_integer_Int (by decide) (by decide) rfl (by kernel_rfl) ?_)
    clear henv hst a; intro a w8 g7 henv hst
    refine seq_step rfl (op_appendS (k := 1) (j := 0) henv hst rfl Tryd.underlying30 inf_anvil_integer_Int rfl rfl rfl rfl rfl rfl rfl rfl rfl rfl rfl (by unfold maxLen; omega) (by omega) ?_)
    clear henv hst a; intro a w11 g9 c10 henv hst
    rw [show fl fN os ++ (#[.bool (neg x), .slice A3 (zl x) c4] : Array Value).toList = fl fN (os ++ [(A3, c4, x)]) from fl_snoc (f := fN) os (A3, c4, x)] at hst
    replace hst := hst.snocEs (e := (A3, c4, x)) (i := 2) (j := 0) rfl rfl
    refine sv (v := .slice (some ⟨g9, 0, none⟩) (j + 1) c10) henv rfl (rn_assign henv rfl) ?_
    clear henv a; intro a henv
    refine wpList_nil ?_
    refine bl_n (th_n ?_)
    refine region_seq ?_
    revert a
    refine sA (v := .int .i64 (j + 1 : Nat)) rfl (fun _ henv => rn_add henv rfl rfl (by rw [IntWalk.i64_in _ (by omega)]; omega)) ?_
    refine mA rfl rfl ?_
    intro a henv
    refine wpList_nil ?_
    exact th_n ⟨_, (by omega), ⟨j + 1, (some ⟨g9, 0, none⟩), c10, (os ++ [(A3, c4, x)]), rfl, henv.sub ⟨rfl, rfl, rfl, rfl, trivial⟩, hst.pick [1] [2, 0] (by decide), (by omega), (step_ints ho he0)⟩⟩
  · obtain rfl : j = n0 := by have := of_decide_eq_false hc2; omega
    refine wp_exit ?_
    refine th_x (th_x (bl_x (th_n ?_)))
    refine wp_seq ?_
    refine region_seq ?_
    revert a
    refine mA rfl rfl ?_
    refine aA rfl rfl ?_
    intro a henv
    refine wpList_nil ?_
    refine th_n ?_
    refine wp_ret ?_
    refine leave henv (res1 Tryd.results39 (RV.tmp henv rfl)) ?_
    exact ⟨_, rfl, ⟨_, _, os, rfl, hst.newRow (k := 0) (j := 1) rfl rfl, map_len ho (by rw [List.length_take]; omega), (ho.trans (List.take_of_length_le (by omega)))⟩, hst.below⟩
set_option maxRecDepth 100000 in
set_option maxHeartbeats 1000000 in
theorem row_both1 {E X Y : PF} {f : FuncId} {first caps : Array Value} {g : Int → Int → Int} {A0 A1 : Option Addr} {n0 c0 c1 : Nat} {es0 es1 : List NE} {w0 w1 : World} {A B : Option Addr} {c d : Nat} {z y : Int} {kb fb bb j : Nat} (hX : NoU X) (hS : St w0 w1 [X, bk kb #[.int .i64 ((j : Int) - 1)] 3, bk fb #[.func (.func f) first caps] 143, bk bb #[.slice A1 n0 c1] 30] [pfZ A c z, Y, pfRow fN FN 2 A0 n0 c0 es0, E, pfRow fN FN 2 A1 n0 c1 es1]) (hj : j < n0) (hn : n0 ≤ 100000000) (he0 : es0[j]? = some (A, c, z)) (he1 : es1[j]? = some (B, d, y)) (hcf : ∀ args w, (callFunc f args).run Tryd.prog w = .ok (.enter f args) w) (hf : ∀ (i : Nat) (A : Option Addr) (c : Nat) (z : Int) (B : Option Addr) (d : Nat) (y : Int) (w : World), es0[i]? = some (A, c, z) → es1[i]? = some (B, d, y) → E.P w → ZIn w A c z → ZIn w B d y → Calls Tryd.prog f (first ++ #[.agg #[.bool (neg z), .slice A (zl z) c], .agg #[.bool (neg y), .slice B (zl y) d]] ++ caps) w fun e w' => ∃ v, e = .returned v ∧ ZAt w' v (g z y) ∧ Below w.heap.size w w') :
    Calls Tryd.prog 137 #[.agg #[.bool (neg z), .slice A (zl z) c], .pointer (some ⟨kb, 0, none⟩), .pointer (some ⟨fb, 0, none⟩), .pointer (some ⟨bb, 0, none⟩)] w1 fun e w' => ∃ (A' : Option Addr) (c' : Nat), e = .returned (.agg #[.bool (neg (g z y)), .slice A' (zl (g z y)) c']) ∧ St w0 w' [X, bk kb #[.int .i64 (j : Nat)] 3, bk fb #[.func (.func f) first caps] 143, bk bb #[.slice A1 n0 c1] 30] [pfZ A' c' (g z y), Y, pfRow fN FN 2 A0 n0 c0 es0, E, pfRow fN FN 2 A1 n0 c1 es1] := by
  refine enter Tryd.func137 rfl Tryd.ntmps137 rfl ?_
  intro a henv hst
  clear hst
  have hst := hS
  clear hS
  replace hst := hst.elem (k := 4) rfl he1
  replace hst : St w0 _ [X, bk kb #[.int .i64 ((j : Int) - 1)] 3, bk fb #[.func (.func f) first caps] 143, bk bb #[.slice A1 n0 c1] 30] [pfZ B d y, pfZ A c z, Y, pfRow fN FN 2 A0 n0 c0 es0, E, pfRow fN FN 2 A1 n0 c1 es1] := hst
  refine wp_seq ?_
  refine region_seq ?_
  refine seq_step rfl (op_box (c := #[.bool (neg z), .slice A (zl z) c]) henv hst rfl rfl rfl ?_)
  clear henv hst a; intro a w2 g1 henv hst
  refine seq_step rfl (op_alloc (c := #[.bool (neg 0), .slice none (zl 0) 0]) henv hst rfl zero_anvil_integer_Int zcells ?_)
  clear henv hst a; intro a w4 g3 henv hst
  refine wpList_nil ?_
  refine th_n ?_
  refine wp_seq ?_
  refine region_seq ?_
  revert a
  refine sA (v := .int .i64 ((j : Int) - 1)) rfl (fun _ henv => rn_load1 henv ty_int rfl (hst.oat (k := 3) rfl) rfl) ?_
  refine sA (v := .int .i64 (j : Nat)) rfl (fun _ henv => rn_add henv rfl rfl (by rw [IntWalk.i64_in _ (by omega)]; omega)) ?_
  intro a henv
  refine seq_step rfl (op_store1 (k := 3) (c' := #[.int .i64 (j : Nat)]) henv hst (ty_int.size) rfl rfl rfl (by simp) rfl rfl ?_)
  clear henv hst a; intro a w5 henv hst
  refine wpList_nil ?_
  refine th_n ?_
  refine wp_seq ?_
  refine region_any (n := 8) (Sk [bk g1 #[.bool (neg z), .slice A (zl z) c] 36, X, bk kb #[.int .i64 (j : Nat)] 3, bk fb #[.func (.func f) first caps] 143, bk bb #[.slice A1 n0 c1] 30] [pfZ B d y, pfZ A c z, Y, pfRow fN FN 2 A0 n0 c0 es0, E, pfRow fN FN 2 A1 n0 c1 es1] [7] []) mixed rfl henv hst ?_
  clear henv hst; intro w6 henv hst
  refine sAny_take (i := 0) [6, 7] (fun w' => w'.heap[fb]? = some (.cells #[.func (.func f) first caps] 143 (0, 0))) (v := .func (.func f) first caps) rfl (by kernel_rfl) (fun _ _ _ h => h) (fun _ _ _ hS => hS.1.oat (k := 3) rfl) henv rfl (hst.oat (k := 4) rfl) (fun w' hg => rn_load1 henv ty_func_integer_Int_integer_Int_integer_Int rfl hg rfl) ?_
  clear henv a; intro a henv
  refine tL (i := 1) 0 1 [6, 7] rfl (by kernel_rfl) (fun _ _ _ h => h) henv rfl ty_anvil_integer_Int rfl hst rfl rfl rfl ?_
  clear henv a; intro a henv
  refine sAny_take (i := 2) [4, 5, 6, 7] (fun w' => w'.heap[bb]? = some (.cells #[.slice A1 n0 c1] 30 (0, 0))) (v := .slice A1 n0 c1) rfl (by kernel_rfl) (fun _ _ _ h => h) (fun _ _ _ hS => hS.1.oat (k := 4) rfl) henv rfl (hst.oat (k := 5) rfl) (fun w' hg => rn_load1 henv ty__integer_Int rfl hg rfl) ?_
  clear henv a; intro a henv
  refine sAny_take (i := 3) [4, 5, 6, 7] (fun w' => w'.heap[kb]? = some (.cells #[.int .i64 (j : Nat)] 3 (0, 0))) (v := .int .i64 (j : Nat)) rfl (by kernel_rfl) (fun _ _ _ h => h) (fun _ _ _ hS => hS.1.oat (k := 2) rfl) henv rfl (hst.oat (k := 3) rfl) (fun w' hg => rn_load1 henv ty_int rfl hg rfl) ?_
  clear henv a; intro a henv
  refine sAny_take (i := 4) [5, 6, 7] (fun w' => (pfRow fN FN 2 A1 n0 c1 es1).P w') (v := .pointer (some ⟨ab A1, ao A1 + j * 2, none⟩)) rfl (by kernel_rfl) (fun _ _ _ h => h) (fun _ _ _ hS => hS.1.pat (k := 5) rfl) henv rfl (hst.pat (k := 5) rfl) (fun w' hg => rn_idxR (i := j) henv Tryd.underlying30 (ty_anvil_integer_Int.size) rfl rfl (by omega) rfl (show (pfRow fN FN 2 A1 n0 c1 es1).P _ from hg).1) ?_
  clear henv a; intro a henv
  refine sAny_take (i := 5) [6, 7] (fun w' => (pfRow fN FN 2 A1 n0 c1 es1).P w') (v := .agg #[.bool (neg y), .slice B (zl y) d]) rfl (by kernel_rfl) (fun _ _ _ h => h) (fun _ _ _ hS => hS.1.pat (k := 5) rfl) henv rfl (hst.pat (k := 5) rfl) (fun w' hg => rn_loadE (i := j) (e := (B, d, y)) henv ty_anvil_integer_Int rfl rfl fN_len (show (pfRow fN FN 2 A1 n0 c1 es1).P _ from hg).1 (by omega) he1 rfl) ?_
  clear henv a; intro a henv
  refine sAny_one (i := 6) (by kernel_rfl) rfl rfl (op_callc (vs := #[.agg #[.bool (neg z), .slice A (zl z) c], .agg #[.bool (neg y), .slice B (zl y) d]]) henv rfl hcf rfl rfl (hf j _ _ _ _ _ _ _ he0 he1 (hst.pat (k := 4) rfl) (show ZIn _ A c z from hst.pat (k := 1) rfl) (show ZIn _ B d y from hst.pat (k := 0) rfl)) ?_)
  rintro e w10 ⟨_, rfl, ⟨A7, c8, rfl, hz9⟩, hb⟩
  refine ⟨_, rfl, ?_⟩
  clear henv a; intro a henv
  replace hst := (hst.call hb).addZ hz9 ⟨nou_bk rfl, nou_bk rfl, hX, nou_bk rfl, nou_bk rfl, nou_bk rfl, trivial⟩
  clear hz9
  clear hb
  refine ⟨.inr ⟨hst.kn.pick (rg 1 5) (rg 1 6), .inr (hst.kn.pick [] [])⟩, ?_⟩
  refine sAny_one (i := 7) (by kernel_rfl) rfl rfl (op_store (k := 0) (c' := #[.bool (neg (g z y)), .slice A7 (zl (g z y)) c8]) henv hst (ty_anvil_integer_Int.size) rfl rfl rfl rfl (by simp) rfl rfl ?_)
  clear henv hst a; intro a w11 henv hst
  refine ⟨.inr ⟨hst.kn.pick (rg 1 5) (rg 1 6), .inl rfl⟩, ?_⟩
  refine sAny_done (by kernel_rfl) ?_ _
  refine th_n ?_
  refine wp_ret ?_
  refine leave henv (res1 Tryd.results137 (RV.cell henv ty_anvil_integer_Int rfl (hst.oat (k := 0) rfl) rfl)) ?_
  exact ⟨_, _, rfl, hst.pick [2, 3, 4, 5] [0, 3, 4, 5, 6] (by decide)⟩
set_option maxRecDepth 100000 in
set_option maxHeartbeats 1000000 in
theorem row_eachb {E : PF} {f : FuncId} {first caps : Array Value} {g : Int → Int → Int} {A0 A1 : Option Addr} {n0 c0 c1 : Nat} {es0 es1 : List NE} {w0 w1 : World} {kb fb bb : Nat} (hS : St w0 w1 [bk kb #[.int .i64 (-1)] 3, bk fb #[.func (.func f) first caps] 143, bk bb #[.slice A1 n0 c1] 30] [pfRow fN FN 2 A0 n0 c0 es0, E, pfRow fN FN 2 A1 n0 c1 es1]) (hn : n0 ≤ 100000000) (hcf : ∀ args w, (callFunc f args).run Tryd.prog w = .ok (.enter f args) w) (hf : ∀ (i : Nat) (A : Option Addr) (c : Nat) (z : Int) (B : Option Addr) (d : Nat) (y : Int) (w : World), es0[i]? = some (A, c, z) → es1[i]? = some (B, d, y) → E.P w → ZIn w A c z → ZIn w B d y → Calls Tryd.prog f (first ++ #[.agg #[.bool (neg z), .slice A (zl z) c], .agg #[.bool (neg y), .slice B (zl y) d]] ++ caps) w fun e w' => ∃ v, e = .returned v ∧ ZAt w' v (g z y) ∧ Below w.heap.size w w') :
    Calls Tryd.prog 102 #[.slice A0 n0 c0, .func (.func 137) #[] #[.pointer (some ⟨kb, 0, none⟩), .pointer (some ⟨fb, 0, none⟩), .pointer (some ⟨bb, 0, none⟩)]] w1 fun e w' => ∃ (A : Option Addr) (c : Nat) (es : List NE), e = .returned (.slice A n0 c) ∧ St w0 w' [rowS notU 36 2 A n0 c (fl fN es), bk kb #[.int .i64 ((n0 : Int) - 1)] 3, bk fb #[.func (.func f) first caps] 143, bk bb #[.slice A1 n0 c1] 30] [pfEs FN es, pfRow fN FN 2 A0 n0 c0 es0, E, pfRow fN FN 2 A1 n0 c1 es1] ∧ es.length = n0 ∧ es.map zz = List.zipWith g (es0.map zz) (es1.map zz) := by
  refine enter Tryd.func102 rfl Tryd.ntmps102 rfl ?_
  intro a henv hst
  have hlen0 := (show (pfRow fN FN 2 A0 n0 c0 es0).P w1 from hS.pat (k := 0) rfl).2.1
  have hlen1 := (show (pfRow fN FN 2 A1 n0 c1 es1).P w1 from hS.pat (k := 2) rfl).2.1
  clear hst
  have hst := hS
  clear hS
  refine wp_seq ?_
  refine region_seq ?_
  refine sv (v := .slice none 0 0) henv rfl (rn_assign henv rfl) ?_
  clear henv a; intro a henv
  refine wpList_nil ?_
  refine th_n ?_
  refine wp_seq ?_
  refine region_seq ?_
  refine sv (v := .slice none 0 0) henv rfl (rn_assign henv rfl) ?_
  clear henv a; intro a henv
  refine wpList_nil ?_
  refine th_n ?_
  refine wp_seq ?_
  refine wp_seq ?_
  refine region_seq ?_
  revert a
  refine mA rfl rfl ?_
  refine sA (v := .int .i64 (n0 : Nat)) rfl (fun _ henv => rn_len henv Tryd.underlying30 rfl) ?_
  refine mA rfl rfl ?_
  intro a henv
  refine wpList_nil ?_
  refine th_n ?_
  refine wp_block ?_
  replace hst := (hst.addRowS notU 36 2).nilEs FN
  replace hst : St w0 _ [rowS notU 36 2 none 0 0 (fl fN ([])), bk kb #[.int .i64 (-1)] 3, bk fb #[.func (.func f) first caps] 143, bk bb #[.slice A1 n0 c1] 30] [pfEs FN ([]), pfRow fN FN 2 A0 n0 c0 es0, E, pfRow fN FN 2 A1 n0 c1 es1] := hst
  rw [show (-1 : Int) = ((0 : Nat) : Int) - 1 from rfl] at hst
  refine wp_loop_ghost (fun mz a w => ∃ j : Nat, ∃ B : Option Addr, ∃ d : Nat, ∃ os : List NE, n0 - j = mz ∧ Env 22 a [(1, .func (.func 137) #[] #[.pointer (some ⟨kb, 0, none⟩), .pointer (some ⟨fb, 0, none⟩), .pointer (some ⟨bb, 0, none⟩)]), (8, .slice A0 n0 c0), (9, .int .i64 (n0 : Nat)), (10, .int .i64 (j : Nat)), (5, .slice B j d)] ∧ St w0 w [rowS notU 36 2 B j d (fl fN os), bk kb #[.int .i64 ((j : Int) - 1)] 3, bk fb #[.func (.func f) first caps] 143, bk bb #[.slice A1 n0 c1] 30] [pfEs FN os, pfRow fN FN 2 A0 n0 c0 es0, E, pfRow fN FN 2 A1 n0 c1 es1] ∧ j ≤ n0 ∧ os.map zz = (List.zipWith g (es0.map zz) (es1.map zz)).take j) _ ⟨0, none, 0, [], rfl, henv.sub ⟨rfl, rfl, rfl, rfl, rfl, trivial⟩, hst.pick [0, 1, 2, 3] [0, 1, 2, 3] (by decide), (Nat.zero_le _), rfl⟩ ?_
  clear henv hst a
  rintro mz a w1 ⟨j, B, d, os, rfl, henv, hst, hj, ho⟩
  refine wp_seq ?_
  refine region_seq ?_
  refine sv (v := .bool (decide (((j : Nat) : Int) < ((n0 : Nat) : Int)))) henv rfl (rn_bin henv rfl rfl rfl) ?_
  clear henv a; intro a henv
  refine wpList_nil ?_
  refine th_n ?_
  refine wp_seq ?_
  refine if_split henv rfl (fun hc2 => ?_) (fun hc2 => ?_)
  · have hlt : j < n0 := by have := of_decide_eq_true hc2; omega
    obtain ⟨⟨A, c, z⟩, he0⟩ : ∃ e, es0[j]? = some e := ⟨_, List.getElem?_eq_getElem (by omega)⟩
    replace hst := hst.elem (k := 1) rfl he0
    replace hst : St w0 _ [rowS notU 36 2 B j d (fl fN os), bk kb #[.int .i64 ((j : Int) - 1)] 3, bk fb #[.func (.func f) first caps] 143, bk bb #[.slice A1 n0 c1] 30] [pfZ A c z, pfEs FN os, pfRow fN FN 2 A0 n0 c0 es0, E, pfRow fN FN 2 A1 n0 c1 es1] := hst
    refine wp_skip ?_
    refine th_n ?_
    refine wp_seq ?_
    refine wp_block ?_
    refine wp_seq ?_
    refine region_seq ?_
    revert a
    refine sA (v := .pointer (some ⟨ab A0, ao A0 + j * 2, none⟩)) rfl (fun _ henv => rn_idxR (i := j) henv Tryd.underlying30 (ty_anvil_integer_Int.size) rfl rfl (by omega) rfl (show (pfRow fN FN 2 A0 n0 c0 es0).P _ from (hst.pat (k := 2) rfl)).1) ?_
    refine sA (v := .agg #[.bool (neg z), .slice A (zl z) c]) rfl (fun _ henv => rn_loadE (i := j) (e := (A, c, z)) henv ty_anvil_integer_Int rfl rfl fN_len (show (pfRow fN FN 2 A0 n0 c0 es0).P _ from (hst.pat (k := 2) rfl)).1 (by omega) he0 rfl) ?_
    intro a henv
    refine seq_step rfl (op_alloc (c := #[.bool (neg 0), .slice none (zl 0) 0]) henv hst rfl zero_anvil_integer_Int zcells ?_)
    clear henv hst a; intro a w4 g3 henv hst
    refine seq_step rfl (op_store (k := 0) (c' := #[.bool (neg z), .slice A (zl z) c]) henv hst (ty_anvil_integer_Int.size) rfl rfl rfl rfl (by simp) rfl rfl ?_)
    clear henv hst a; intro a w5 henv hst
    refine wpList_nil ?_
    refine th_n ?_
    refine region_seq ?_
    revert a
    refine mA rfl rfl ?_
    refine mA rfl rfl ?_
    refine sA (v := .agg #[.bool (neg z), .slice A (zl z) c]) rfl (fun _ henv => rn_load0 henv ty_anvil_integer_Int rfl (hst.oat (k := 0) rfl) rfl) ?_
    intro a henv
    obtain ⟨⟨B1, d1, y⟩, he1⟩ : ∃ e, es1[j]? = some e := ⟨_, List.getElem?_eq_getElem (by omega)⟩
    refine seq_step rfl (op_callc (vs := #[.agg #[.bool (neg z), .slice A (zl z) c]]) henv rfl Tryd.call137 rfl rfl (calls_app (by simp) (row_both1 (X := rowS notU 36 2 B j d (fl fN os)) (Y := pfEs FN os) nou_rowS (hst.pick [1, 2, 3, 4] [0, 1, 2, 3, 4] (by decide)) hlt hn he0 he1 hcf hf)) ?_)
    rintro e w8 ⟨A6, c7, rfl, hst⟩
    refine ⟨_, rfl, ?_⟩
    clear henv a; intro a henv
    refine seq_step rfl (op_buildSlice (z := 2) (pv := #[(0, .agg #[.bool (neg (g z y)), .slice A6 (zl (g z y)) c7])]) (c := #[.bool (neg (g z y)), .slice A6 (zl (g z y)) c7]) henv hst rfl Tryd.underlying30 (ty_anvil_integer_Int.size) zero_anvil_integer_Int (by decide) (by decide) rfl (by kernel_rfl) ?_)
    clear henv hst a; intro a w10 g9 henv hst
    refine seq_step rfl (op_appendS (k := 1) (j := 0) henv hst rfl Tryd.underlying30 inf_anvil_integer_Int rfl rfl rfl rfl rfl rfl rfl rfl rfl rfl rfl (by unfold maxLen; omega) (by omega) ?_)
    clear henv hst a; intro a w13 g11 c12 henv hst
    rw [show fl fN os ++ (#[.bool (neg (g z y)), .slice A6 (zl (g z y)) c7] : Array Value).toList = fl fN (os ++ [(A6, c7, (g z y))]) from fl_snoc (f := fN) os (A6, c7, (g z y))] at hst
    replace hst := hst.snocEs (e := (A6, c7, (g z y))) (i := 1) (j := 0) rfl rfl
    refine sv (v := .slice (some ⟨g11, 0, none⟩) (j + 1) c12) henv rfl (rn_assign henv rfl) ?_
    clear henv a; intro a henv
    refine wpList_nil ?_
    refine bl_n (th_n ?_)
    refine region_seq ?_
    revert a
    refine sA (v := .int .i64 (j + 1 : Nat)) rfl (fun _ henv => rn_add henv rfl rfl (by rw [IntWalk.i64_in _ (by omega)]; omega)) ?_
    refine mA rfl rfl ?_
    intro a henv
    refine wpList_nil ?_
    rw [show ((j : Nat) : Int) = ((j + 1 : Nat) : Int) - 1 by omega] at hst
    exact th_n ⟨_, (by omega), ⟨j + 1, (some ⟨g11, 0, none⟩), c12, (os ++ [(A6, c7, (g z y))]), rfl, henv.sub ⟨rfl, rfl, rfl, rfl, rfl, trivial⟩, hst.pick [1, 2, 3, 4] [0, 3, 4, 5] (by decide), (by omega), (step_zip ho he0 he1)⟩⟩
  · obtain rfl : n0 = j := by have := of_decide_eq_false hc2; omega
    refine wp_exit ?_
    refine th_x (th_x (bl_x (th_n ?_)))
    refine wp_seq ?_
    refine region_seq ?_
    revert a
    refine mA rfl rfl ?_
    refine aA rfl rfl ?_
    intro a henv
    refine wpList_nil ?_
    refine th_n ?_
    refine wp_ret ?_
    refine leave henv (res1 Tryd.results102 (RV.tmp henv rfl)) ?_
    have ho2 : os.map zz = _ := ho.trans (List.take_of_length_le (by rw [zip_len hlen0 hlen1]; omega))
    exact ⟨_, _, os, rfl, hst.pick [0, 1, 2, 3] [0, 1, 2, 3] (by decide), map_len ho2 (zip_len hlen0 hlen1), ho2⟩
set_option maxRecDepth 100000 in
set_option maxHeartbeats 1000000 in
theorem row_both_eq {E : PF} {f : FuncId} {first caps : Array Value} {g : Int → Int → Int} {A0 A1 : Option Addr} {n0 c0 c1 : Nat} {es0 es1 : List NE} {w0 : World} (h0 : (pfRow fN FN 2 A0 n0 c0 es0).P w0) (h1 : (pfRow fN FN 2 A1 n0 c1 es1).P w0) (hE : E.P w0) (hcf : ∀ args w, (callFunc f args).run Tryd.prog w = .ok (.enter f args) w) (hf : ∀ (i : Nat) (A : Option Addr) (c : Nat) (z : Int) (B : Option Addr) (d : Nat) (y : Int) (w : World), es0[i]? = some (A, c, z) → es1[i]? = some (B, d, y) → E.P w → ZIn w A c z → ZIn w B d y → Calls Tryd.prog f (first ++ #[.agg #[.bool (neg z), .slice A (zl z) c], .agg #[.bool (neg y), .slice B (zl y) d]] ++ caps) w fun e w' => ∃ v, e = .returned v ∧ ZAt w' v (g z y) ∧ Below w.heap.size w w') (hn : n0 ≤ 100000000) :
    Calls Tryd.prog 98 #[.slice A0 n0 c0, .slice A1 n0 c1, .func (.func f) first caps] w0 fun e w' => ∃ v, e = .returned (.tuple #[v, .int .i64 0]) ∧ ZRow w0.heap.size w' v n0 (List.zipWith g (es0.map zz) (es1.map zz)) ∧ Below w0.heap.size w0 w' := by
  refine enter Tryd.func98 rfl Tryd.ntmps98 rfl ?_
  intro a henv hst
  replace hst := hst.argP E hE
  replace hst := hst.argRow h1
  replace hst := hst.argRow h0
  replace hst : St w0 _ [] [pfRow fN FN 2 A0 n0 c0 es0, pfRow fN FN 2 A1 n0 c1 es1, E] := hst
  refine wp_seq ?_
  refine region_seq ?_
  refine seq_step rfl (op_box (c := #[.slice A1 n0 c1]) henv hst rfl rfl rfl ?_)
  clear henv hst a; intro a w2 g1 henv hst
  refine seq_step rfl (op_box (c := #[.func (.func f) first caps]) henv hst rfl rfl rfl ?_)
  clear henv hst a; intro a w4 g3 henv hst
  revert a
  refine aA rfl rfl ?_
  refine aA rfl rfl ?_
  intro a henv
  refine wpList_nil ?_
  refine th_n ?_
  refine wp_seq ?_
  refine wp_seq ?_
  refine region_seq ?_
  revert a
  refine mA rfl rfl ?_
  refine sA (v := .int .i64 (n0 : Nat)) rfl (fun _ henv => rn_len henv Tryd.underlying30 rfl) ?_
  refine sA (v := .slice A1 n0 c1) rfl (fun _ henv => rn_load1 henv ty__integer_Int rfl (hst.oat (k := 1) rfl) rfl) ?_
  refine sA (v := .int .i64 (n0 : Nat)) rfl (fun _ henv => rn_len henv Tryd.underlying30 rfl) ?_
  refine sA (v := .bool (((n0 : Nat) : Int) != ((n0 : Nat) : Int))) rfl (fun _ henv => rn_bin henv rfl rfl rfl) ?_
  intro a henv
  rw [show (((n0 : Nat) : Int) != ((n0 : Nat) : Int)) = false from (bne_self_eq_false _)] at henv
  refine wpList_nil ?_
  refine th_n ?_
  refine if_f henv rfl (rfl) ?_
  refine wp_skip ?_
  refine th_n ?_
  refine wp_seq ?_
  refine region_seq ?_
  refine seq_step rfl (op_alloc (c := #[.int .i64 0]) henv hst rfl zero_int rfl ?_)
  clear henv hst a; intro a w6 g5 henv hst
  refine seq_step rfl (op_store1 (k := 0) (c' := #[.int .i64 (-1)]) henv hst (ty_int.size) rfl rfl rfl (by simp) rfl rfl ?_)
  clear henv hst a; intro a w7 henv hst
  refine wpList_nil ?_
  refine th_n ?_
  refine wp_seq ?_
  refine region_seq ?_
  revert a
  refine mA rfl rfl ?_
  refine sA (v := .func (.func 137) #[] #[.pointer (some ⟨g5, 0, none⟩), .pointer (some ⟨g3, 0, none⟩), .pointer (some ⟨g1, 0, none⟩)]) rfl (fun _ henv => rn_makeFunc henv rfl) ?_
  intro a henv
  refine seq_step rfl (op_call henv rfl Tryd.call102 rfl (row_eachb (hst.pick [0, 1, 2] [0, 2, 1] (by decide)) hn hcf hf) ?_)
  rintro e w11 ⟨A8, c9, es10, rfl, hst, hl, hz⟩
  refine ⟨_, rfl, ?_⟩
  clear henv a; intro a henv
  revert a
  refine aA rfl rfl ?_
  refine aA rfl rfl ?_
  intro a henv
  refine wpList_nil ?_
  refine th_n ?_
  refine wp_ret ?_
  refine leave henv (res2 Tryd.results98 (RV.tmp henv rfl) (RV.tmp henv rfl)) ?_
  exact ⟨_, rfl, ⟨_, _, _, rfl, hst.newRow (k := 0) (j := 0) rfl rfl, hl, hz⟩, hst.below⟩
set_option maxRecDepth 100000 in
set_option maxHeartbeats 1000000 in
theorem row_add {A0 A1 : Option Addr} {n0 c0 c1 : Nat} {es0 es1 : List NE} {w0 : World} (h0 : (pfRow fN FN 2 A0 n0 c0 es0).P w0) (h1 : (pfRow fN FN 2 A1 n0 c1 es1).P w0) (hz0 : ZB 500000 es0) (hz1 : ZB 500000 es1) (hn : n0 ≤ 100000000) :
    Calls Tryd.prog 21 #[.slice A0 n0 c0, .slice A1 n0 c1] w0 fun e w' => ∃ v, e = .returned (.tuple #[v, .int .i64 0]) ∧ ZRow w0.heap.size w' v n0 (List.zipWith (· + ·) (es0.map zz) (es1.map zz)) ∧ Below w0.heap.size w0 w' := by
  refine enter Tryd.func21 rfl Tryd.ntmps21 rfl ?_
  intro a henv hst
  replace hst := (hst.argRow h1).argRow h0
  refine wp_seq ?_
  refine region_seq ?_
  revert a
  refine aA rfl rfl ?_
  refine aA rfl rfl ?_
  intro a henv
  refine wpList_nil ?_
  refine th_n ?_
  refine wp_seq ?_
  refine region_seq ?_
  revert a
  refine mA rfl rfl ?_
  refine mA rfl rfl ?_
  intro a henv
  refine seq_step rfl (op_call henv rfl Tryd.call98 rfl (row_both_eq (E := pfT0) (g := (· + ·)) (first := #[]) (caps := #[]) (hst.pat (k := 0) rfl) (hst.pat (k := 1) rfl) trivial Tryd.call85 (fun _ _ _ _ _ _ _ _ q1 q2 _ hx hy => calls_app (by simp) (add_z hx hy (by have := hz0.at q1; omega) (by have := hz1.at q2; omega))) hn) ?_)
  rintro e w4 ⟨_, rfl, ⟨A1, c2, es3, rfl, hr, hl, hz⟩, hb⟩
  refine ⟨_, rfl, ?_⟩
  clear henv a; intro a henv
  replace hst := hst.freshRow hb hr (ap_N hr.2.1 ⟨nou_rowS, trivial⟩)
  clear hr
  clear hb
  revert a
  refine sA (v := .slice A1 n0 c2) rfl (fun _ henv => rn_extract henv rfl rfl) ?_
  refine sA (v := .int .i64 0) rfl (fun _ henv => rn_extract henv rfl rfl) ?_
  refine aA rfl rfl ?_
  refine aA rfl rfl ?_
  intro a henv
  refine wpList_nil ?_
  refine th_n ?_
  refine wp_ret ?_
  refine leave henv (res2 Tryd.results21 (RV.tmp henv rfl) (RV.tmp henv rfl)) ?_
  exact ⟨_, rfl, ⟨_, _, _, rfl, hst.newRow (k := 0) (j := 0) rfl rfl, hl, hz⟩, hst.below⟩
end Go.Proofs.YtegglooojlheoaaDoor.W

/- Plain laws of rows of whole numbers: sums of products, contents, primitive rows. No program. No condition. -/
namespace Go.Proofs.YtegglooojlheoaaDoor.W
def gcdL (zs : List Int) : Int := zs.foldl (fun g z => ((Int.gcd g z : Nat) : Int)) 0
def sumL (zs : List Int) : Int := zs.foldl (fun g z => g + z) 0
def dotL (xs ys : List Int) : Int := sumL (List.zipWith (· * ·) xs ys)
def lead (zs : List Int) : Int := (zs.find? fun z => z ≠ 0).getD 0
def primN (zs : List Int) : Int := if lead zs < 0 then -gcdL zs else gcdL zs
def prim (zs : List Int) : List Int := zs.map (· / primN zs)
def divs (c : Int) (zs : List Int) : Prop := ∀ z ∈ zs, z % c = 0
end Go.Proofs.YtegglooojlheoaaDoor.W
