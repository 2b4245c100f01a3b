/- RatioKnown. Printed by pv/gen_qk.py. No condition. -/
import Derived.Test.YtegglooojlheoaaDoorM51
import Derived.Test.YtegglooojlheoaaDoorM11

namespace Go.Proofs.YtegglooojlheoaaDoor.W
open Go.RowKit Anv Go.Lib
section
variable {N : Nat} {dq : List Deferred} {a : Act} {l : List (Nat × Value)} {w : World} {d : Nat} {ty : TypeId} {pos : String} {af : Array Edge} {gd : Option (Nat × Bool)}
theorem rn_stx {x y : Operand} {s : ByteArray} {v : Int} (h : EnvD dq N a l) (hx : evl l x = some (.string s)) (hy : evl l y = some (.int .i64 v)) :
    (execOp a.eval ⟨some d, .build 137 #[(0, x), (1, y)], ty, pos, af, gd⟩).run Tryd.prog w = .ok (.value (.agg #[.string s, .int .i64 v])) w := by
  have hz : (zeroValue 137).run Tryd.prog w = .ok (.agg #[.string ⟨#[]⟩, .int .i64 0]) w := by obtain ⟨i, hi, hv⟩ := zero_struct_text_string_at_int_; simp [zeroValue, typeInfo, hi, hv]
  simp [execOp, h.ev hx, h.ev hy, Instr.build, hz, run_underlying Tryd.underlying137, Sem.run_bind, run_sizeOf ty_string.size, run_sizeOf ty_int.size, Instr.fill, Value.cells]
end
set_option maxRecDepth 100000 in
set_option maxHeartbeats 16000000 in
theorem qk_of {s : List UInt8} {r : Rat} {w0 : World} (hr : textQ r = s) (hl : s.length ≤ 50000) :
    Calls Tryd.prog 94 #[.string ⟨s.toArray⟩] w0 fun e w' => ∃ v, e = .returned v ∧ QAt w' v r ∧ Below w0.heap.size w0 w' := by
  refine enter Tryd.func94 rfl Tryd.ntmps94 rfl ?_
  intro a henv hst
  refine wp_seq ?_
  refine region_seq ?_
  refine seq_step rfl (op_alloc (c := #[.bool (neg (qn 0)), .slice none (zl (qn 0)) 0, .bool (neg (ql 0)), .slice none (zl (ql 0)) 0]) henv hst rfl zero_anvil_ratio_Rat qcells ?_)
  clear henv hst a; intro a w52 g51 henv hst
  refine wpList_nil ?_
  refine th_n ?_
  refine wp_seq ?_
  refine region_seq ?_
  refine sv (v := .string ⟨s.toArray⟩) henv rfl (rn_move henv rfl) ?_
  clear henv a; intro a henv
  refine seq_step rfl (op_call henv rfl Tryd.call91 rfl (q_read_ok hr hl) ?_)
  rintro e w59 ⟨_, rfl, ⟨A53, c54, B55, d56, rfl, hz57, hz58⟩, hb⟩
  refine ⟨_, rfl, ?_⟩
  clear henv a; intro a henv
  replace hst := ((hst.call hb).addZ hz57 ⟨nou_bk rfl, trivial⟩).addZ hz58 ⟨nou_bk rfl, trivial⟩
  clear hz57 hz58
  clear hb
  revert a
  refine mA rfl rfl ?_
  refine sA (v := .agg #[.bool (neg (qn r)), .slice A53 (zl (qn r)) c54, .bool (neg (ql r)), .slice B55 (zl (ql r)) d56]) rfl (fun _ henv => rn_extract henv rfl rfl) ?_
  refine sA (v := .agg #[.int .i64 0, .int .i64 0]) rfl (fun _ henv => rn_extract henv rfl rfl) ?_
  intro a henv
  refine seq_step rfl (op_alloc (c := #[.bool (neg (qn 0)), .slice none (zl (qn 0)) 0, .bool (neg (ql 0)), .slice none (zl (ql 0)) 0]) henv hst rfl zero_anvil_ratio_Rat qcells ?_)
  clear henv hst a; intro a w61 g60 henv hst
  refine seq_step rfl (op_alloc (c := #[.int .i64 0, .int .i64 0]) henv hst rfl zero_anvil_api_Spot rfl ?_)
  clear henv hst a; intro a w63 g62 henv hst
  refine seq_step rfl (op_store (k := 1) (c' := #[.bool (neg (qn r)), .slice A53 (zl (qn r)) c54, .bool (neg (ql r)), .slice B55 (zl (ql r)) d56]) henv hst (ty_anvil_ratio_Rat.size) rfl rfl rfl rfl (by simp) rfl rfl ?_)
  clear henv hst a; intro a w64 henv hst
  refine seq_step rfl (op_store (k := 0) (c' := #[.int .i64 0, .int .i64 0]) henv hst (ty_anvil_api_Spot.size) rfl rfl rfl rfl (by simp) rfl rfl ?_)
  clear henv hst a; intro a w65 henv hst
  refine wpList_nil ?_
  refine th_n ?_
  refine wp_seq ?_
  refine region_seq ?_
  refine sv (v := .agg #[.bool (neg (qn r)), .slice A53 (zl (qn r)) c54, .bool (neg (ql r)), .slice B55 (zl (ql r)) d56]) henv rfl (rn_load0 henv ty_anvil_ratio_Rat rfl (hst.oat (k := 1) rfl) rfl) ?_
  clear henv a; intro a henv
  refine seq_step rfl (op_store (k := 2) (c' := #[.bool (neg (qn r)), .slice A53 (zl (qn r)) c54, .bool (neg (ql r)), .slice B55 (zl (ql r)) d56]) henv hst (ty_anvil_ratio_Rat.size) rfl rfl rfl rfl (by simp) rfl rfl ?_)
  clear henv hst a; intro a w66 henv hst
  refine wpList_nil ?_
  refine th_n ?_
  refine wp_ret ?_
  refine leave henv (res1 Tryd.results94 (RV.cell henv ty_anvil_ratio_Rat rfl (hst.oat (k := 2) rfl) rfl)) ?_
  exact ⟨_, rfl, q_at rfl rfl (hst.pat (k := 1) rfl) (hst.pat (k := 0) rfl), hst.below⟩
set_option maxRecDepth 100000 in
set_option maxHeartbeats 16000000 in
theorem rknown_law {w0 : World} :
    Calls Tryd.prog 15 #[] w0 fun e w' => e = .returned (.bool true) ∧ Below w0.heap.size w0 w' := by
  have hbl := badT_len
  have z1 : zl 1 ≤ 1 := nl_le_of_lt (by decide)
  have z5 : zl (-5) ≤ 1 := nl_le_of_lt (by decide)
  have z0 : zl 0 = 0 := zl_zero
  have z3 : zl 3 ≤ 1 := nl_le_of_lt (by decide)
  have z4 : zl (-4) ≤ 1 := nl_le_of_lt (by decide)
  have z24 : zl 24 ≤ 1 := nl_le_of_lt (by decide)
  have z6 : zl 6 ≤ 1 := nl_le_of_lt (by decide)
  have zq : zl (qd 0) ≤ 1 := nl_le_of_lt (by decide)
  refine enter Tryd.func15 rfl Tryd.ntmps15 rfl ?_
  intro a henv hst
  refine wp_seq ?_
  refine region_seq ?_
  refine sv (v := .bool false) henv rfl (rn_assign henv rfl) ?_
  clear henv a; intro a henv
  refine wpList_nil ?_
  refine th_n ?_
  refine wp_seq ?_
  refine wp_seq ?_
  refine region_seq ?_
  refine seq_step rfl (op_call henv rfl Tryd.call55 rfl (qworks) ?_)
  rintro e w51 ⟨rfl, hb⟩
  refine ⟨_, rfl, ?_⟩
  clear henv a; intro a henv
  replace hst := hst.call hb
  clear hb
  refine sv (v := .bool false) henv rfl (rn_un henv rfl rfl) ?_
  clear henv a; intro a henv
  refine wpList_nil ?_
  refine th_n ?_
  refine if_f henv rfl (rfl) ?_
  refine wp_skip ?_
  refine th_n ?_
  refine wp_seq ?_
  refine region_seq ?_
  refine sv (v := .func (.func 94) #[] #[]) henv rfl (rn_assign henv rfl) ?_
  clear henv a; intro a henv
  refine wpList_nil ?_
  refine th_n ?_
  refine wp_seq ?_
  refine region_seq ?_
  refine seq_step rfl (op_call henv rfl Tryd.call43 rfl (of_z (n := (1 : Int)) (by decide) (by decide)) ?_)
  rintro e w55 ⟨_, rfl, ⟨A52, c53, rfl, hz54⟩, hb⟩
  refine ⟨_, rfl, ?_⟩
  clear henv a; intro a henv
  replace hst := (hst.call hb).addZ hz54 trivial
  clear hz54
  clear hb
  refine seq_step rfl (op_call henv rfl Tryd.call43 rfl (of_z (n := (0 : Int)) (by decide) (by decide)) ?_)
  rintro e w59 ⟨_, rfl, ⟨A56, c57, rfl, hz58⟩, hb⟩
  refine ⟨_, rfl, ?_⟩
  clear henv a; intro a henv
  replace hst := (hst.call hb).addZ hz58 trivial
  clear hz58
  clear hb
  refine seq_step rfl (op_call henv rfl Tryd.call90 rfl (make_z0 (p := 1) (q := 0) (show ZIn _ A52 c53 1 from hst.pat (k := 1) rfl) (show ZIn _ A56 c57 0 from hst.pat (k := 0) rfl) rfl) ?_)
  rintro e w60 ⟨rfl, hb⟩
  refine ⟨_, rfl, ?_⟩
  clear henv a; intro a henv
  replace hst := hst.call hb
  replace hst := (hst.addZ (show ZIn _ none 0 (qn 0) from zin_none _) trivial).addZ (show ZIn _ none 0 (ql 0) from zin_none _) trivial
  clear hb
  revert a
  refine mA rfl rfl ?_
  refine sA (v := .agg #[.bool (neg (qn 0)), .slice none (zl (qn 0)) 0, .bool (neg (ql 0)), .slice none (zl (ql 0)) 0]) rfl (fun _ henv => rn_extract henv rfl rfl) ?_
  refine sA (v := .int .i64 2) rfl (fun _ henv => rn_extract henv rfl rfl) ?_
  intro a henv
  refine seq_step rfl (op_alloc (c := #[.bool (neg (qn 0)), .slice none (zl (qn 0)) 0, .bool (neg (ql 0)), .slice none (zl (ql 0)) 0]) henv hst rfl zero_anvil_ratio_Rat qcells ?_)
  clear henv hst a; intro a w62 g61 henv hst
  refine seq_step rfl (op_store (k := 0) (c' := #[.bool (neg (qn 0)), .slice none (zl (qn 0)) 0, .bool (neg (ql 0)), .slice none (zl (ql 0)) 0]) henv hst (ty_anvil_ratio_Rat.size) rfl rfl rfl rfl (by simp) rfl rfl ?_)
  clear henv hst a; intro a w63 henv hst
  refine sv (v := .int .i64 2) henv rfl (rn_assign henv rfl) ?_
  clear henv a; intro a henv
  refine wpList_nil ?_
  refine th_n ?_
  refine wp_seq ?_
  refine region_seq ?_
  refine seq_step rfl (op_call henv rfl Tryd.call43 rfl (of_z (n := (0 : Int)) (by decide) (by decide)) ?_)
  rintro e w67 ⟨_, rfl, ⟨A64, c65, rfl, hz66⟩, hb⟩
  refine ⟨_, rfl, ?_⟩
  clear henv a; intro a henv
  replace hst := (hst.call hb).addZ hz66 ⟨nou_bk rfl, trivial⟩
  clear hz66
  clear hb
  refine seq_step rfl (op_call henv rfl Tryd.call43 rfl (of_z (n := (-5 : Int)) (by decide) (by decide)) ?_)
  rintro e w71 ⟨_, rfl, ⟨A68, c69, rfl, hz70⟩, hb⟩
  refine ⟨_, rfl, ?_⟩
  clear henv a; intro a henv
  replace hst := (hst.call hb).addZ hz70 ⟨nou_bk rfl, trivial⟩
  clear hz70
  clear hb
  refine seq_step rfl (op_call henv rfl Tryd.call90 rfl (make_qr (p := 0) (q := -5) (r := ((0 : Int) : Rat)) (show ZIn _ A64 c65 0 from hst.pat (k := 1) rfl) (show ZIn _ A68 c69 (-5) from hst.pat (k := 0) rfl) (by omega) (by omega) (by decide) (by decide +kernel)) ?_)
  rintro e w78 ⟨_, rfl, ⟨A72, c73, B74, d75, rfl, hz76, hz77⟩, hb⟩
  refine ⟨_, rfl, ?_⟩
  clear henv a; intro a henv
  replace hst := ((hst.call hb).addZ hz76 ⟨nou_bk rfl, trivial⟩).addZ hz77 ⟨nou_bk rfl, trivial⟩
  clear hz76 hz77
  clear hb
  revert a
  refine mA rfl rfl ?_
  refine sA (v := .agg #[.bool (neg (qn ((0 : Int) : Rat))), .slice A72 (zl (qn ((0 : Int) : Rat))) c73, .bool (neg (ql ((0 : Int) : Rat))), .slice B74 (zl (ql ((0 : Int) : Rat))) d75]) rfl (fun _ henv => rn_extract henv rfl rfl) ?_
  refine sA (v := .int .i64 0) rfl (fun _ henv => rn_extract henv rfl rfl) ?_
  intro a henv
  refine seq_step rfl (op_alloc (c := #[.bool (neg (qn 0)), .slice none (zl (qn 0)) 0, .bool (neg (ql 0)), .slice none (zl (ql 0)) 0]) henv hst rfl zero_anvil_ratio_Rat qcells ?_)
  clear henv hst a; intro a w80 g79 henv hst
  refine seq_step rfl (op_store (k := 0) (c' := #[.bool (neg (qn ((0 : Int) : Rat))), .slice A72 (zl (qn ((0 : Int) : Rat))) c73, .bool (neg (ql ((0 : Int) : Rat))), .slice B74 (zl (ql ((0 : Int) : Rat))) d75]) henv hst (ty_anvil_ratio_Rat.size) rfl rfl rfl rfl (by simp) rfl rfl ?_)
  clear henv hst a; intro a w81 henv hst
  refine sv (v := .int .i64 0) henv rfl (rn_assign henv rfl) ?_
  clear henv a; intro a henv
  refine wpList_nil ?_
  refine th_n ?_
  refine wp_seq ?_
  refine region_seq ?_
  refine sv (v := .func (.func 94) #[] #[]) henv rfl (rn_move henv rfl) ?_
  clear henv a; intro a henv
  refine seq_step rfl (op_callc (vs := #[.string ⟨#[49, 47, 50]⟩]) henv rfl Tryd.call94 rfl rfl (calls_app (by simp) (qk_of (s := [49, 47, 50]) (r := mkRat 1 2) (by decide +kernel) (by decide))) ?_)
  rintro e w82 ⟨_, rfl, ⟨A83, c84, B85, d86, rfl, hz87, hz88⟩, hb⟩
  refine ⟨_, rfl, ?_⟩
  clear henv a; intro a henv
  replace hst := ((hst.call hb).addZ hz87 ⟨nou_bk rfl, nou_bk rfl, trivial⟩).addZ hz88 ⟨nou_bk rfl, nou_bk rfl, trivial⟩
  clear hz87 hz88
  clear hb
  refine sv (v := .func (.func 94) #[] #[]) henv rfl (rn_move henv rfl) ?_
  clear henv a; intro a henv
  refine seq_step rfl (op_callc (vs := #[.string ⟨#[48]⟩]) henv rfl Tryd.call94 rfl rfl (calls_app (by simp) (qk_of (s := [48]) (r := 0) (by decide +kernel) (by decide))) ?_)
  rintro e w89 ⟨_, rfl, ⟨A90, c91, B92, d93, rfl, hz94, hz95⟩, hb⟩
  refine ⟨_, rfl, ?_⟩
  clear henv a; intro a henv
  replace hst := ((hst.call hb).addZ hz94 ⟨nou_bk rfl, nou_bk rfl, trivial⟩).addZ hz95 ⟨nou_bk rfl, nou_bk rfl, trivial⟩
  clear hz94 hz95
  clear hb
  refine seq_step rfl (op_call henv rfl Tryd.call62 rfl (over_qz (x := mkRat 1 2) (y := 0) (show ZIn _ A83 c84 (qn (mkRat 1 2)) from hst.pat (k := 3) rfl) (show ZIn _ B85 d86 (ql (mkRat 1 2)) from hst.pat (k := 2) rfl) (show ZIn _ A90 c91 (qn 0) from hst.pat (k := 1) rfl) (show ZIn _ B92 d93 (ql 0) from hst.pat (k := 0) rfl) qk_2 (by omega) rfl) ?_)
  rintro e w96 ⟨rfl, hb⟩
  refine ⟨_, rfl, ?_⟩
  clear henv a; intro a henv
  replace hst := hst.call hb
  replace hst := (hst.addZ (show ZIn _ none 0 (qn 0) from zin_none _) ⟨nou_bk rfl, nou_bk rfl, trivial⟩).addZ (show ZIn _ none 0 (ql 0) from zin_none _) ⟨nou_bk rfl, nou_bk rfl, trivial⟩
  clear hb
  revert a
  refine mA rfl rfl ?_
  refine sA (v := .agg #[.bool (neg (qn 0)), .slice none (zl (qn 0)) 0, .bool (neg (ql 0)), .slice none (zl (ql 0)) 0]) rfl (fun _ henv => rn_extract henv rfl rfl) ?_
  refine sA (v := .int .i64 2) rfl (fun _ henv => rn_extract henv rfl rfl) ?_
  intro a henv
  refine seq_step rfl (op_alloc (c := #[.bool (neg (qn 0)), .slice none (zl (qn 0)) 0, .bool (neg (ql 0)), .slice none (zl (ql 0)) 0]) henv hst rfl zero_anvil_ratio_Rat qcells ?_)
  clear henv hst a; intro a w98 g97 henv hst
  refine seq_step rfl (op_store (k := 0) (c' := #[.bool (neg (qn 0)), .slice none (zl (qn 0)) 0, .bool (neg (ql 0)), .slice none (zl (ql 0)) 0]) henv hst (ty_anvil_ratio_Rat.size) rfl rfl rfl rfl (by simp) rfl rfl ?_)
  clear henv hst a; intro a w99 henv hst
  refine sv (v := .int .i64 2) henv rfl (rn_assign henv rfl) ?_
  clear henv a; intro a henv
  refine wpList_nil ?_
  refine th_n ?_
  refine wp_seq ?_
  refine region_seq ?_
  refine sv (v := .func (.func 94) #[] #[]) henv rfl (rn_move henv rfl) ?_
  clear henv a; intro a henv
  refine seq_step rfl (op_callc (vs := #[.string ⟨#[49, 47, 50]⟩]) henv rfl Tryd.call94 rfl rfl (calls_app (by simp) (qk_of (s := [49, 47, 50]) (r := mkRat 1 2) (by decide +kernel) (by decide))) ?_)
  rintro e w100 ⟨_, rfl, ⟨A101, c102, B103, d104, rfl, hz105, hz106⟩, hb⟩
  refine ⟨_, rfl, ?_⟩
  clear henv a; intro a henv
  replace hst := ((hst.call hb).addZ hz105 ⟨nou_bk rfl, nou_bk rfl, nou_bk rfl, trivial⟩).addZ hz106 ⟨nou_bk rfl, nou_bk rfl, nou_bk rfl, trivial⟩
  clear hz105 hz106
  clear hb
  refine sv (v := .func (.func 94) #[] #[]) henv rfl (rn_move henv rfl) ?_
  clear henv a; intro a henv
  refine seq_step rfl (op_callc (vs := #[.string ⟨#[49, 47, 51]⟩]) henv rfl Tryd.call94 rfl rfl (calls_app (by simp) (qk_of (s := [49, 47, 51]) (r := mkRat 1 3) (by decide +kernel) (by decide))) ?_)
  rintro e w107 ⟨_, rfl, ⟨A108, c109, B110, d111, rfl, hz112, hz113⟩, hb⟩
  refine ⟨_, rfl, ?_⟩
  clear henv a; intro a henv
  replace hst := ((hst.call hb).addZ hz112 ⟨nou_bk rfl, nou_bk rfl, nou_bk rfl, trivial⟩).addZ hz113 ⟨nou_bk rfl, nou_bk rfl, nou_bk rfl, trivial⟩
  clear hz112 hz113
  clear hb
  have hq120 : Qs 2 ((mkRat 1 2) / (mkRat 1 3)) := by have h := qk_2.over qk_3 (by decide); exact h
  refine seq_step rfl (op_call henv rfl Tryd.call62 rfl (over_q (x := mkRat 1 2) (y := mkRat 1 3) (show ZIn _ A101 c102 (qn (mkRat 1 2)) from hst.pat (k := 3) rfl) (show ZIn _ B103 d104 (ql (mkRat 1 2)) from hst.pat (k := 2) rfl) (show ZIn _ A108 c109 (qn (mkRat 1 3)) from hst.pat (k := 1) rfl) (show ZIn _ B110 d111 (ql (mkRat 1 3)) from hst.pat (k := 0) rfl) qk_2 qk_3 (by omega) (by decide)) ?_)
  rintro e w121 ⟨_, rfl, ⟨A114, c115, B116, d117, rfl, hz118, hz119⟩, hb⟩
  refine ⟨_, rfl, ?_⟩
  clear henv a; intro a henv
  replace hst := ((hst.call hb).addZ hz118 ⟨nou_bk rfl, nou_bk rfl, nou_bk rfl, trivial⟩).addZ hz119 ⟨nou_bk rfl, nou_bk rfl, nou_bk rfl, trivial⟩
  clear hz118 hz119
  clear hb
  revert a
  refine mA rfl rfl ?_
  refine sA (v := .agg #[.bool (neg (qn ((mkRat 1 2) / (mkRat 1 3)))), .slice A114 (zl (qn ((mkRat 1 2) / (mkRat 1 3)))) c115, .bool (neg (ql ((mkRat 1 2) / (mkRat 1 3)))), .slice B116 (zl (ql ((mkRat 1 2) / (mkRat 1 3)))) d117]) rfl (fun _ henv => rn_extract henv rfl rfl) ?_
  refine sA (v := .int .i64 0) rfl (fun _ henv => rn_extract henv rfl rfl) ?_
  intro a henv
  refine seq_step rfl (op_alloc (c := #[.bool (neg (qn 0)), .slice none (zl (qn 0)) 0, .bool (neg (ql 0)), .slice none (zl (ql 0)) 0]) henv hst rfl zero_anvil_ratio_Rat qcells ?_)
  clear henv hst a; intro a w123 g122 henv hst
  refine seq_step rfl (op_store (k := 0) (c' := #[.bool (neg (qn ((mkRat 1 2) / (mkRat 1 3)))), .slice A114 (zl (qn ((mkRat 1 2) / (mkRat 1 3)))) c115, .bool (neg (ql ((mkRat 1 2) / (mkRat 1 3)))), .slice B116 (zl (ql ((mkRat 1 2) / (mkRat 1 3)))) d117]) henv hst (ty_anvil_ratio_Rat.size) rfl rfl rfl rfl (by simp) rfl rfl ?_)
  clear henv hst a; intro a w124 henv hst
  refine sv (v := .int .i64 0) henv rfl (rn_assign henv rfl) ?_
  clear henv a; intro a henv
  refine wpList_nil ?_
  refine th_n ?_
  refine wp_seq ?_
  refine wp_seq ?_
  refine region_seq ?_
  revert a
  refine mA rfl rfl ?_
  refine sA (v := .bool false) rfl (fun _ henv => rn_bin henv rfl rfl rfl) ?_
  refine mA rfl rfl ?_
  refine gA (v := .int .i64 0) rfl rfl rfl rfl (fun _ henv => rn_move henv rfl) ?_
  refine gA (v := .bool false) rfl rfl rfl rfl (fun _ henv => rn_bin henv rfl rfl rfl) ?_
  refine sA (v := .bool false) rfl (fun _ henv => rn_pick henv rfl rfl) ?_
  refine mA rfl rfl ?_
  refine gA (v := .agg #[.bool (neg (qn ((0 : Int) : Rat))), .slice A72 (zl (qn ((0 : Int) : Rat))) c73, .bool (neg (ql ((0 : Int) : Rat))), .slice B74 (zl (ql ((0 : Int) : Rat))) d75]) rfl rfl rfl rfl (fun _ henv => rn_load0 henv ty_anvil_ratio_Rat rfl (hst.oat (k := 2) rfl) rfl) ?_
  intro a henv
  refine seq_g rfl henv rfl rfl (op_call henv rfl Tryd.call92 rfl (text_q (x := ((0 : Int) : Rat)) (show ZIn _ A72 c73 (qn ((0 : Int) : Rat)) from hst.pat (k := 13) rfl) (show ZIn _ B74 d75 (ql ((0 : Int) : Rat)) from hst.pat (k := 12) rfl) qk_0 (by omega)) ?_)
  rintro e w125 ⟨rfl, hb⟩
  refine ⟨_, rfl, ?_⟩
  clear henv a; intro a henv
  replace hst := hst.call hb
  clear hb
  refine seq_g rfl henv rfl rfl (op_val (v := .bool (!decide ((textQ ((0 : Int) : Rat)) = [48]))) henv rfl (rn_neqs (s := (textQ ((0 : Int) : Rat))) (t := [48]) henv rfl rfl) ?_)
  clear henv a; intro a henv
  rw [show (!decide ((textQ ((0 : Int) : Rat)) = [48])) = false from (by decide +kernel)] at henv
  revert a
  refine sA (v := .bool false) rfl (fun _ henv => rn_pick henv rfl rfl) ?_
  refine mA rfl rfl ?_
  refine gA (v := .int .i64 2) rfl rfl rfl rfl (fun _ henv => rn_move henv rfl) ?_
  refine gA (v := .bool false) rfl rfl rfl rfl (fun _ henv => rn_bin henv rfl rfl rfl) ?_
  refine sA (v := .bool false) rfl (fun _ henv => rn_pick henv rfl rfl) ?_
  refine mA rfl rfl ?_
  refine gA (v := .int .i64 0) rfl rfl rfl rfl (fun _ henv => rn_move henv rfl) ?_
  refine gA (v := .bool false) rfl rfl rfl rfl (fun _ henv => rn_bin henv rfl rfl rfl) ?_
  refine sA (v := .bool false) rfl (fun _ henv => rn_pick henv rfl rfl) ?_
  refine mA rfl rfl ?_
  refine gA (v := .agg #[.bool (neg (qn ((mkRat 1 2) / (mkRat 1 3)))), .slice A114 (zl (qn ((mkRat 1 2) / (mkRat 1 3)))) c115, .bool (neg (ql ((mkRat 1 2) / (mkRat 1 3)))), .slice B116 (zl (ql ((mkRat 1 2) / (mkRat 1 3)))) d117]) rfl rfl rfl rfl (fun _ henv => rn_load0 henv ty_anvil_ratio_Rat rfl (hst.oat (k := 0) rfl) rfl) ?_
  intro a henv
  refine seq_g rfl henv rfl rfl (op_call henv rfl Tryd.call92 rfl (text_q (x := (mkRat 1 2) / (mkRat 1 3)) (show ZIn _ A114 c115 (qn ((mkRat 1 2) / (mkRat 1 3))) from hst.pat (k := 1) rfl) (show ZIn _ B116 d117 (ql ((mkRat 1 2) / (mkRat 1 3))) from hst.pat (k := 0) rfl) hq120 (by omega)) ?_)
  rintro e w126 ⟨rfl, hb⟩
  refine ⟨_, rfl, ?_⟩
  clear henv a; intro a henv
  replace hst := hst.call hb
  clear hb
  refine seq_g rfl henv rfl rfl (op_val (v := .bool (!decide ((textQ ((mkRat 1 2) / (mkRat 1 3))) = [51, 47, 50]))) henv rfl (rn_neqs (s := (textQ ((mkRat 1 2) / (mkRat 1 3)))) (t := [51, 47, 50]) henv rfl rfl) ?_)
  clear henv a; intro a henv
  rw [show (!decide ((textQ ((mkRat 1 2) / (mkRat 1 3))) = [51, 47, 50])) = false from (by decide +kernel)] at henv
  refine sv (v := .bool false) henv rfl (rn_pick henv rfl rfl) ?_
  clear henv a; intro a henv
  refine wpList_nil ?_
  refine th_n ?_
  refine if_f henv rfl (rfl) ?_
  refine wp_skip ?_
  refine th_n ?_
  refine wp_seq ?_
  refine region_seq ?_
  refine seq_step rfl (op_alloc (c := #[.bool (neg (qn 0)), .slice none (zl (qn 0)) 0, .bool (neg (ql 0)), .slice none (zl (ql 0)) 0]) henv hst rfl zero_anvil_ratio_Rat qcells ?_)
  clear henv hst a; intro a w128 g127 henv hst
  refine wpList_nil ?_
  refine th_n ?_
  refine wp_seq ?_
  refine wp_seq ?_
  refine region_any (n := 47) (Sk [bk g127 #[.bool (neg (qn 0)), .slice none (zl (qn 0)) 0, .bool (neg (ql 0)), .slice none (zl (ql 0)) 0] 91, bk g122 #[.bool (neg (qn ((mkRat 1 2) / (mkRat 1 3)))), .slice A114 (zl (qn ((mkRat 1 2) / (mkRat 1 3)))) c115, .bool (neg (ql ((mkRat 1 2) / (mkRat 1 3)))), .slice B116 (zl (ql ((mkRat 1 2) / (mkRat 1 3)))) d117] 91, bk g97 #[.bool (neg (qn 0)), .slice none (zl (qn 0)) 0, .bool (neg (ql 0)), .slice none (zl (ql 0)) 0] 91, bk g79 #[.bool (neg (qn ((0 : Int) : Rat))), .slice A72 (zl (qn ((0 : Int) : Rat))) c73, .bool (neg (ql ((0 : Int) : Rat))), .slice B74 (zl (ql ((0 : Int) : Rat))) d75] 91, bk g61 #[.bool (neg (qn 0)), .slice none (zl (qn 0)) 0, .bool (neg (ql 0)), .slice none (zl (ql 0)) 0] 91] [pfZ B116 d117 (ql ((mkRat 1 2) / (mkRat 1 3))), pfZ A114 c115 (qn ((mkRat 1 2) / (mkRat 1 3))), pfZ B110 d111 (ql (mkRat 1 3)), pfZ A108 c109 (qn (mkRat 1 3)), pfZ B103 d104 (ql (mkRat 1 2)), pfZ A101 c102 (qn (mkRat 1 2)), pfZ none 0 (ql 0), pfZ none 0 (qn 0), pfZ B92 d93 (ql 0), pfZ A90 c91 (qn 0), pfZ B85 d86 (ql (mkRat 1 2)), pfZ A83 c84 (qn (mkRat 1 2)), pfZ B74 d75 (ql ((0 : Int) : Rat)), pfZ A72 c73 (qn ((0 : Int) : Rat)), pfZ A68 c69 (-5), pfZ A64 c65 0, pfZ none 0 (ql 0), pfZ none 0 (qn 0), pfZ A56 c57 0, pfZ A52 c53 1] [] []) mixed rfl henv hst ?_
  clear henv hst; intro w129 henv hst
  refine tL (i := 0) 0 0 (rg 1 46) rfl (by kernel_rfl) (fun _ _ _ h => h) henv rfl ty_anvil_ratio_Rat rfl hst rfl rfl rfl ?_
  clear henv a; intro a henv
  refine sAny_one (i := 1) (by kernel_rfl) rfl rfl (op_call henv rfl Tryd.call92 rfl (text_q (x := 0) (show ZIn _ none 0 (qn 0) from hst.pat (k := 7) rfl) (show ZIn _ none 0 (ql 0) from hst.pat (k := 6) rfl) qs_zero (by omega)) ?_)
  rintro e w130 ⟨rfl, hb⟩
  refine ⟨_, rfl, ?_⟩
  clear henv a; intro a henv
  replace hst := hst.call hb
  clear hb
  refine ⟨.inr ⟨hst.kn.pick (rg 0 5) (rg 0 20), .inr (hst.kn.pick [] [])⟩, ?_⟩
  refine tA (i := 2) (rg 3 44) (v := .bool (!decide ((textQ 0) = [48]))) rfl (by kernel_rfl) (fun _ _ _ h => h) henv rfl (fun _ => rn_neqs (s := (textQ 0)) (t := [48]) henv rfl rfl) ?_
  clear henv a; intro a henv
  rw [show (!decide ((textQ 0) = [48])) = false from (by decide +kernel)] at henv
  refine tM (i := 3) (rg 4 43) rfl (by kernel_rfl) (fun _ _ _ h => h) henv rfl rfl ?_
  clear henv a; intro a henv
  refine tLg (i := 4) 0 0 (rg 5 42) rfl (by kernel_rfl) (fun _ _ _ h => h) henv rfl rfl rfl rfl ty_anvil_ratio_Rat rfl hst rfl rfl rfl ?_
  clear henv a; intro a henv
  have hs134 := qs_zero.d
  refine sAny_oneg (i := 5) (by kernel_rfl) rfl rfl henv rfl rfl rfl (op_call henv rfl Tryd.call89 rfl (den_q (x := 0) (show ZIn _ none 0 (qn 0) from hst.pat (k := 7) rfl) (show ZIn _ none 0 (ql 0) from hst.pat (k := 6) rfl) qs_zero (by omega)) ?_)
  rintro e w135 ⟨_, rfl, ⟨A131, c132, rfl, hz133⟩, hb⟩
  refine ⟨_, rfl, ?_⟩
  clear henv a; intro a henv
  replace hst := (hst.call hb).addZ hz133 ⟨nou_bk rfl, nou_bk rfl, nou_bk rfl, nou_bk rfl, nou_bk rfl, trivial⟩
  clear hz133
  clear hb
  refine ⟨.inr ⟨hst.kn.pick (rg 0 5) (rg 1 20), .inr (hst.kn.pick [] [])⟩, ?_⟩
  refine sAny_oneg (i := 6) (by kernel_rfl) rfl rfl henv rfl rfl rfl (op_call henv rfl Tryd.call72 rfl (text_z (z := (qd 0)) (show ZIn _ A131 c132 (qd 0) from hst.pat (k := 0) rfl) (by omega)) ?_)
  rintro e w136 ⟨rfl, hb⟩
  refine ⟨_, rfl, ?_⟩
  clear henv a; intro a henv
  replace hst := hst.call hb
  clear hb
  refine ⟨.inr ⟨hst.kn.pick (rg 0 5) (rg 1 20), .inr (hst.kn.pick [] [])⟩, ?_⟩
  refine tAg (i := 7) (rg 8 39) (v := .bool (!decide ((textZ (qd 0)) = [49]))) rfl (by kernel_rfl) (fun _ _ _ h => h) henv rfl rfl rfl rfl (fun _ => rn_neqs (s := (textZ (qd 0))) (t := [49]) henv rfl rfl) ?_
  clear henv a; intro a henv
  rw [show (!decide ((textZ (qd 0)) = [49])) = false from (by decide +kernel)] at henv
  refine tA (i := 8) (rg 9 38) (v := .bool false) rfl (by kernel_rfl) (fun _ _ _ h => h) henv rfl (fun _ => rn_pick henv rfl rfl) ?_
  clear henv a; intro a henv
  refine tM (i := 9) (rg 10 37) rfl (by kernel_rfl) (fun _ _ _ h => h) henv rfl rfl ?_
  clear henv a; intro a henv
  refine tLg (i := 10) 0 0 (rg 11 36) rfl (by kernel_rfl) (fun _ _ _ h => h) henv rfl rfl rfl rfl ty_anvil_ratio_Rat rfl hst rfl rfl rfl ?_
  clear henv a; intro a henv
  refine sAny_oneg (i := 11) (by kernel_rfl) rfl rfl henv rfl rfl rfl (op_call henv rfl Tryd.call67 rfl (whole_q (x := 0) (show ZIn _ none 0 (qn 0) from hst.pat (k := 8) rfl) (show ZIn _ none 0 (ql 0) from hst.pat (k := 7) rfl)) ?_)
  rintro e w137 ⟨rfl, hb⟩
  refine ⟨_, rfl, ?_⟩
  clear henv a; intro a henv
  replace hst := hst.call hb
  clear hb
  refine ⟨.inr ⟨hst.kn.pick (rg 0 5) (rg 1 20), .inr (hst.kn.pick [] [])⟩, ?_⟩
  rw [show (decide (ql 0 = 0)) = true from (by decide +kernel)] at henv
  refine tAg (i := 12) (rg 13 34) (v := .bool false) rfl (by kernel_rfl) (fun _ _ _ h => h) henv rfl rfl rfl rfl (fun _ => rn_un henv rfl rfl) ?_
  clear henv a; intro a henv
  refine tA (i := 13) (rg 14 33) (v := .bool false) rfl (by kernel_rfl) (fun _ _ _ h => h) henv rfl (fun _ => rn_pick henv rfl rfl) ?_
  clear henv a; intro a henv
  refine tM (i := 14) (rg 15 32) rfl (by kernel_rfl) (fun _ _ _ h => h) henv rfl rfl ?_
  clear henv a; intro a henv
  refine tLg (i := 15) 0 0 (rg 16 31) rfl (by kernel_rfl) (fun _ _ _ h => h) henv rfl rfl rfl rfl ty_anvil_ratio_Rat rfl hst rfl rfl rfl ?_
  clear henv a; intro a henv
  refine sAny_oneg (i := 16) (by kernel_rfl) rfl rfl henv rfl rfl rfl (op_call henv rfl Tryd.call63 rfl (sign_q (x := 0) (show ZIn _ none 0 (qn 0) from hst.pat (k := 8) rfl) (show ZIn _ none 0 (ql 0) from hst.pat (k := 7) rfl)) ?_)
  rintro e w138 ⟨rfl, hb⟩
  refine ⟨_, rfl, ?_⟩
  clear henv a; intro a henv
  replace hst := hst.call hb
  clear hb
  refine ⟨.inr ⟨hst.kn.pick (rg 0 5) (rg 1 20), .inr (hst.kn.pick [] [])⟩, ?_⟩
  refine tAg (i := 17) (rg 18 29) (v := .bool ((qn 0).sign != (0 : Int))) rfl (by kernel_rfl) (fun _ _ _ h => h) henv rfl rfl rfl rfl (fun _ => rn_bin henv rfl rfl rfl) ?_
  clear henv a; intro a henv
  rw [show ((qn 0).sign != (0 : Int)) = false from (by decide +kernel)] at henv
  refine tA (i := 18) (rg 19 28) (v := .bool false) rfl (by kernel_rfl) (fun _ _ _ h => h) henv rfl (fun _ => rn_pick henv rfl rfl) ?_
  clear henv a; intro a henv
  refine tM (i := 19) (rg 20 27) rfl (by kernel_rfl) (fun _ _ _ h => h) henv rfl rfl ?_
  clear henv a; intro a henv
  refine tLg (i := 20) 0 0 (rg 23 24) rfl (by kernel_rfl) (fun _ _ _ h => h) henv rfl rfl rfl rfl ty_anvil_ratio_Rat rfl hst rfl rfl rfl ?_
  clear henv a; intro a henv
  refine tAg (i := 21) (rg 22 25) (v := .func (.func 94) #[] #[]) rfl (by kernel_rfl) (fun _ _ _ h => h) henv rfl rfl rfl rfl (fun _ => rn_move henv rfl) ?_
  clear henv a; intro a henv
  refine sAny_oneg (i := 22) (by kernel_rfl) rfl rfl henv rfl rfl rfl (op_callc (vs := #[.string ⟨#[49, 47, 50]⟩]) henv rfl Tryd.call94 rfl rfl (calls_app (by simp) (qk_of (s := [49, 47, 50]) (r := mkRat 1 2) (by decide +kernel) (by decide))) ?_)
  rintro e w139 ⟨_, rfl, ⟨A140, c141, B142, d143, rfl, hz144, hz145⟩, hb⟩
  refine ⟨_, rfl, ?_⟩
  clear henv a; intro a henv
  replace hst := ((hst.call hb).addZ hz144 ⟨nou_bk rfl, nou_bk rfl, nou_bk rfl, nou_bk rfl, nou_bk rfl, trivial⟩).addZ hz145 ⟨nou_bk rfl, nou_bk rfl, nou_bk rfl, nou_bk rfl, nou_bk rfl, trivial⟩
  clear hz144 hz145
  clear hb
  refine ⟨.inr ⟨hst.kn.pick (rg 0 5) (rg 3 20), .inr (hst.kn.pick [] [])⟩, ?_⟩
  have hq152 : Qs 3 (0 + (mkRat 1 2)) := by have h := qs_zero.add qk_2; exact h
  refine sAny_oneg (i := 23) (by kernel_rfl) rfl rfl henv rfl rfl rfl (op_call henv rfl Tryd.call58 rfl (add_q (x := 0) (y := mkRat 1 2) (show ZIn _ none 0 (qn 0) from hst.pat (k := 10) rfl) (show ZIn _ none 0 (ql 0) from hst.pat (k := 9) rfl) (show ZIn _ A140 c141 (qn (mkRat 1 2)) from hst.pat (k := 1) rfl) (show ZIn _ B142 d143 (ql (mkRat 1 2)) from hst.pat (k := 0) rfl) qs_zero qk_2 (by omega)) ?_)
  rintro e w153 ⟨_, rfl, ⟨A146, c147, B148, d149, rfl, hz150, hz151⟩, hb⟩
  refine ⟨_, rfl, ?_⟩
  clear henv a; intro a henv
  replace hst := ((hst.call hb).addZ hz150 ⟨nou_bk rfl, nou_bk rfl, nou_bk rfl, nou_bk rfl, nou_bk rfl, trivial⟩).addZ hz151 ⟨nou_bk rfl, nou_bk rfl, nou_bk rfl, nou_bk rfl, nou_bk rfl, trivial⟩
  clear hz150 hz151
  clear hb
  refine ⟨.inr ⟨hst.kn.pick (rg 0 5) (rg 5 20), .inr (hst.kn.pick [] [])⟩, ?_⟩
  refine sAny_oneg (i := 24) (by kernel_rfl) rfl rfl henv rfl rfl rfl (op_call henv rfl Tryd.call92 rfl (text_q (x := 0 + (mkRat 1 2)) (show ZIn _ A146 c147 (qn (0 + (mkRat 1 2))) from hst.pat (k := 1) rfl) (show ZIn _ B148 d149 (ql (0 + (mkRat 1 2))) from hst.pat (k := 0) rfl) hq152 (by omega)) ?_)
  rintro e w154 ⟨rfl, hb⟩
  refine ⟨_, rfl, ?_⟩
  clear henv a; intro a henv
  replace hst := hst.call hb
  clear hb
  refine ⟨.inr ⟨hst.kn.pick (rg 0 5) (rg 5 20), .inr (hst.kn.pick [] [])⟩, ?_⟩
  refine tAg (i := 25) (rg 26 21) (v := .bool (!decide ((textQ (0 + (mkRat 1 2))) = [49, 47, 50]))) rfl (by kernel_rfl) (fun _ _ _ h => h) henv rfl rfl rfl rfl (fun _ => rn_neqs (s := (textQ (0 + (mkRat 1 2)))) (t := [49, 47, 50]) henv rfl rfl) ?_
  clear henv a; intro a henv
  rw [show (!decide ((textQ (0 + (mkRat 1 2))) = [49, 47, 50])) = false from (by decide +kernel)] at henv
  refine tA (i := 26) (rg 27 20) (v := .bool false) rfl (by kernel_rfl) (fun _ _ _ h => h) henv rfl (fun _ => rn_pick henv rfl rfl) ?_
  clear henv a; intro a henv
  refine tM (i := 27) (rg 28 19) rfl (by kernel_rfl) (fun _ _ _ h => h) henv rfl rfl ?_
  clear henv a; intro a henv
  refine tLg (i := 28) 0 0 (rg 31 16) rfl (by kernel_rfl) (fun _ _ _ h => h) henv rfl rfl rfl rfl ty_anvil_ratio_Rat rfl hst rfl rfl rfl ?_
  clear henv a; intro a henv
  refine tAg (i := 29) (rg 30 17) (v := .func (.func 94) #[] #[]) rfl (by kernel_rfl) (fun _ _ _ h => h) henv rfl rfl rfl rfl (fun _ => rn_move henv rfl) ?_
  clear henv a; intro a henv
  refine sAny_oneg (i := 30) (by kernel_rfl) rfl rfl henv rfl rfl rfl (op_callc (vs := #[.string ⟨#[49, 47, 50]⟩]) henv rfl Tryd.call94 rfl rfl (calls_app (by simp) (qk_of (s := [49, 47, 50]) (r := mkRat 1 2) (by decide +kernel) (by decide))) ?_)
  rintro e w155 ⟨_, rfl, ⟨A156, c157, B158, d159, rfl, hz160, hz161⟩, hb⟩
  refine ⟨_, rfl, ?_⟩
  clear henv a; intro a henv
  replace hst := ((hst.call hb).addZ hz160 ⟨nou_bk rfl, nou_bk rfl, nou_bk rfl, nou_bk rfl, nou_bk rfl, trivial⟩).addZ hz161 ⟨nou_bk rfl, nou_bk rfl, nou_bk rfl, nou_bk rfl, nou_bk rfl, trivial⟩
  clear hz160 hz161
  clear hb
  refine ⟨.inr ⟨hst.kn.pick (rg 0 5) (rg 7 20), .inr (hst.kn.pick [] [])⟩, ?_⟩
  have hq168 : Qs 2 (0 * (mkRat 1 2)) := by have h := qs_zero.mul qk_2; exact h
  refine sAny_oneg (i := 31) (by kernel_rfl) rfl rfl henv rfl rfl rfl (op_call henv rfl Tryd.call59 rfl (mul_q (x := 0) (y := mkRat 1 2) (show ZIn _ none 0 (qn 0) from hst.pat (k := 14) rfl) (show ZIn _ none 0 (ql 0) from hst.pat (k := 13) rfl) (show ZIn _ A156 c157 (qn (mkRat 1 2)) from hst.pat (k := 1) rfl) (show ZIn _ B158 d159 (ql (mkRat 1 2)) from hst.pat (k := 0) rfl) qs_zero qk_2 (by omega)) ?_)
  rintro e w169 ⟨_, rfl, ⟨A162, c163, B164, d165, rfl, hz166, hz167⟩, hb⟩
  refine ⟨_, rfl, ?_⟩
  clear henv a; intro a henv
  replace hst := ((hst.call hb).addZ hz166 ⟨nou_bk rfl, nou_bk rfl, nou_bk rfl, nou_bk rfl, nou_bk rfl, trivial⟩).addZ hz167 ⟨nou_bk rfl, nou_bk rfl, nou_bk rfl, nou_bk rfl, nou_bk rfl, trivial⟩
  clear hz166 hz167
  clear hb
  refine ⟨.inr ⟨hst.kn.pick (rg 0 5) (rg 9 20), .inr (hst.kn.pick [] [])⟩, ?_⟩
  refine sAny_oneg (i := 32) (by kernel_rfl) rfl rfl henv rfl rfl rfl (op_call henv rfl Tryd.call92 rfl (text_q (x := 0 * (mkRat 1 2)) (show ZIn _ A162 c163 (qn (0 * (mkRat 1 2))) from hst.pat (k := 1) rfl) (show ZIn _ B164 d165 (ql (0 * (mkRat 1 2))) from hst.pat (k := 0) rfl) hq168 (by omega)) ?_)
  rintro e w170 ⟨rfl, hb⟩
  refine ⟨_, rfl, ?_⟩
  clear henv a; intro a henv
  replace hst := hst.call hb
  clear hb
  refine ⟨.inr ⟨hst.kn.pick (rg 0 5) (rg 9 20), .inr (hst.kn.pick [] [])⟩, ?_⟩
  refine tAg (i := 33) (rg 34 13) (v := .bool (!decide ((textQ (0 * (mkRat 1 2))) = [48]))) rfl (by kernel_rfl) (fun _ _ _ h => h) henv rfl rfl rfl rfl (fun _ => rn_neqs (s := (textQ (0 * (mkRat 1 2)))) (t := [48]) henv rfl rfl) ?_
  clear henv a; intro a henv
  rw [show (!decide ((textQ (0 * (mkRat 1 2))) = [48])) = false from (by decide +kernel)] at henv
  refine tA (i := 34) (rg 35 12) (v := .bool false) rfl (by kernel_rfl) (fun _ _ _ h => h) henv rfl (fun _ => rn_pick henv rfl rfl) ?_
  clear henv a; intro a henv
  refine tM (i := 35) (rg 36 11) rfl (by kernel_rfl) (fun _ _ _ h => h) henv rfl rfl ?_
  clear henv a; intro a henv
  refine tLg (i := 36) 0 0 (rg 38 9) rfl (by kernel_rfl) (fun _ _ _ h => h) henv rfl rfl rfl rfl ty_anvil_ratio_Rat rfl hst rfl rfl rfl ?_
  clear henv a; intro a henv
  refine tLg (i := 37) 3 3 (rg 38 9) rfl (by kernel_rfl) (fun _ _ _ h => h) henv rfl rfl rfl rfl ty_anvil_ratio_Rat rfl hst rfl rfl rfl ?_
  clear henv a; intro a henv
  refine sAny_oneg (i := 38) (by kernel_rfl) rfl rfl henv rfl rfl rfl (op_call henv rfl Tryd.call64 rfl (cmp_q (x := 0) (y := ((0 : Int) : Rat)) (show ZIn _ none 0 (qn 0) from hst.pat (k := 16) rfl) (show ZIn _ none 0 (ql 0) from hst.pat (k := 15) rfl) (show ZIn _ A72 c73 (qn ((0 : Int) : Rat)) from hst.pat (k := 22) rfl) (show ZIn _ B74 d75 (ql ((0 : Int) : Rat)) from hst.pat (k := 21) rfl) qs_zero qk_0 (by omega)) ?_)
  rintro e w171 ⟨rfl, hb⟩
  refine ⟨_, rfl, ?_⟩
  clear henv a; intro a henv
  replace hst := hst.call hb
  clear hb
  refine ⟨.inr ⟨hst.kn.pick (rg 0 5) (rg 9 20), .inr (hst.kn.pick [] [])⟩, ?_⟩
  refine tAg (i := 39) (rg 40 7) (v := .bool ((cmpQ 0 ((0 : Int) : Rat)) != (0 : Int))) rfl (by kernel_rfl) (fun _ _ _ h => h) henv rfl rfl rfl rfl (fun _ => rn_bin henv rfl rfl rfl) ?_
  clear henv a; intro a henv
  rw [show ((cmpQ 0 ((0 : Int) : Rat)) != (0 : Int)) = false from (by decide +kernel)] at henv
  refine tA (i := 40) (rg 41 6) (v := .bool false) rfl (by kernel_rfl) (fun _ _ _ h => h) henv rfl (fun _ => rn_pick henv rfl rfl) ?_
  clear henv a; intro a henv
  refine tM (i := 41) (rg 42 5) rfl (by kernel_rfl) (fun _ _ _ h => h) henv rfl rfl ?_
  clear henv a; intro a henv
  refine tLg (i := 42) 0 0 (rg 43 4) rfl (by kernel_rfl) (fun _ _ _ h => h) henv rfl rfl rfl rfl ty_anvil_ratio_Rat rfl hst rfl rfl rfl ?_
  clear henv a; intro a henv
  have hq178 : Qs 1 (-0) := by have h := qs_zero.neg; exact h
  refine sAny_oneg (i := 43) (by kernel_rfl) rfl rfl henv rfl rfl rfl (op_call henv rfl Tryd.call61 rfl (neg_q (x := 0) (show ZIn _ none 0 (qn 0) from hst.pat (k := 16) rfl) (show ZIn _ none 0 (ql 0) from hst.pat (k := 15) rfl)) ?_)
  rintro e w179 ⟨_, rfl, ⟨A172, c173, B174, d175, rfl, hz176, hz177⟩, hb⟩
  refine ⟨_, rfl, ?_⟩
  clear henv a; intro a henv
  replace hst := ((hst.call hb).addZ hz176 ⟨nou_bk rfl, nou_bk rfl, nou_bk rfl, nou_bk rfl, nou_bk rfl, trivial⟩).addZ hz177 ⟨nou_bk rfl, nou_bk rfl, nou_bk rfl, nou_bk rfl, nou_bk rfl, trivial⟩
  clear hz176 hz177
  clear hb
  refine ⟨.inr ⟨hst.kn.pick (rg 0 5) (rg 11 20), .inr (hst.kn.pick [] [])⟩, ?_⟩
  refine sAny_oneg (i := 44) (by kernel_rfl) rfl rfl henv rfl rfl rfl (op_call henv rfl Tryd.call92 rfl (text_q (x := -0) (show ZIn _ A172 c173 (qn (-0)) from hst.pat (k := 1) rfl) (show ZIn _ B174 d175 (ql (-0)) from hst.pat (k := 0) rfl) hq178 (by omega)) ?_)
  rintro e w180 ⟨rfl, hb⟩
  refine ⟨_, rfl, ?_⟩
  clear henv a; intro a henv
  replace hst := hst.call hb
  clear hb
  refine ⟨.inr ⟨hst.kn.pick (rg 0 5) (rg 11 20), .inr (hst.kn.pick [] [])⟩, ?_⟩
  refine tAg (i := 45) [46] (v := .bool (!decide ((textQ (-0)) = [48]))) rfl (by kernel_rfl) (fun _ _ _ h => h) henv rfl rfl rfl rfl (fun _ => rn_neqs (s := (textQ (-0))) (t := [48]) henv rfl rfl) ?_
  clear henv a; intro a henv
  rw [show (!decide ((textQ (-0)) = [48])) = false from (by decide +kernel)] at henv
  refine tA (i := 46) [] (v := .bool false) rfl (by kernel_rfl) (fun _ _ _ h => h) henv rfl (fun _ => rn_pick henv rfl rfl) ?_
  clear henv a; intro a henv
  refine sAny_done (by kernel_rfl) ?_ _
  refine th_n ?_
  refine if_f henv rfl (rfl) ?_
  refine wp_skip ?_
  refine th_n ?_
  refine wp_seq ?_
  refine wp_seq ?_
  refine region_seq ?_
  refine sv (v := .func (.func 94) #[] #[]) henv rfl (rn_move henv rfl) ?_
  clear henv a; intro a henv
  refine seq_step rfl (op_callc (vs := #[.string ⟨#[49, 47, 50]⟩]) henv rfl Tryd.call94 rfl rfl (calls_app (by simp) (qk_of (s := [49, 47, 50]) (r := mkRat 1 2) (by decide +kernel) (by decide))) ?_)
  rintro e w181 ⟨_, rfl, ⟨A182, c183, B184, d185, rfl, hz186, hz187⟩, hb⟩
  refine ⟨_, rfl, ?_⟩
  clear henv a; intro a henv
  replace hst := ((hst.call hb).addZ hz186 ⟨nou_bk rfl, nou_bk rfl, nou_bk rfl, nou_bk rfl, nou_bk rfl, trivial⟩).addZ hz187 ⟨nou_bk rfl, nou_bk rfl, nou_bk rfl, nou_bk rfl, nou_bk rfl, trivial⟩
  clear hz186 hz187
  clear hb
  refine sv (v := .func (.func 94) #[] #[]) henv rfl (rn_move henv rfl) ?_
  clear henv a; intro a henv
  refine seq_step rfl (op_callc (vs := #[.string ⟨#[49, 47, 51]⟩]) henv rfl Tryd.call94 rfl rfl (calls_app (by simp) (qk_of (s := [49, 47, 51]) (r := mkRat 1 3) (by decide +kernel) (by decide))) ?_)
  rintro e w188 ⟨_, rfl, ⟨A189, c190, B191, d192, rfl, hz193, hz194⟩, hb⟩
  refine ⟨_, rfl, ?_⟩
  clear henv a; intro a henv
  replace hst := ((hst.call hb).addZ hz193 ⟨nou_bk rfl, nou_bk rfl, nou_bk rfl, nou_bk rfl, nou_bk rfl, trivial⟩).addZ hz194 ⟨nou_bk rfl, nou_bk rfl, nou_bk rfl, nou_bk rfl, nou_bk rfl, trivial⟩
  clear hz193 hz194
  clear hb
  have hq201 : Qs 3 ((mkRat 1 2) + (mkRat 1 3)) := by have h := qk_2.add qk_3; exact h
  refine seq_step rfl (op_call henv rfl Tryd.call58 rfl (add_q (x := mkRat 1 2) (y := mkRat 1 3) (show ZIn _ A182 c183 (qn (mkRat 1 2)) from hst.pat (k := 3) rfl) (show ZIn _ B184 d185 (ql (mkRat 1 2)) from hst.pat (k := 2) rfl) (show ZIn _ A189 c190 (qn (mkRat 1 3)) from hst.pat (k := 1) rfl) (show ZIn _ B191 d192 (ql (mkRat 1 3)) from hst.pat (k := 0) rfl) qk_2 qk_3 (by omega)) ?_)
  rintro e w202 ⟨_, rfl, ⟨A195, c196, B197, d198, rfl, hz199, hz200⟩, hb⟩
  refine ⟨_, rfl, ?_⟩
  clear henv a; intro a henv
  replace hst := ((hst.call hb).addZ hz199 ⟨nou_bk rfl, nou_bk rfl, nou_bk rfl, nou_bk rfl, nou_bk rfl, trivial⟩).addZ hz200 ⟨nou_bk rfl, nou_bk rfl, nou_bk rfl, nou_bk rfl, nou_bk rfl, trivial⟩
  clear hz199 hz200
  clear hb
  refine seq_step rfl (op_call henv rfl Tryd.call92 rfl (text_q (x := (mkRat 1 2) + (mkRat 1 3)) (show ZIn _ A195 c196 (qn ((mkRat 1 2) + (mkRat 1 3))) from hst.pat (k := 1) rfl) (show ZIn _ B197 d198 (ql ((mkRat 1 2) + (mkRat 1 3))) from hst.pat (k := 0) rfl) hq201 (by omega)) ?_)
  rintro e w203 ⟨rfl, hb⟩
  refine ⟨_, rfl, ?_⟩
  clear henv a; intro a henv
  replace hst := hst.call hb
  clear hb
  refine sv (v := .bool (!decide ((textQ ((mkRat 1 2) + (mkRat 1 3))) = [53, 47, 54]))) henv rfl (rn_neqs (s := (textQ ((mkRat 1 2) + (mkRat 1 3)))) (t := [53, 47, 54]) henv rfl rfl) ?_
  clear henv a; intro a henv
  rw [show (!decide ((textQ ((mkRat 1 2) + (mkRat 1 3))) = [53, 47, 54])) = false from (by decide +kernel)] at henv
  revert a
  refine mA rfl rfl ?_
  refine gA (v := .func (.func 94) #[] #[]) rfl rfl rfl rfl (fun _ henv => rn_move henv rfl) ?_
  intro a henv
  refine seq_g rfl henv rfl rfl (op_callc (vs := #[.string ⟨#[49, 47, 50]⟩]) henv rfl Tryd.call94 rfl rfl (calls_app (by simp) (qk_of (s := [49, 47, 50]) (r := mkRat 1 2) (by decide +kernel) (by decide))) ?_)
  rintro e w204 ⟨_, rfl, ⟨A205, c206, B207, d208, rfl, hz209, hz210⟩, hb⟩
  refine ⟨_, rfl, ?_⟩
  clear henv a; intro a henv
  replace hst := ((hst.call hb).addZ hz209 ⟨nou_bk rfl, nou_bk rfl, nou_bk rfl, nou_bk rfl, nou_bk rfl, trivial⟩).addZ hz210 ⟨nou_bk rfl, nou_bk rfl, nou_bk rfl, nou_bk rfl, nou_bk rfl, trivial⟩
  clear hz209 hz210
  clear hb
  refine seq_g rfl henv rfl rfl (op_val (v := .func (.func 94) #[] #[]) henv rfl (rn_move henv rfl) ?_)
  clear henv a; intro a henv
  refine seq_g rfl henv rfl rfl (op_callc (vs := #[.string ⟨#[49, 47, 51]⟩]) henv rfl Tryd.call94 rfl rfl (calls_app (by simp) (qk_of (s := [49, 47, 51]) (r := mkRat 1 3) (by decide +kernel) (by decide))) ?_)
  rintro e w211 ⟨_, rfl, ⟨A212, c213, B214, d215, rfl, hz216, hz217⟩, hb⟩
  refine ⟨_, rfl, ?_⟩
  clear henv a; intro a henv
  replace hst := ((hst.call hb).addZ hz216 ⟨nou_bk rfl, nou_bk rfl, nou_bk rfl, nou_bk rfl, nou_bk rfl, trivial⟩).addZ hz217 ⟨nou_bk rfl, nou_bk rfl, nou_bk rfl, nou_bk rfl, nou_bk rfl, trivial⟩
  clear hz216 hz217
  clear hb
  have hq224 : Qs 3 ((mkRat 1 2) - (mkRat 1 3)) := by have h := qk_2.sub qk_3; exact h
  refine seq_g rfl henv rfl rfl (op_call henv rfl Tryd.call60 rfl (sub_q (x := mkRat 1 2) (y := mkRat 1 3) (show ZIn _ A205 c206 (qn (mkRat 1 2)) from hst.pat (k := 3) rfl) (show ZIn _ B207 d208 (ql (mkRat 1 2)) from hst.pat (k := 2) rfl) (show ZIn _ A212 c213 (qn (mkRat 1 3)) from hst.pat (k := 1) rfl) (show ZIn _ B214 d215 (ql (mkRat 1 3)) from hst.pat (k := 0) rfl) qk_2 qk_3 (by omega)) ?_)
  rintro e w225 ⟨_, rfl, ⟨A218, c219, B220, d221, rfl, hz222, hz223⟩, hb⟩
  refine ⟨_, rfl, ?_⟩
  clear henv a; intro a henv
  replace hst := ((hst.call hb).addZ hz222 ⟨nou_bk rfl, nou_bk rfl, nou_bk rfl, nou_bk rfl, nou_bk rfl, trivial⟩).addZ hz223 ⟨nou_bk rfl, nou_bk rfl, nou_bk rfl, nou_bk rfl, nou_bk rfl, trivial⟩
  clear hz222 hz223
  clear hb
  refine seq_g rfl henv rfl rfl (op_call henv rfl Tryd.call92 rfl (text_q (x := (mkRat 1 2) - (mkRat 1 3)) (show ZIn _ A218 c219 (qn ((mkRat 1 2) - (mkRat 1 3))) from hst.pat (k := 1) rfl) (show ZIn _ B220 d221 (ql ((mkRat 1 2) - (mkRat 1 3))) from hst.pat (k := 0) rfl) hq224 (by omega)) ?_)
  rintro e w226 ⟨rfl, hb⟩
  refine ⟨_, rfl, ?_⟩
  clear henv a; intro a henv
  replace hst := hst.call hb
  clear hb
  refine seq_g rfl henv rfl rfl (op_val (v := .bool (!decide ((textQ ((mkRat 1 2) - (mkRat 1 3))) = [49, 47, 54]))) henv rfl (rn_neqs (s := (textQ ((mkRat 1 2) - (mkRat 1 3)))) (t := [49, 47, 54]) henv rfl rfl) ?_)
  clear henv a; intro a henv
  rw [show (!decide ((textQ ((mkRat 1 2) - (mkRat 1 3))) = [49, 47, 54])) = false from (by decide +kernel)] at henv
  revert a
  refine sA (v := .bool false) rfl (fun _ henv => rn_pick henv rfl rfl) ?_
  refine mA rfl rfl ?_
  refine gA (v := .func (.func 94) #[] #[]) rfl rfl rfl rfl (fun _ henv => rn_move henv rfl) ?_
  intro a henv
  refine seq_g rfl henv rfl rfl (op_callc (vs := #[.string ⟨#[49, 47, 50]⟩]) henv rfl Tryd.call94 rfl rfl (calls_app (by simp) (qk_of (s := [49, 47, 50]) (r := mkRat 1 2) (by decide +kernel) (by decide))) ?_)
  rintro e w227 ⟨_, rfl, ⟨A228, c229, B230, d231, rfl, hz232, hz233⟩, hb⟩
  refine ⟨_, rfl, ?_⟩
  clear henv a; intro a henv
  replace hst := ((hst.call hb).addZ hz232 ⟨nou_bk rfl, nou_bk rfl, nou_bk rfl, nou_bk rfl, nou_bk rfl, trivial⟩).addZ hz233 ⟨nou_bk rfl, nou_bk rfl, nou_bk rfl, nou_bk rfl, nou_bk rfl, trivial⟩
  clear hz232 hz233
  clear hb
  refine seq_g rfl henv rfl rfl (op_val (v := .func (.func 94) #[] #[]) henv rfl (rn_move henv rfl) ?_)
  clear henv a; intro a henv
  refine seq_g rfl henv rfl rfl (op_callc (vs := #[.string ⟨#[49, 47, 51]⟩]) henv rfl Tryd.call94 rfl rfl (calls_app (by simp) (qk_of (s := [49, 47, 51]) (r := mkRat 1 3) (by decide +kernel) (by decide))) ?_)
  rintro e w234 ⟨_, rfl, ⟨A235, c236, B237, d238, rfl, hz239, hz240⟩, hb⟩
  refine ⟨_, rfl, ?_⟩
  clear henv a; intro a henv
  replace hst := ((hst.call hb).addZ hz239 ⟨nou_bk rfl, nou_bk rfl, nou_bk rfl, nou_bk rfl, nou_bk rfl, trivial⟩).addZ hz240 ⟨nou_bk rfl, nou_bk rfl, nou_bk rfl, nou_bk rfl, nou_bk rfl, trivial⟩
  clear hz239 hz240
  clear hb
  have hq247 : Qs 2 ((mkRat 1 2) * (mkRat 1 3)) := by have h := qk_2.mul qk_3; exact h
  refine seq_g rfl henv rfl rfl (op_call henv rfl Tryd.call59 rfl (mul_q (x := mkRat 1 2) (y := mkRat 1 3) (show ZIn _ A228 c229 (qn (mkRat 1 2)) from hst.pat (k := 3) rfl) (show ZIn _ B230 d231 (ql (mkRat 1 2)) from hst.pat (k := 2) rfl) (show ZIn _ A235 c236 (qn (mkRat 1 3)) from hst.pat (k := 1) rfl) (show ZIn _ B237 d238 (ql (mkRat 1 3)) from hst.pat (k := 0) rfl) qk_2 qk_3 (by omega)) ?_)
  rintro e w248 ⟨_, rfl, ⟨A241, c242, B243, d244, rfl, hz245, hz246⟩, hb⟩
  refine ⟨_, rfl, ?_⟩
  clear henv a; intro a henv
  replace hst := ((hst.call hb).addZ hz245 ⟨nou_bk rfl, nou_bk rfl, nou_bk rfl, nou_bk rfl, nou_bk rfl, trivial⟩).addZ hz246 ⟨nou_bk rfl, nou_bk rfl, nou_bk rfl, nou_bk rfl, nou_bk rfl, trivial⟩
  clear hz245 hz246
  clear hb
  refine seq_g rfl henv rfl rfl (op_call henv rfl Tryd.call92 rfl (text_q (x := (mkRat 1 2) * (mkRat 1 3)) (show ZIn _ A241 c242 (qn ((mkRat 1 2) * (mkRat 1 3))) from hst.pat (k := 1) rfl) (show ZIn _ B243 d244 (ql ((mkRat 1 2) * (mkRat 1 3))) from hst.pat (k := 0) rfl) hq247 (by omega)) ?_)
  rintro e w249 ⟨rfl, hb⟩
  refine ⟨_, rfl, ?_⟩
  clear henv a; intro a henv
  replace hst := hst.call hb
  clear hb
  refine seq_g rfl henv rfl rfl (op_val (v := .bool (!decide ((textQ ((mkRat 1 2) * (mkRat 1 3))) = [49, 47, 54]))) henv rfl (rn_neqs (s := (textQ ((mkRat 1 2) * (mkRat 1 3)))) (t := [49, 47, 54]) henv rfl rfl) ?_)
  clear henv a; intro a henv
  rw [show (!decide ((textQ ((mkRat 1 2) * (mkRat 1 3))) = [49, 47, 54])) = false from (by decide +kernel)] at henv
  revert a
  refine sA (v := .bool false) rfl (fun _ henv => rn_pick henv rfl rfl) ?_
  refine mA rfl rfl ?_
  refine gA (v := .func (.func 94) #[] #[]) rfl rfl rfl rfl (fun _ henv => rn_move henv rfl) ?_
  intro a henv
  refine seq_g rfl henv rfl rfl (op_callc (vs := #[.string ⟨#[49, 47, 50]⟩]) henv rfl Tryd.call94 rfl rfl (calls_app (by simp) (qk_of (s := [49, 47, 50]) (r := mkRat 1 2) (by decide +kernel) (by decide))) ?_)
  rintro e w250 ⟨_, rfl, ⟨A251, c252, B253, d254, rfl, hz255, hz256⟩, hb⟩
  refine ⟨_, rfl, ?_⟩
  clear henv a; intro a henv
  replace hst := ((hst.call hb).addZ hz255 ⟨nou_bk rfl, nou_bk rfl, nou_bk rfl, nou_bk rfl, nou_bk rfl, trivial⟩).addZ hz256 ⟨nou_bk rfl, nou_bk rfl, nou_bk rfl, nou_bk rfl, nou_bk rfl, trivial⟩
  clear hz255 hz256
  clear hb
  refine seq_g rfl henv rfl rfl (op_val (v := .func (.func 94) #[] #[]) henv rfl (rn_move henv rfl) ?_)
  clear henv a; intro a henv
  refine seq_g rfl henv rfl rfl (op_callc (vs := #[.string ⟨#[49, 47, 51]⟩]) henv rfl Tryd.call94 rfl rfl (calls_app (by simp) (qk_of (s := [49, 47, 51]) (r := mkRat 1 3) (by decide +kernel) (by decide))) ?_)
  rintro e w257 ⟨_, rfl, ⟨A258, c259, B260, d261, rfl, hz262, hz263⟩, hb⟩
  refine ⟨_, rfl, ?_⟩
  clear henv a; intro a henv
  replace hst := ((hst.call hb).addZ hz262 ⟨nou_bk rfl, nou_bk rfl, nou_bk rfl, nou_bk rfl, nou_bk rfl, trivial⟩).addZ hz263 ⟨nou_bk rfl, nou_bk rfl, nou_bk rfl, nou_bk rfl, nou_bk rfl, trivial⟩
  clear hz262 hz263
  clear hb
  refine seq_g rfl henv rfl rfl (op_call henv rfl Tryd.call64 rfl (cmp_q (x := mkRat 1 2) (y := mkRat 1 3) (show ZIn _ A251 c252 (qn (mkRat 1 2)) from hst.pat (k := 3) rfl) (show ZIn _ B253 d254 (ql (mkRat 1 2)) from hst.pat (k := 2) rfl) (show ZIn _ A258 c259 (qn (mkRat 1 3)) from hst.pat (k := 1) rfl) (show ZIn _ B260 d261 (ql (mkRat 1 3)) from hst.pat (k := 0) rfl) qk_2 qk_3 (by omega)) ?_)
  rintro e w264 ⟨rfl, hb⟩
  refine ⟨_, rfl, ?_⟩
  clear henv a; intro a henv
  replace hst := hst.call hb
  clear hb
  refine seq_g rfl henv rfl rfl (op_val (v := .bool ((cmpQ (mkRat 1 2) (mkRat 1 3)) != (1 : Int))) henv rfl (rn_bin henv rfl rfl rfl) ?_)
  clear henv a; intro a henv
  rw [show ((cmpQ (mkRat 1 2) (mkRat 1 3)) != (1 : Int)) = false from (by decide +kernel)] at henv
  refine sv (v := .bool false) henv rfl (rn_pick henv rfl rfl) ?_
  clear henv a; intro a henv
  refine wpList_nil ?_
  refine th_n ?_
  refine if_f henv rfl (rfl) ?_
  refine wp_skip ?_
  refine th_n ?_
  refine wp_seq ?_
  refine region_seq ?_
  refine sv (v := .func (.func 94) #[] #[]) henv rfl (rn_move henv rfl) ?_
  clear henv a; intro a henv
  refine seq_step rfl (op_callc (vs := #[.string ⟨#[49, 47, 50]⟩]) henv rfl Tryd.call94 rfl rfl (calls_app (by simp) (qk_of (s := [49, 47, 50]) (r := mkRat 1 2) (by decide +kernel) (by decide))) ?_)
  rintro e w265 ⟨_, rfl, ⟨A266, c267, B268, d269, rfl, hz270, hz271⟩, hb⟩
  refine ⟨_, rfl, ?_⟩
  clear henv a; intro a henv
  replace hst := ((hst.call hb).addZ hz270 ⟨nou_bk rfl, nou_bk rfl, nou_bk rfl, nou_bk rfl, nou_bk rfl, trivial⟩).addZ hz271 ⟨nou_bk rfl, nou_bk rfl, nou_bk rfl, nou_bk rfl, nou_bk rfl, trivial⟩
  clear hz270 hz271
  clear hb
  refine sv (v := .func (.func 94) #[] #[]) henv rfl (rn_move henv rfl) ?_
  clear henv a; intro a henv
  refine seq_step rfl (op_callc (vs := #[.string ⟨#[45, 50, 47, 51]⟩]) henv rfl Tryd.call94 rfl rfl (calls_app (by simp) (qk_of (s := [45, 50, 47, 51]) (r := mkRat (-2) 3) (by decide +kernel) (by decide))) ?_)
  rintro e w272 ⟨_, rfl, ⟨A273, c274, B275, d276, rfl, hz277, hz278⟩, hb⟩
  refine ⟨_, rfl, ?_⟩
  clear henv a; intro a henv
  replace hst := ((hst.call hb).addZ hz277 ⟨nou_bk rfl, nou_bk rfl, nou_bk rfl, nou_bk rfl, nou_bk rfl, trivial⟩).addZ hz278 ⟨nou_bk rfl, nou_bk rfl, nou_bk rfl, nou_bk rfl, nou_bk rfl, trivial⟩
  clear hz277 hz278
  clear hb
  refine sv (v := .func (.func 94) #[] #[]) henv rfl (rn_move henv rfl) ?_
  clear henv a; intro a henv
  refine seq_step rfl (op_callc (vs := #[.string ⟨#[52]⟩]) henv rfl Tryd.call94 rfl rfl (calls_app (by simp) (qk_of (s := [52]) (r := ((4 : Int) : Rat)) (by decide +kernel) (by decide))) ?_)
  rintro e w279 ⟨_, rfl, ⟨A280, c281, B282, d283, rfl, hz284, hz285⟩, hb⟩
  refine ⟨_, rfl, ?_⟩
  clear henv a; intro a henv
  replace hst := ((hst.call hb).addZ hz284 ⟨nou_bk rfl, nou_bk rfl, nou_bk rfl, nou_bk rfl, nou_bk rfl, trivial⟩).addZ hz285 ⟨nou_bk rfl, nou_bk rfl, nou_bk rfl, nou_bk rfl, nou_bk rfl, trivial⟩
  clear hz284 hz285
  clear hb
  refine seq_step rfl (op_buildSlice (z := 4) (pv := #[(0, .agg #[.bool (neg (qn (mkRat 1 2))), .slice A266 (zl (qn (mkRat 1 2))) c267, .bool (neg (ql (mkRat 1 2))), .slice B268 (zl (ql (mkRat 1 2))) d269]), (1, .agg #[.bool (neg (qn (mkRat (-2) 3))), .slice A273 (zl (qn (mkRat (-2) 3))) c274, .bool (neg (ql (mkRat (-2) 3))), .slice B275 (zl (ql (mkRat (-2) 3))) d276]), (2, .agg #[.bool (neg (qn ((4 : Int) : Rat))), .slice A280 (zl (qn ((4 : Int) : Rat))) c281, .bool (neg (ql ((4 : Int) : Rat))), .slice B282 (zl (ql ((4 : Int) : Rat))) d283])]) (c := #[.bool (neg (qn (mkRat 1 2))), .slice A266 (zl (qn (mkRat 1 2))) c267, .bool (neg (ql (mkRat 1 2))), .slice B268 (zl (ql (mkRat 1 2))) d269, .bool (neg (qn (mkRat (-2) 3))), .slice A273 (zl (qn (mkRat (-2) 3))) c274, .bool (neg (ql (mkRat (-2) 3))), .slice B275 (zl (ql (mkRat (-2) 3))) d276, .bool (neg (qn ((4 : Int) : Rat))), .slice A280 (zl (qn ((4 : Int) : Rat))) c281, .bool (neg (ql ((4 : Int) : Rat))), .slice B282 (zl (ql ((4 : Int) : Rat))) d283]) henv hst rfl Tryd.underlying105 (ty_anvil_ratio_Rat.size) zero_anvil_ratio_Rat (by decide) (by decide) rfl (by kernel_rfl) ?_)
  clear henv hst a; intro a w287 g286 henv hst
  replace hst := hst.nilEs FK
  replace hst := hst.and2 (i := 6) (j := 5) rfl rfl
  replace hst : St w0 _ [bk g286 #[.bool (neg (qn (mkRat 1 2))), .slice A266 (zl (qn (mkRat 1 2))) c267, .bool (neg (ql (mkRat 1 2))), .slice B268 (zl (ql (mkRat 1 2))) d269, .bool (neg (qn (mkRat (-2) 3))), .slice A273 (zl (qn (mkRat (-2) 3))) c274, .bool (neg (ql (mkRat (-2) 3))), .slice B275 (zl (ql (mkRat (-2) 3))) d276, .bool (neg (qn ((4 : Int) : Rat))), .slice A280 (zl (qn ((4 : Int) : Rat))) c281, .bool (neg (ql ((4 : Int) : Rat))), .slice B282 (zl (ql ((4 : Int) : Rat))) d283] 91, bk g127 #[.bool (neg (qn 0)), .slice none (zl (qn 0)) 0, .bool (neg (ql 0)), .slice none (zl (ql 0)) 0] 91, bk g122 #[.bool (neg (qn ((mkRat 1 2) / (mkRat 1 3)))), .slice A114 (zl (qn ((mkRat 1 2) / (mkRat 1 3)))) c115, .bool (neg (ql ((mkRat 1 2) / (mkRat 1 3)))), .slice B116 (zl (ql ((mkRat 1 2) / (mkRat 1 3)))) d117] 91, bk g97 #[.bool (neg (qn 0)), .slice none (zl (qn 0)) 0, .bool (neg (ql 0)), .slice none (zl (ql 0)) 0] 91, bk g79 #[.bool (neg (qn ((0 : Int) : Rat))), .slice A72 (zl (qn ((0 : Int) : Rat))) c73, .bool (neg (ql ((0 : Int) : Rat))), .slice B74 (zl (ql ((0 : Int) : Rat))) d75] 91, bk g61 #[.bool (neg (qn 0)), .slice none (zl (qn 0)) 0, .bool (neg (ql 0)), .slice none (zl (ql 0)) 0] 91] [FK (A266, c267, B268, d269, (mkRat 1 2)), pfEs FK ([]), pfZ B282 d283 (ql ((4 : Int) : Rat)), pfZ A280 c281 (qn ((4 : Int) : Rat)), pfZ B275 d276 (ql (mkRat (-2) 3)), pfZ A273 c274 (qn (mkRat (-2) 3)), pfZ B268 d269 (ql (mkRat 1 2)), pfZ A266 c267 (qn (mkRat 1 2)), pfZ B260 d261 (ql (mkRat 1 3)), pfZ A258 c259 (qn (mkRat 1 3)), pfZ B253 d254 (ql (mkRat 1 2)), pfZ A251 c252 (qn (mkRat 1 2)), pfZ B243 d244 (ql ((mkRat 1 2) * (mkRat 1 3))), pfZ A241 c242 (qn ((mkRat 1 2) * (mkRat 1 3))), pfZ B237 d238 (ql (mkRat 1 3)), pfZ A235 c236 (qn (mkRat 1 3)), pfZ B230 d231 (ql (mkRat 1 2)), pfZ A228 c229 (qn (mkRat 1 2)), pfZ B220 d221 (ql ((mkRat 1 2) - (mkRat 1 3))), pfZ A218 c219 (qn ((mkRat 1 2) - (mkRat 1 3))), pfZ B214 d215 (ql (mkRat 1 3)), pfZ A212 c213 (qn (mkRat 1 3)), pfZ B207 d208 (ql (mkRat 1 2)), pfZ A205 c206 (qn (mkRat 1 2)), pfZ B197 d198 (ql ((mkRat 1 2) + (mkRat 1 3))), pfZ A195 c196 (qn ((mkRat 1 2) + (mkRat 1 3))), pfZ B191 d192 (ql (mkRat 1 3)), pfZ A189 c190 (qn (mkRat 1 3)), pfZ B184 d185 (ql (mkRat 1 2)), pfZ A182 c183 (qn (mkRat 1 2)), pfZ B174 d175 (ql (-0)), pfZ A172 c173 (qn (-0)), pfZ B164 d165 (ql (0 * (mkRat 1 2))), pfZ A162 c163 (qn (0 * (mkRat 1 2))), pfZ B158 d159 (ql (mkRat 1 2)), pfZ A156 c157 (qn (mkRat 1 2)), pfZ B148 d149 (ql (0 + (mkRat 1 2))), pfZ A146 c147 (qn (0 + (mkRat 1 2))), pfZ B142 d143 (ql (mkRat 1 2)), pfZ A140 c141 (qn (mkRat 1 2)), pfZ A131 c132 (qd 0), pfZ B116 d117 (ql ((mkRat 1 2) / (mkRat 1 3))), pfZ A114 c115 (qn ((mkRat 1 2) / (mkRat 1 3))), pfZ B110 d111 (ql (mkRat 1 3)), pfZ A108 c109 (qn (mkRat 1 3)), pfZ B103 d104 (ql (mkRat 1 2)), pfZ A101 c102 (qn (mkRat 1 2)), pfZ none 0 (ql 0), pfZ none 0 (qn 0), pfZ B92 d93 (ql 0), pfZ A90 c91 (qn 0), pfZ B85 d86 (ql (mkRat 1 2)), pfZ A83 c84 (qn (mkRat 1 2)), pfZ B74 d75 (ql ((0 : Int) : Rat)), pfZ A72 c73 (qn ((0 : Int) : Rat)), pfZ A68 c69 (-5), pfZ A64 c65 0, pfZ none 0 (ql 0), pfZ none 0 (qn 0), pfZ A56 c57 0, pfZ A52 c53 1] := hst
  replace hst := hst.snocEs (e := (A266, c267, B268, d269, (mkRat 1 2))) (i := 1) (j := 0) rfl rfl
  replace hst : St w0 _ [bk g286 #[.bool (neg (qn (mkRat 1 2))), .slice A266 (zl (qn (mkRat 1 2))) c267, .bool (neg (ql (mkRat 1 2))), .slice B268 (zl (ql (mkRat 1 2))) d269, .bool (neg (qn (mkRat (-2) 3))), .slice A273 (zl (qn (mkRat (-2) 3))) c274, .bool (neg (ql (mkRat (-2) 3))), .slice B275 (zl (ql (mkRat (-2) 3))) d276, .bool (neg (qn ((4 : Int) : Rat))), .slice A280 (zl (qn ((4 : Int) : Rat))) c281, .bool (neg (ql ((4 : Int) : Rat))), .slice B282 (zl (ql ((4 : Int) : Rat))) d283] 91, bk g127 #[.bool (neg (qn 0)), .slice none (zl (qn 0)) 0, .bool (neg (ql 0)), .slice none (zl (ql 0)) 0] 91, bk g122 #[.bool (neg (qn ((mkRat 1 2) / (mkRat 1 3)))), .slice A114 (zl (qn ((mkRat 1 2) / (mkRat 1 3)))) c115, .bool (neg (ql ((mkRat 1 2) / (mkRat 1 3)))), .slice B116 (zl (ql ((mkRat 1 2) / (mkRat 1 3)))) d117] 91, bk g97 #[.bool (neg (qn 0)), .slice none (zl (qn 0)) 0, .bool (neg (ql 0)), .slice none (zl (ql 0)) 0] 91, bk g79 #[.bool (neg (qn ((0 : Int) : Rat))), .slice A72 (zl (qn ((0 : Int) : Rat))) c73, .bool (neg (ql ((0 : Int) : Rat))), .slice B74 (zl (ql ((0 : Int) : Rat))) d75] 91, bk g61 #[.bool (neg (qn 0)), .slice none (zl (qn 0)) 0, .bool (neg (ql 0)), .slice none (zl (ql 0)) 0] 91] [pfEs FK ([(A266, c267, B268, d269, (mkRat 1 2))]), FK (A266, c267, B268, d269, (mkRat 1 2)), pfEs FK ([]), pfZ B282 d283 (ql ((4 : Int) : Rat)), pfZ A280 c281 (qn ((4 : Int) : Rat)), pfZ B275 d276 (ql (mkRat (-2) 3)), pfZ A273 c274 (qn (mkRat (-2) 3)), pfZ B268 d269 (ql (mkRat 1 2)), pfZ A266 c267 (qn (mkRat 1 2)), pfZ B260 d261 (ql (mkRat 1 3)), pfZ A258 c259 (qn (mkRat 1 3)), pfZ B253 d254 (ql (mkRat 1 2)), pfZ A251 c252 (qn (mkRat 1 2)), pfZ B243 d244 (ql ((mkRat 1 2) * (mkRat 1 3))), pfZ A241 c242 (qn ((mkRat 1 2) * (mkRat 1 3))), pfZ B237 d238 (ql (mkRat 1 3)), pfZ A235 c236 (qn (mkRat 1 3)), pfZ B230 d231 (ql (mkRat 1 2)), pfZ A228 c229 (qn (mkRat 1 2)), pfZ B220 d221 (ql ((mkRat 1 2) - (mkRat 1 3))), pfZ A218 c219 (qn ((mkRat 1 2) - (mkRat 1 3))), pfZ B214 d215 (ql (mkRat 1 3)), pfZ A212 c213 (qn (mkRat 1 3)), pfZ B207 d208 (ql (mkRat 1 2)), pfZ A205 c206 (qn (mkRat 1 2)), pfZ B197 d198 (ql ((mkRat 1 2) + (mkRat 1 3))), pfZ A195 c196 (qn ((mkRat 1 2) + (mkRat 1 3))), pfZ B191 d192 (ql (mkRat 1 3)), pfZ A189 c190 (qn (mkRat 1 3)), pfZ B184 d185 (ql (mkRat 1 2)), pfZ A182 c183 (qn (mkRat 1 2)), pfZ B174 d175 (ql (-0)), pfZ A172 c173 (qn (-0)), pfZ B164 d165 (ql (0 * (mkRat 1 2))), pfZ A162 c163 (qn (0 * (mkRat 1 2))), pfZ B158 d159 (ql (mkRat 1 2)), pfZ A156 c157 (qn (mkRat 1 2)), pfZ B148 d149 (ql (0 + (mkRat 1 2))), pfZ A146 c147 (qn (0 + (mkRat 1 2))), pfZ B142 d143 (ql (mkRat 1 2)), pfZ A140 c141 (qn (mkRat 1 2)), pfZ A131 c132 (qd 0), pfZ B116 d117 (ql ((mkRat 1 2) / (mkRat 1 3))), pfZ A114 c115 (qn ((mkRat 1 2) / (mkRat 1 3))), pfZ B110 d111 (ql (mkRat 1 3)), pfZ A108 c109 (qn (mkRat 1 3)), pfZ B103 d104 (ql (mkRat 1 2)), pfZ A101 c102 (qn (mkRat 1 2)), pfZ none 0 (ql 0), pfZ none 0 (qn 0), pfZ B92 d93 (ql 0), pfZ A90 c91 (qn 0), pfZ B85 d86 (ql (mkRat 1 2)), pfZ A83 c84 (qn (mkRat 1 2)), pfZ B74 d75 (ql ((0 : Int) : Rat)), pfZ A72 c73 (qn ((0 : Int) : Rat)), pfZ A68 c69 (-5), pfZ A64 c65 0, pfZ none 0 (ql 0), pfZ none 0 (qn 0), pfZ A56 c57 0, pfZ A52 c53 1] := hst
  replace hst := hst.and2 (i := 6) (j := 5) rfl rfl
  replace hst : St w0 _ [bk g286 #[.bool (neg (qn (mkRat 1 2))), .slice A266 (zl (qn (mkRat 1 2))) c267, .bool (neg (ql (mkRat 1 2))), .slice B268 (zl (ql (mkRat 1 2))) d269, .bool (neg (qn (mkRat (-2) 3))), .slice A273 (zl (qn (mkRat (-2) 3))) c274, .bool (neg (ql (mkRat (-2) 3))), .slice B275 (zl (ql (mkRat (-2) 3))) d276, .bool (neg (qn ((4 : Int) : Rat))), .slice A280 (zl (qn ((4 : Int) : Rat))) c281, .bool (neg (ql ((4 : Int) : Rat))), .slice B282 (zl (ql ((4 : Int) : Rat))) d283] 91, bk g127 #[.bool (neg (qn 0)), .slice none (zl (qn 0)) 0, .bool (neg (ql 0)), .slice none (zl (ql 0)) 0] 91, bk g122 #[.bool (neg (qn ((mkRat 1 2) / (mkRat 1 3)))), .slice A114 (zl (qn ((mkRat 1 2) / (mkRat 1 3)))) c115, .bool (neg (ql ((mkRat 1 2) / (mkRat 1 3)))), .slice B116 (zl (ql ((mkRat 1 2) / (mkRat 1 3)))) d117] 91, bk g97 #[.bool (neg (qn 0)), .slice none (zl (qn 0)) 0, .bool (neg (ql 0)), .slice none (zl (ql 0)) 0] 91, bk g79 #[.bool (neg (qn ((0 : Int) : Rat))), .slice A72 (zl (qn ((0 : Int) : Rat))) c73, .bool (neg (ql ((0 : Int) : Rat))), .slice B74 (zl (ql ((0 : Int) : Rat))) d75] 91, bk g61 #[.bool (neg (qn 0)), .slice none (zl (qn 0)) 0, .bool (neg (ql 0)), .slice none (zl (ql 0)) 0] 91] [FK (A273, c274, B275, d276, (mkRat (-2) 3)), pfEs FK ([(A266, c267, B268, d269, (mkRat 1 2))]), FK (A266, c267, B268, d269, (mkRat 1 2)), pfEs FK ([]), pfZ B282 d283 (ql ((4 : Int) : Rat)), pfZ A280 c281 (qn ((4 : Int) : Rat)), pfZ B275 d276 (ql (mkRat (-2) 3)), pfZ A273 c274 (qn (mkRat (-2) 3)), pfZ B268 d269 (ql (mkRat 1 2)), pfZ A266 c267 (qn (mkRat 1 2)), pfZ B260 d261 (ql (mkRat 1 3)), pfZ A258 c259 (qn (mkRat 1 3)), pfZ B253 d254 (ql (mkRat 1 2)), pfZ A251 c252 (qn (mkRat 1 2)), pfZ B243 d244 (ql ((mkRat 1 2) * (mkRat 1 3))), pfZ A241 c242 (qn ((mkRat 1 2) * (mkRat 1 3))), pfZ B237 d238 (ql (mkRat 1 3)), pfZ A235 c236 (qn (mkRat 1 3)), pfZ B230 d231 (ql (mkRat 1 2)), pfZ A228 c229 (qn (mkRat 1 2)), pfZ B220 d221 (ql ((mkRat 1 2) - (mkRat 1 3))), pfZ A218 c219 (qn ((mkRat 1 2) - (mkRat 1 3))), pfZ B214 d215 (ql (mkRat 1 3)), pfZ A212 c213 (qn (mkRat 1 3)), pfZ B207 d208 (ql (mkRat 1 2)), pfZ A205 c206 (qn (mkRat 1 2)), pfZ B197 d198 (ql ((mkRat 1 2) + (mkRat 1 3))), pfZ A195 c196 (qn ((mkRat 1 2) + (mkRat 1 3))), pfZ B191 d192 (ql (mkRat 1 3)), pfZ A189 c190 (qn (mkRat 1 3)), pfZ B184 d185 (ql (mkRat 1 2)), pfZ A182 c183 (qn (mkRat 1 2)), pfZ B174 d175 (ql (-0)), pfZ A172 c173 (qn (-0)), pfZ B164 d165 (ql (0 * (mkRat 1 2))), pfZ A162 c163 (qn (0 * (mkRat 1 2))), pfZ B158 d159 (ql (mkRat 1 2)), pfZ A156 c157 (qn (mkRat 1 2)), pfZ B148 d149 (ql (0 + (mkRat 1 2))), pfZ A146 c147 (qn (0 + (mkRat 1 2))), pfZ B142 d143 (ql (mkRat 1 2)), pfZ A140 c141 (qn (mkRat 1 2)), pfZ A131 c132 (qd 0), pfZ B116 d117 (ql ((mkRat 1 2) / (mkRat 1 3))), pfZ A114 c115 (qn ((mkRat 1 2) / (mkRat 1 3))), pfZ B110 d111 (ql (mkRat 1 3)), pfZ A108 c109 (qn (mkRat 1 3)), pfZ B103 d104 (ql (mkRat 1 2)), pfZ A101 c102 (qn (mkRat 1 2)), pfZ none 0 (ql 0), pfZ none 0 (qn 0), pfZ B92 d93 (ql 0), pfZ A90 c91 (qn 0), pfZ B85 d86 (ql (mkRat 1 2)), pfZ A83 c84 (qn (mkRat 1 2)), pfZ B74 d75 (ql ((0 : Int) : Rat)), pfZ A72 c73 (qn ((0 : Int) : Rat)), pfZ A68 c69 (-5), pfZ A64 c65 0, pfZ none 0 (ql 0), pfZ none 0 (qn 0), pfZ A56 c57 0, pfZ A52 c53 1] := hst
  replace hst := hst.snocEs (e := (A273, c274, B275, d276, (mkRat (-2) 3))) (i := 1) (j := 0) rfl rfl
  replace hst : St w0 _ [bk g286 #[.bool (neg (qn (mkRat 1 2))), .slice A266 (zl (qn (mkRat 1 2))) c267, .bool (neg (ql (mkRat 1 2))), .slice B268 (zl (ql (mkRat 1 2))) d269, .bool (neg (qn (mkRat (-2) 3))), .slice A273 (zl (qn (mkRat (-2) 3))) c274, .bool (neg (ql (mkRat (-2) 3))), .slice B275 (zl (ql (mkRat (-2) 3))) d276, .bool (neg (qn ((4 : Int) : Rat))), .slice A280 (zl (qn ((4 : Int) : Rat))) c281, .bool (neg (ql ((4 : Int) : Rat))), .slice B282 (zl (ql ((4 : Int) : Rat))) d283] 91, bk g127 #[.bool (neg (qn 0)), .slice none (zl (qn 0)) 0, .bool (neg (ql 0)), .slice none (zl (ql 0)) 0] 91, bk g122 #[.bool (neg (qn ((mkRat 1 2) / (mkRat 1 3)))), .slice A114 (zl (qn ((mkRat 1 2) / (mkRat 1 3)))) c115, .bool (neg (ql ((mkRat 1 2) / (mkRat 1 3)))), .slice B116 (zl (ql ((mkRat 1 2) / (mkRat 1 3)))) d117] 91, bk g97 #[.bool (neg (qn 0)), .slice none (zl (qn 0)) 0, .bool (neg (ql 0)), .slice none (zl (ql 0)) 0] 91, bk g79 #[.bool (neg (qn ((0 : Int) : Rat))), .slice A72 (zl (qn ((0 : Int) : Rat))) c73, .bool (neg (ql ((0 : Int) : Rat))), .slice B74 (zl (ql ((0 : Int) : Rat))) d75] 91, bk g61 #[.bool (neg (qn 0)), .slice none (zl (qn 0)) 0, .bool (neg (ql 0)), .slice none (zl (ql 0)) 0] 91] [pfEs FK ([(A266, c267, B268, d269, (mkRat 1 2)), (A273, c274, B275, d276, (mkRat (-2) 3))]), FK (A273, c274, B275, d276, (mkRat (-2) 3)), pfEs FK ([(A266, c267, B268, d269, (mkRat 1 2))]), FK (A266, c267, B268, d269, (mkRat 1 2)), pfEs FK ([]), pfZ B282 d283 (ql ((4 : Int) : Rat)), pfZ A280 c281 (qn ((4 : Int) : Rat)), pfZ B275 d276 (ql (mkRat (-2) 3)), pfZ A273 c274 (qn (mkRat (-2) 3)), pfZ B268 d269 (ql (mkRat 1 2)), pfZ A266 c267 (qn (mkRat 1 2)), pfZ B260 d261 (ql (mkRat 1 3)), pfZ A258 c259 (qn (mkRat 1 3)), pfZ B253 d254 (ql (mkRat 1 2)), pfZ A251 c252 (qn (mkRat 1 2)), pfZ B243 d244 (ql ((mkRat 1 2) * (mkRat 1 3))), pfZ A241 c242 (qn ((mkRat 1 2) * (mkRat 1 3))), pfZ B237 d238 (ql (mkRat 1 3)), pfZ A235 c236 (qn (mkRat 1 3)), pfZ B230 d231 (ql (mkRat 1 2)), pfZ A228 c229 (qn (mkRat 1 2)), pfZ B220 d221 (ql ((mkRat 1 2) - (mkRat 1 3))), pfZ A218 c219 (qn ((mkRat 1 2) - (mkRat 1 3))), pfZ B214 d215 (ql (mkRat 1 3)), pfZ A212 c213 (qn (mkRat 1 3)), pfZ B207 d208 (ql (mkRat 1 2)), pfZ A205 c206 (qn (mkRat 1 2)), pfZ B197 d198 (ql ((mkRat 1 2) + (mkRat 1 3))), pfZ A195 c196 (qn ((mkRat 1 2) + (mkRat 1 3))), pfZ B191 d192 (ql (mkRat 1 3)), pfZ A189 c190 (qn (mkRat 1 3)), pfZ B184 d185 (ql (mkRat 1 2)), pfZ A182 c183 (qn (mkRat 1 2)), pfZ B174 d175 (ql (-0)), pfZ A172 c173 (qn (-0)), pfZ B164 d165 (ql (0 * (mkRat 1 2))), pfZ A162 c163 (qn (0 * (mkRat 1 2))), pfZ B158 d159 (ql (mkRat 1 2)), pfZ A156 c157 (qn (mkRat 1 2)), pfZ B148 d149 (ql (0 + (mkRat 1 2))), pfZ A146 c147 (qn (0 + (mkRat 1 2))), pfZ B142 d143 (ql (mkRat 1 2)), pfZ A140 c141 (qn (mkRat 1 2)), pfZ A131 c132 (qd 0), pfZ B116 d117 (ql ((mkRat 1 2) / (mkRat 1 3))), pfZ A114 c115 (qn ((mkRat 1 2) / (mkRat 1 3))), pfZ B110 d111 (ql (mkRat 1 3)), pfZ A108 c109 (qn (mkRat 1 3)), pfZ B103 d104 (ql (mkRat 1 2)), pfZ A101 c102 (qn (mkRat 1 2)), pfZ none 0 (ql 0), pfZ none 0 (qn 0), pfZ B92 d93 (ql 0), pfZ A90 c91 (qn 0), pfZ B85 d86 (ql (mkRat 1 2)), pfZ A83 c84 (qn (mkRat 1 2)), pfZ B74 d75 (ql ((0 : Int) : Rat)), pfZ A72 c73 (qn ((0 : Int) : Rat)), pfZ A68 c69 (-5), pfZ A64 c65 0, pfZ none 0 (ql 0), pfZ none 0 (qn 0), pfZ A56 c57 0, pfZ A52 c53 1] := hst
  replace hst := hst.and2 (i := 6) (j := 5) rfl rfl
  replace hst : St w0 _ [bk g286 #[.bool (neg (qn (mkRat 1 2))), .slice A266 (zl (qn (mkRat 1 2))) c267, .bool (neg (ql (mkRat 1 2))), .slice B268 (zl (ql (mkRat 1 2))) d269, .bool (neg (qn (mkRat (-2) 3))), .slice A273 (zl (qn (mkRat (-2) 3))) c274, .bool (neg (ql (mkRat (-2) 3))), .slice B275 (zl (ql (mkRat (-2) 3))) d276, .bool (neg (qn ((4 : Int) : Rat))), .slice A280 (zl (qn ((4 : Int) : Rat))) c281, .bool (neg (ql ((4 : Int) : Rat))), .slice B282 (zl (ql ((4 : Int) : Rat))) d283] 91, bk g127 #[.bool (neg (qn 0)), .slice none (zl (qn 0)) 0, .bool (neg (ql 0)), .slice none (zl (ql 0)) 0] 91, bk g122 #[.bool (neg (qn ((mkRat 1 2) / (mkRat 1 3)))), .slice A114 (zl (qn ((mkRat 1 2) / (mkRat 1 3)))) c115, .bool (neg (ql ((mkRat 1 2) / (mkRat 1 3)))), .slice B116 (zl (ql ((mkRat 1 2) / (mkRat 1 3)))) d117] 91, bk g97 #[.bool (neg (qn 0)), .slice none (zl (qn 0)) 0, .bool (neg (ql 0)), .slice none (zl (ql 0)) 0] 91, bk g79 #[.bool (neg (qn ((0 : Int) : Rat))), .slice A72 (zl (qn ((0 : Int) : Rat))) c73, .bool (neg (ql ((0 : Int) : Rat))), .slice B74 (zl (ql ((0 : Int) : Rat))) d75] 91, bk g61 #[.bool (neg (qn 0)), .slice none (zl (qn 0)) 0, .bool (neg (ql 0)), .slice none (zl (ql 0)) 0] 91] [FK (A280, c281, B282, d283, ((4 : Int) : Rat)), pfEs FK ([(A266, c267, B268, d269, (mkRat 1 2)), (A273, c274, B275, d276, (mkRat (-2) 3))]), FK (A273, c274, B275, d276, (mkRat (-2) 3)), pfEs FK ([(A266, c267, B268, d269, (mkRat 1 2))]), FK (A266, c267, B268, d269, (mkRat 1 2)), pfEs FK ([]), pfZ B282 d283 (ql ((4 : Int) : Rat)), pfZ A280 c281 (qn ((4 : Int) : Rat)), pfZ B275 d276 (ql (mkRat (-2) 3)), pfZ A273 c274 (qn (mkRat (-2) 3)), pfZ B268 d269 (ql (mkRat 1 2)), pfZ A266 c267 (qn (mkRat 1 2)), pfZ B260 d261 (ql (mkRat 1 3)), pfZ A258 c259 (qn (mkRat 1 3)), pfZ B253 d254 (ql (mkRat 1 2)), pfZ A251 c252 (qn (mkRat 1 2)), pfZ B243 d244 (ql ((mkRat 1 2) * (mkRat 1 3))), pfZ A241 c242 (qn ((mkRat 1 2) * (mkRat 1 3))), pfZ B237 d238 (ql (mkRat 1 3)), pfZ A235 c236 (qn (mkRat 1 3)), pfZ B230 d231 (ql (mkRat 1 2)), pfZ A228 c229 (qn (mkRat 1 2)), pfZ B220 d221 (ql ((mkRat 1 2) - (mkRat 1 3))), pfZ A218 c219 (qn ((mkRat 1 2) - (mkRat 1 3))), pfZ B214 d215 (ql (mkRat 1 3)), pfZ A212 c213 (qn (mkRat 1 3)), pfZ B207 d208 (ql (mkRat 1 2)), pfZ A205 c206 (qn (mkRat 1 2)), pfZ B197 d198 (ql ((mkRat 1 2) + (mkRat 1 3))), pfZ A195 c196 (qn ((mkRat 1 2) + (mkRat 1 3))), pfZ B191 d192 (ql (mkRat 1 3)), pfZ A189 c190 (qn (mkRat 1 3)), pfZ B184 d185 (ql (mkRat 1 2)), pfZ A182 c183 (qn (mkRat 1 2)), pfZ B174 d175 (ql (-0)), pfZ A172 c173 (qn (-0)), pfZ B164 d165 (ql (0 * (mkRat 1 2))), pfZ A162 c163 (qn (0 * (mkRat 1 2))), pfZ B158 d159 (ql (mkRat 1 2)), pfZ A156 c157 (qn (mkRat 1 2)), pfZ B148 d149 (ql (0 + (mkRat 1 2))), pfZ A146 c147 (qn (0 + (mkRat 1 2))), pfZ B142 d143 (ql (mkRat 1 2)), pfZ A140 c141 (qn (mkRat 1 2)), pfZ A131 c132 (qd 0), pfZ B116 d117 (ql ((mkRat 1 2) / (mkRat 1 3))), pfZ A114 c115 (qn ((mkRat 1 2) / (mkRat 1 3))), pfZ B110 d111 (ql (mkRat 1 3)), pfZ A108 c109 (qn (mkRat 1 3)), pfZ B103 d104 (ql (mkRat 1 2)), pfZ A101 c102 (qn (mkRat 1 2)), pfZ none 0 (ql 0), pfZ none 0 (qn 0), pfZ B92 d93 (ql 0), pfZ A90 c91 (qn 0), pfZ B85 d86 (ql (mkRat 1 2)), pfZ A83 c84 (qn (mkRat 1 2)), pfZ B74 d75 (ql ((0 : Int) : Rat)), pfZ A72 c73 (qn ((0 : Int) : Rat)), pfZ A68 c69 (-5), pfZ A64 c65 0, pfZ none 0 (ql 0), pfZ none 0 (qn 0), pfZ A56 c57 0, pfZ A52 c53 1] := hst
  replace hst := hst.snocEs (e := (A280, c281, B282, d283, ((4 : Int) : Rat))) (i := 1) (j := 0) rfl rfl
  replace hst : St w0 _ [bk g286 #[.bool (neg (qn (mkRat 1 2))), .slice A266 (zl (qn (mkRat 1 2))) c267, .bool (neg (ql (mkRat 1 2))), .slice B268 (zl (ql (mkRat 1 2))) d269, .bool (neg (qn (mkRat (-2) 3))), .slice A273 (zl (qn (mkRat (-2) 3))) c274, .bool (neg (ql (mkRat (-2) 3))), .slice B275 (zl (ql (mkRat (-2) 3))) d276, .bool (neg (qn ((4 : Int) : Rat))), .slice A280 (zl (qn ((4 : Int) : Rat))) c281, .bool (neg (ql ((4 : Int) : Rat))), .slice B282 (zl (ql ((4 : Int) : Rat))) d283] 91, bk g127 #[.bool (neg (qn 0)), .slice none (zl (qn 0)) 0, .bool (neg (ql 0)), .slice none (zl (ql 0)) 0] 91, bk g122 #[.bool (neg (qn ((mkRat 1 2) / (mkRat 1 3)))), .slice A114 (zl (qn ((mkRat 1 2) / (mkRat 1 3)))) c115, .bool (neg (ql ((mkRat 1 2) / (mkRat 1 3)))), .slice B116 (zl (ql ((mkRat 1 2) / (mkRat 1 3)))) d117] 91, bk g97 #[.bool (neg (qn 0)), .slice none (zl (qn 0)) 0, .bool (neg (ql 0)), .slice none (zl (ql 0)) 0] 91, bk g79 #[.bool (neg (qn ((0 : Int) : Rat))), .slice A72 (zl (qn ((0 : Int) : Rat))) c73, .bool (neg (ql ((0 : Int) : Rat))), .slice B74 (zl (ql ((0 : Int) : Rat))) d75] 91, bk g61 #[.bool (neg (qn 0)), .slice none (zl (qn 0)) 0, .bool (neg (ql 0)), .slice none (zl (ql 0)) 0] 91] [pfEs FK ([(A266, c267, B268, d269, (mkRat 1 2)), (A273, c274, B275, d276, (mkRat (-2) 3)), (A280, c281, B282, d283, ((4 : Int) : Rat))]), FK (A280, c281, B282, d283, ((4 : Int) : Rat)), pfEs FK ([(A266, c267, B268, d269, (mkRat 1 2)), (A273, c274, B275, d276, (mkRat (-2) 3))]), FK (A273, c274, B275, d276, (mkRat (-2) 3)), pfEs FK ([(A266, c267, B268, d269, (mkRat 1 2))]), FK (A266, c267, B268, d269, (mkRat 1 2)), pfEs FK ([]), pfZ B282 d283 (ql ((4 : Int) : Rat)), pfZ A280 c281 (qn ((4 : Int) : Rat)), pfZ B275 d276 (ql (mkRat (-2) 3)), pfZ A273 c274 (qn (mkRat (-2) 3)), pfZ B268 d269 (ql (mkRat 1 2)), pfZ A266 c267 (qn (mkRat 1 2)), pfZ B260 d261 (ql (mkRat 1 3)), pfZ A258 c259 (qn (mkRat 1 3)), pfZ B253 d254 (ql (mkRat 1 2)), pfZ A251 c252 (qn (mkRat 1 2)), pfZ B243 d244 (ql ((mkRat 1 2) * (mkRat 1 3))), pfZ A241 c242 (qn ((mkRat 1 2) * (mkRat 1 3))), pfZ B237 d238 (ql (mkRat 1 3)), pfZ A235 c236 (qn (mkRat 1 3)), pfZ B230 d231 (ql (mkRat 1 2)), pfZ A228 c229 (qn (mkRat 1 2)), pfZ B220 d221 (ql ((mkRat 1 2) - (mkRat 1 3))), pfZ A218 c219 (qn ((mkRat 1 2) - (mkRat 1 3))), pfZ B214 d215 (ql (mkRat 1 3)), pfZ A212 c213 (qn (mkRat 1 3)), pfZ B207 d208 (ql (mkRat 1 2)), pfZ A205 c206 (qn (mkRat 1 2)), pfZ B197 d198 (ql ((mkRat 1 2) + (mkRat 1 3))), pfZ A195 c196 (qn ((mkRat 1 2) + (mkRat 1 3))), pfZ B191 d192 (ql (mkRat 1 3)), pfZ A189 c190 (qn (mkRat 1 3)), pfZ B184 d185 (ql (mkRat 1 2)), pfZ A182 c183 (qn (mkRat 1 2)), pfZ B174 d175 (ql (-0)), pfZ A172 c173 (qn (-0)), pfZ B164 d165 (ql (0 * (mkRat 1 2))), pfZ A162 c163 (qn (0 * (mkRat 1 2))), pfZ B158 d159 (ql (mkRat 1 2)), pfZ A156 c157 (qn (mkRat 1 2)), pfZ B148 d149 (ql (0 + (mkRat 1 2))), pfZ A146 c147 (qn (0 + (mkRat 1 2))), pfZ B142 d143 (ql (mkRat 1 2)), pfZ A140 c141 (qn (mkRat 1 2)), pfZ A131 c132 (qd 0), pfZ B116 d117 (ql ((mkRat 1 2) / (mkRat 1 3))), pfZ A114 c115 (qn ((mkRat 1 2) / (mkRat 1 3))), pfZ B110 d111 (ql (mkRat 1 3)), pfZ A108 c109 (qn (mkRat 1 3)), pfZ B103 d104 (ql (mkRat 1 2)), pfZ A101 c102 (qn (mkRat 1 2)), pfZ none 0 (ql 0), pfZ none 0 (qn 0), pfZ B92 d93 (ql 0), pfZ A90 c91 (qn 0), pfZ B85 d86 (ql (mkRat 1 2)), pfZ A83 c84 (qn (mkRat 1 2)), pfZ B74 d75 (ql ((0 : Int) : Rat)), pfZ A72 c73 (qn ((0 : Int) : Rat)), pfZ A68 c69 (-5), pfZ A64 c65 0, pfZ none 0 (ql 0), pfZ none 0 (qn 0), pfZ A56 c57 0, pfZ A52 c53 1] := hst
  replace hst := hst.giveBk (f := fK) (F := FK) (k := 0) (n := 3) (es := [(A266, c267, B268, d269, (mkRat 1 2)), (A273, c274, B275, d276, (mkRat (-2) 3)), (A280, c281, B282, d283, ((4 : Int) : Rat))]) rfl rfl fK_len rfl (by decide) (hst.pat (k := 0) rfl) (hst.apart _ (List.mem_of_getElem? (i := 0) rfl))
  replace hst : St w0 _ [bk g127 #[.bool (neg (qn 0)), .slice none (zl (qn 0)) 0, .bool (neg (ql 0)), .slice none (zl (ql 0)) 0] 91, bk g122 #[.bool (neg (qn ((mkRat 1 2) / (mkRat 1 3)))), .slice A114 (zl (qn ((mkRat 1 2) / (mkRat 1 3)))) c115, .bool (neg (ql ((mkRat 1 2) / (mkRat 1 3)))), .slice B116 (zl (ql ((mkRat 1 2) / (mkRat 1 3)))) d117] 91, bk g97 #[.bool (neg (qn 0)), .slice none (zl (qn 0)) 0, .bool (neg (ql 0)), .slice none (zl (ql 0)) 0] 91, bk g79 #[.bool (neg (qn ((0 : Int) : Rat))), .slice A72 (zl (qn ((0 : Int) : Rat))) c73, .bool (neg (ql ((0 : Int) : Rat))), .slice B74 (zl (ql ((0 : Int) : Rat))) d75] 91, bk g61 #[.bool (neg (qn 0)), .slice none (zl (qn 0)) 0, .bool (neg (ql 0)), .slice none (zl (ql 0)) 0] 91] [pfRow fK FK 4 (some ⟨g286, 0, none⟩) 3 3 ([(A266, c267, B268, d269, (mkRat 1 2)), (A273, c274, B275, d276, (mkRat (-2) 3)), (A280, c281, B282, d283, ((4 : Int) : Rat))]), pfRd 4 (some ⟨g286, 0, none⟩) 3 3 (fl fK [(A266, c267, B268, d269, (mkRat 1 2)), (A273, c274, B275, d276, (mkRat (-2) 3)), (A280, c281, B282, d283, ((4 : Int) : Rat))]), pfEs FK ([(A266, c267, B268, d269, (mkRat 1 2)), (A273, c274, B275, d276, (mkRat (-2) 3)), (A280, c281, B282, d283, ((4 : Int) : Rat))]), FK (A280, c281, B282, d283, ((4 : Int) : Rat)), pfEs FK ([(A266, c267, B268, d269, (mkRat 1 2)), (A273, c274, B275, d276, (mkRat (-2) 3))]), FK (A273, c274, B275, d276, (mkRat (-2) 3)), pfEs FK ([(A266, c267, B268, d269, (mkRat 1 2))]), FK (A266, c267, B268, d269, (mkRat 1 2)), pfEs FK ([]), pfZ B282 d283 (ql ((4 : Int) : Rat)), pfZ A280 c281 (qn ((4 : Int) : Rat)), pfZ B275 d276 (ql (mkRat (-2) 3)), pfZ A273 c274 (qn (mkRat (-2) 3)), pfZ B268 d269 (ql (mkRat 1 2)), pfZ A266 c267 (qn (mkRat 1 2)), pfZ B260 d261 (ql (mkRat 1 3)), pfZ A258 c259 (qn (mkRat 1 3)), pfZ B253 d254 (ql (mkRat 1 2)), pfZ A251 c252 (qn (mkRat 1 2)), pfZ B243 d244 (ql ((mkRat 1 2) * (mkRat 1 3))), pfZ A241 c242 (qn ((mkRat 1 2) * (mkRat 1 3))), pfZ B237 d238 (ql (mkRat 1 3)), pfZ A235 c236 (qn (mkRat 1 3)), pfZ B230 d231 (ql (mkRat 1 2)), pfZ A228 c229 (qn (mkRat 1 2)), pfZ B220 d221 (ql ((mkRat 1 2) - (mkRat 1 3))), pfZ A218 c219 (qn ((mkRat 1 2) - (mkRat 1 3))), pfZ B214 d215 (ql (mkRat 1 3)), pfZ A212 c213 (qn (mkRat 1 3)), pfZ B207 d208 (ql (mkRat 1 2)), pfZ A205 c206 (qn (mkRat 1 2)), pfZ B197 d198 (ql ((mkRat 1 2) + (mkRat 1 3))), pfZ A195 c196 (qn ((mkRat 1 2) + (mkRat 1 3))), pfZ B191 d192 (ql (mkRat 1 3)), pfZ A189 c190 (qn (mkRat 1 3)), pfZ B184 d185 (ql (mkRat 1 2)), pfZ A182 c183 (qn (mkRat 1 2)), pfZ B174 d175 (ql (-0)), pfZ A172 c173 (qn (-0)), pfZ B164 d165 (ql (0 * (mkRat 1 2))), pfZ A162 c163 (qn (0 * (mkRat 1 2))), pfZ B158 d159 (ql (mkRat 1 2)), pfZ A156 c157 (qn (mkRat 1 2)), pfZ B148 d149 (ql (0 + (mkRat 1 2))), pfZ A146 c147 (qn (0 + (mkRat 1 2))), pfZ B142 d143 (ql (mkRat 1 2)), pfZ A140 c141 (qn (mkRat 1 2)), pfZ A131 c132 (qd 0), pfZ B116 d117 (ql ((mkRat 1 2) / (mkRat 1 3))), pfZ A114 c115 (qn ((mkRat 1 2) / (mkRat 1 3))), pfZ B110 d111 (ql (mkRat 1 3)), pfZ A108 c109 (qn (mkRat 1 3)), pfZ B103 d104 (ql (mkRat 1 2)), pfZ A101 c102 (qn (mkRat 1 2)), pfZ none 0 (ql 0), pfZ none 0 (qn 0), pfZ B92 d93 (ql 0), pfZ A90 c91 (qn 0), pfZ B85 d86 (ql (mkRat 1 2)), pfZ A83 c84 (qn (mkRat 1 2)), pfZ B74 d75 (ql ((0 : Int) : Rat)), pfZ A72 c73 (qn ((0 : Int) : Rat)), pfZ A68 c69 (-5), pfZ A64 c65 0, pfZ none 0 (ql 0), pfZ none 0 (qn 0), pfZ A56 c57 0, pfZ A52 c53 1] := hst
  refine seq_step rfl (op_call henv rfl Tryd.call70 rfl (common_k3 (hst.pat (k := 0) rfl) rfl) ?_)
  rintro e w297 ⟨_, _, rfl, ⟨A288, c289, es290, rfl, hr, hl291, hz292, hnl293⟩, ⟨A294, c295, rfl, hz296⟩, hb⟩
  refine ⟨_, rfl, ?_⟩
  clear henv a; intro a henv
  replace hst := (hst.freshRd hb hr hl291 (ap_N hr.2.1 ⟨nou_bk rfl, nou_bk rfl, nou_bk rfl, nou_bk rfl, nou_bk rfl, trivial⟩)).addZ hz296 ⟨nou_bk rfl, nou_bk rfl, nou_bk rfl, nou_bk rfl, nou_bk rfl, trivial⟩
  clear hr hz296
  clear hb
  revert a
  refine mA rfl rfl ?_
  refine sA (v := .slice A288 3 c289) rfl (fun _ henv => rn_extract henv rfl rfl) ?_
  refine sA (v := .agg #[.bool (neg 6), .slice A294 (zl 6) c295]) rfl (fun _ henv => rn_extract henv rfl rfl) ?_
  intro a henv
  refine seq_step rfl (op_alloc (c := #[.bool (neg 0), .slice none (zl 0) 0]) henv hst rfl zero_anvil_integer_Int zcells ?_)
  clear henv hst a; intro a w299 g298 henv hst
  refine sv (v := .slice A288 3 c289) henv rfl (rn_assign henv rfl) ?_
  clear henv a; intro a henv
  refine seq_step rfl (op_store (k := 0) (c' := #[.bool (neg 6), .slice A294 (zl 6) c295]) henv hst (ty_anvil_integer_Int.size) rfl rfl rfl rfl (by simp) rfl rfl ?_)
  clear henv hst a; intro a w300 henv hst
  refine wpList_nil ?_
  refine th_n ?_
  refine wp_seq ?_
  refine region_seq ?_
  refine seq_step rfl (op_call henv rfl Tryd.call70 rfl common_k0 ?_)
  rintro e w310 ⟨_, _, rfl, ⟨A301, c302, es303, rfl, hr, hl304, hz305, hnl306⟩, ⟨A307, c308, rfl, hz309⟩, hb⟩
  refine ⟨_, rfl, ?_⟩
  clear henv a; intro a henv
  replace hst := (hst.freshRd hb hr hl304 (ap_N hr.2.1 ⟨nou_bk rfl, nou_bk rfl, nou_bk rfl, nou_bk rfl, nou_bk rfl, nou_bk rfl, trivial⟩)).addZ hz309 ⟨nou_bk rfl, nou_bk rfl, nou_bk rfl, nou_bk rfl, nou_bk rfl, nou_bk rfl, trivial⟩
  clear hr hz309
  clear hb
  revert a
  refine mA rfl rfl ?_
  refine sA (v := .slice A301 0 c302) rfl (fun _ henv => rn_extract henv rfl rfl) ?_
  refine sA (v := .agg #[.bool (neg 1), .slice A307 (zl 1) c308]) rfl (fun _ henv => rn_extract henv rfl rfl) ?_
  intro a henv
  refine seq_step rfl (op_alloc (c := #[.bool (neg 0), .slice none (zl 0) 0]) henv hst rfl zero_anvil_integer_Int zcells ?_)
  clear henv hst a; intro a w312 g311 henv hst
  refine sv (v := .slice A301 0 c302) henv rfl (rn_assign henv rfl) ?_
  clear henv a; intro a henv
  refine seq_step rfl (op_store (k := 0) (c' := #[.bool (neg 1), .slice A307 (zl 1) c308]) henv hst (ty_anvil_integer_Int.size) rfl rfl rfl rfl (by simp) rfl rfl ?_)
  clear henv hst a; intro a w313 henv hst
  refine wpList_nil ?_
  refine th_n ?_
  refine wp_seq ?_
  refine wp_seq ?_
  obtain ⟨E0, k0, hk0⟩ := zz_at (j := 0) (z := 3) hz292 rfl
  replace hst := hst.elem (k := 3) rfl hk0
  replace hst : St w0 _ [bk g311 #[.bool (neg 1), .slice A307 (zl 1) c308] 36, bk g298 #[.bool (neg 6), .slice A294 (zl 6) c295] 36, bk g127 #[.bool (neg (qn 0)), .slice none (zl (qn 0)) 0, .bool (neg (ql 0)), .slice none (zl (ql 0)) 0] 91, bk g122 #[.bool (neg (qn ((mkRat 1 2) / (mkRat 1 3)))), .slice A114 (zl (qn ((mkRat 1 2) / (mkRat 1 3)))) c115, .bool (neg (ql ((mkRat 1 2) / (mkRat 1 3)))), .slice B116 (zl (ql ((mkRat 1 2) / (mkRat 1 3)))) d117] 91, bk g97 #[.bool (neg (qn 0)), .slice none (zl (qn 0)) 0, .bool (neg (ql 0)), .slice none (zl (ql 0)) 0] 91, bk g79 #[.bool (neg (qn ((0 : Int) : Rat))), .slice A72 (zl (qn ((0 : Int) : Rat))) c73, .bool (neg (ql ((0 : Int) : Rat))), .slice B74 (zl (ql ((0 : Int) : Rat))) d75] 91, bk g61 #[.bool (neg (qn 0)), .slice none (zl (qn 0)) 0, .bool (neg (ql 0)), .slice none (zl (ql 0)) 0] 91] [pfZ E0 k0 3, pfZ A307 c308 1, pfRow fN FN 2 A301 0 c302 es303, pfZ A294 c295 6, pfRow fN FN 2 A288 3 c289 es290, pfRow fK FK 4 (some ⟨g286, 0, none⟩) 3 3 ([(A266, c267, B268, d269, (mkRat 1 2)), (A273, c274, B275, d276, (mkRat (-2) 3)), (A280, c281, B282, d283, ((4 : Int) : Rat))]), pfRd 4 (some ⟨g286, 0, none⟩) 3 3 (fl fK [(A266, c267, B268, d269, (mkRat 1 2)), (A273, c274, B275, d276, (mkRat (-2) 3)), (A280, c281, B282, d283, ((4 : Int) : Rat))]), pfEs FK ([(A266, c267, B268, d269, (mkRat 1 2)), (A273, c274, B275, d276, (mkRat (-2) 3)), (A280, c281, B282, d283, ((4 : Int) : Rat))]), FK (A280, c281, B282, d283, ((4 : Int) : Rat)), pfEs FK ([(A266, c267, B268, d269, (mkRat 1 2)), (A273, c274, B275, d276, (mkRat (-2) 3))]), FK (A273, c274, B275, d276, (mkRat (-2) 3)), pfEs FK ([(A266, c267, B268, d269, (mkRat 1 2))]), FK (A266, c267, B268, d269, (mkRat 1 2)), pfEs FK ([]), pfZ B282 d283 (ql ((4 : Int) : Rat)), pfZ A280 c281 (qn ((4 : Int) : Rat)), pfZ B275 d276 (ql (mkRat (-2) 3)), pfZ A273 c274 (qn (mkRat (-2) 3)), pfZ B268 d269 (ql (mkRat 1 2)), pfZ A266 c267 (qn (mkRat 1 2)), pfZ B260 d261 (ql (mkRat 1 3)), pfZ A258 c259 (qn (mkRat 1 3)), pfZ B253 d254 (ql (mkRat 1 2)), pfZ A251 c252 (qn (mkRat 1 2)), pfZ B243 d244 (ql ((mkRat 1 2) * (mkRat 1 3))), pfZ A241 c242 (qn ((mkRat 1 2) * (mkRat 1 3))), pfZ B237 d238 (ql (mkRat 1 3)), pfZ A235 c236 (qn (mkRat 1 3)), pfZ B230 d231 (ql (mkRat 1 2)), pfZ A228 c229 (qn (mkRat 1 2)), pfZ B220 d221 (ql ((mkRat 1 2) - (mkRat 1 3))), pfZ A218 c219 (qn ((mkRat 1 2) - (mkRat 1 3))), pfZ B214 d215 (ql (mkRat 1 3)), pfZ A212 c213 (qn (mkRat 1 3)), pfZ B207 d208 (ql (mkRat 1 2)), pfZ A205 c206 (qn (mkRat 1 2)), pfZ B197 d198 (ql ((mkRat 1 2) + (mkRat 1 3))), pfZ A195 c196 (qn ((mkRat 1 2) + (mkRat 1 3))), pfZ B191 d192 (ql (mkRat 1 3)), pfZ A189 c190 (qn (mkRat 1 3)), pfZ B184 d185 (ql (mkRat 1 2)), pfZ A182 c183 (qn (mkRat 1 2)), pfZ B174 d175 (ql (-0)), pfZ A172 c173 (qn (-0)), pfZ B164 d165 (ql (0 * (mkRat 1 2))), pfZ A162 c163 (qn (0 * (mkRat 1 2))), pfZ B158 d159 (ql (mkRat 1 2)), pfZ A156 c157 (qn (mkRat 1 2)), pfZ B148 d149 (ql (0 + (mkRat 1 2))), pfZ A146 c147 (qn (0 + (mkRat 1 2))), pfZ B142 d143 (ql (mkRat 1 2)), pfZ A140 c141 (qn (mkRat 1 2)), pfZ A131 c132 (qd 0), pfZ B116 d117 (ql ((mkRat 1 2) / (mkRat 1 3))), pfZ A114 c115 (qn ((mkRat 1 2) / (mkRat 1 3))), pfZ B110 d111 (ql (mkRat 1 3)), pfZ A108 c109 (qn (mkRat 1 3)), pfZ B103 d104 (ql (mkRat 1 2)), pfZ A101 c102 (qn (mkRat 1 2)), pfZ none 0 (ql 0), pfZ none 0 (qn 0), pfZ B92 d93 (ql 0), pfZ A90 c91 (qn 0), pfZ B85 d86 (ql (mkRat 1 2)), pfZ A83 c84 (qn (mkRat 1 2)), pfZ B74 d75 (ql ((0 : Int) : Rat)), pfZ A72 c73 (qn ((0 : Int) : Rat)), pfZ A68 c69 (-5), pfZ A64 c65 0, pfZ none 0 (ql 0), pfZ none 0 (qn 0), pfZ A56 c57 0, pfZ A52 c53 1] := hst
  obtain ⟨E1, k1, hk1⟩ := zz_at (j := 1) (z := (-4)) hz292 rfl
  replace hst := hst.elem (k := 4) rfl hk1
  replace hst : St w0 _ [bk g311 #[.bool (neg 1), .slice A307 (zl 1) c308] 36, bk g298 #[.bool (neg 6), .slice A294 (zl 6) c295] 36, bk g127 #[.bool (neg (qn 0)), .slice none (zl (qn 0)) 0, .bool (neg (ql 0)), .slice none (zl (ql 0)) 0] 91, bk g122 #[.bool (neg (qn ((mkRat 1 2) / (mkRat 1 3)))), .slice A114 (zl (qn ((mkRat 1 2) / (mkRat 1 3)))) c115, .bool (neg (ql ((mkRat 1 2) / (mkRat 1 3)))), .slice B116 (zl (ql ((mkRat 1 2) / (mkRat 1 3)))) d117] 91, bk g97 #[.bool (neg (qn 0)), .slice none (zl (qn 0)) 0, .bool (neg (ql 0)), .slice none (zl (ql 0)) 0] 91, bk g79 #[.bool (neg (qn ((0 : Int) : Rat))), .slice A72 (zl (qn ((0 : Int) : Rat))) c73, .bool (neg (ql ((0 : Int) : Rat))), .slice B74 (zl (ql ((0 : Int) : Rat))) d75] 91, bk g61 #[.bool (neg (qn 0)), .slice none (zl (qn 0)) 0, .bool (neg (ql 0)), .slice none (zl (ql 0)) 0] 91] [pfZ E1 k1 (-4), pfZ E0 k0 3, pfZ A307 c308 1, pfRow fN FN 2 A301 0 c302 es303, pfZ A294 c295 6, pfRow fN FN 2 A288 3 c289 es290, pfRow fK FK 4 (some ⟨g286, 0, none⟩) 3 3 ([(A266, c267, B268, d269, (mkRat 1 2)), (A273, c274, B275, d276, (mkRat (-2) 3)), (A280, c281, B282, d283, ((4 : Int) : Rat))]), pfRd 4 (some ⟨g286, 0, none⟩) 3 3 (fl fK [(A266, c267, B268, d269, (mkRat 1 2)), (A273, c274, B275, d276, (mkRat (-2) 3)), (A280, c281, B282, d283, ((4 : Int) : Rat))]), pfEs FK ([(A266, c267, B268, d269, (mkRat 1 2)), (A273, c274, B275, d276, (mkRat (-2) 3)), (A280, c281, B282, d283, ((4 : Int) : Rat))]), FK (A280, c281, B282, d283, ((4 : Int) : Rat)), pfEs FK ([(A266, c267, B268, d269, (mkRat 1 2)), (A273, c274, B275, d276, (mkRat (-2) 3))]), FK (A273, c274, B275, d276, (mkRat (-2) 3)), pfEs FK ([(A266, c267, B268, d269, (mkRat 1 2))]), FK (A266, c267, B268, d269, (mkRat 1 2)), pfEs FK ([]), pfZ B282 d283 (ql ((4 : Int) : Rat)), pfZ A280 c281 (qn ((4 : Int) : Rat)), pfZ B275 d276 (ql (mkRat (-2) 3)), pfZ A273 c274 (qn (mkRat (-2) 3)), pfZ B268 d269 (ql (mkRat 1 2)), pfZ A266 c267 (qn (mkRat 1 2)), pfZ B260 d261 (ql (mkRat 1 3)), pfZ A258 c259 (qn (mkRat 1 3)), pfZ B253 d254 (ql (mkRat 1 2)), pfZ A251 c252 (qn (mkRat 1 2)), pfZ B243 d244 (ql ((mkRat 1 2) * (mkRat 1 3))), pfZ A241 c242 (qn ((mkRat 1 2) * (mkRat 1 3))), pfZ B237 d238 (ql (mkRat 1 3)), pfZ A235 c236 (qn (mkRat 1 3)), pfZ B230 d231 (ql (mkRat 1 2)), pfZ A228 c229 (qn (mkRat 1 2)), pfZ B220 d221 (ql ((mkRat 1 2) - (mkRat 1 3))), pfZ A218 c219 (qn ((mkRat 1 2) - (mkRat 1 3))), pfZ B214 d215 (ql (mkRat 1 3)), pfZ A212 c213 (qn (mkRat 1 3)), pfZ B207 d208 (ql (mkRat 1 2)), pfZ A205 c206 (qn (mkRat 1 2)), pfZ B197 d198 (ql ((mkRat 1 2) + (mkRat 1 3))), pfZ A195 c196 (qn ((mkRat 1 2) + (mkRat 1 3))), pfZ B191 d192 (ql (mkRat 1 3)), pfZ A189 c190 (qn (mkRat 1 3)), pfZ B184 d185 (ql (mkRat 1 2)), pfZ A182 c183 (qn (mkRat 1 2)), pfZ B174 d175 (ql (-0)), pfZ A172 c173 (qn (-0)), pfZ B164 d165 (ql (0 * (mkRat 1 2))), pfZ A162 c163 (qn (0 * (mkRat 1 2))), pfZ B158 d159 (ql (mkRat 1 2)), pfZ A156 c157 (qn (mkRat 1 2)), pfZ B148 d149 (ql (0 + (mkRat 1 2))), pfZ A146 c147 (qn (0 + (mkRat 1 2))), pfZ B142 d143 (ql (mkRat 1 2)), pfZ A140 c141 (qn (mkRat 1 2)), pfZ A131 c132 (qd 0), pfZ B116 d117 (ql ((mkRat 1 2) / (mkRat 1 3))), pfZ A114 c115 (qn ((mkRat 1 2) / (mkRat 1 3))), pfZ B110 d111 (ql (mkRat 1 3)), pfZ A108 c109 (qn (mkRat 1 3)), pfZ B103 d104 (ql (mkRat 1 2)), pfZ A101 c102 (qn (mkRat 1 2)), pfZ none 0 (ql 0), pfZ none 0 (qn 0), pfZ B92 d93 (ql 0), pfZ A90 c91 (qn 0), pfZ B85 d86 (ql (mkRat 1 2)), pfZ A83 c84 (qn (mkRat 1 2)), pfZ B74 d75 (ql ((0 : Int) : Rat)), pfZ A72 c73 (qn ((0 : Int) : Rat)), pfZ A68 c69 (-5), pfZ A64 c65 0, pfZ none 0 (ql 0), pfZ none 0 (qn 0), pfZ A56 c57 0, pfZ A52 c53 1] := hst
  obtain ⟨E2, k2, hk2⟩ := zz_at (j := 2) (z := 24) hz292 rfl
  replace hst := hst.elem (k := 5) rfl hk2
  replace hst : St w0 _ [bk g311 #[.bool (neg 1), .slice A307 (zl 1) c308] 36, bk g298 #[.bool (neg 6), .slice A294 (zl 6) c295] 36, bk g127 #[.bool (neg (qn 0)), .slice none (zl (qn 0)) 0, .bool (neg (ql 0)), .slice none (zl (ql 0)) 0] 91, bk g122 #[.bool (neg (qn ((mkRat 1 2) / (mkRat 1 3)))), .slice A114 (zl (qn ((mkRat 1 2) / (mkRat 1 3)))) c115, .bool (neg (ql ((mkRat 1 2) / (mkRat 1 3)))), .slice B116 (zl (ql ((mkRat 1 2) / (mkRat 1 3)))) d117] 91, bk g97 #[.bool (neg (qn 0)), .slice none (zl (qn 0)) 0, .bool (neg (ql 0)), .slice none (zl (ql 0)) 0] 91, bk g79 #[.bool (neg (qn ((0 : Int) : Rat))), .slice A72 (zl (qn ((0 : Int) : Rat))) c73, .bool (neg (ql ((0 : Int) : Rat))), .slice B74 (zl (ql ((0 : Int) : Rat))) d75] 91, bk g61 #[.bool (neg (qn 0)), .slice none (zl (qn 0)) 0, .bool (neg (ql 0)), .slice none (zl (ql 0)) 0] 91] [pfZ E2 k2 24, pfZ E1 k1 (-4), pfZ E0 k0 3, pfZ A307 c308 1, pfRow fN FN 2 A301 0 c302 es303, pfZ A294 c295 6, pfRow fN FN 2 A288 3 c289 es290, pfRow fK FK 4 (some ⟨g286, 0, none⟩) 3 3 ([(A266, c267, B268, d269, (mkRat 1 2)), (A273, c274, B275, d276, (mkRat (-2) 3)), (A280, c281, B282, d283, ((4 : Int) : Rat))]), pfRd 4 (some ⟨g286, 0, none⟩) 3 3 (fl fK [(A266, c267, B268, d269, (mkRat 1 2)), (A273, c274, B275, d276, (mkRat (-2) 3)), (A280, c281, B282, d283, ((4 : Int) : Rat))]), pfEs FK ([(A266, c267, B268, d269, (mkRat 1 2)), (A273, c274, B275, d276, (mkRat (-2) 3)), (A280, c281, B282, d283, ((4 : Int) : Rat))]), FK (A280, c281, B282, d283, ((4 : Int) : Rat)), pfEs FK ([(A266, c267, B268, d269, (mkRat 1 2)), (A273, c274, B275, d276, (mkRat (-2) 3))]), FK (A273, c274, B275, d276, (mkRat (-2) 3)), pfEs FK ([(A266, c267, B268, d269, (mkRat 1 2))]), FK (A266, c267, B268, d269, (mkRat 1 2)), pfEs FK ([]), pfZ B282 d283 (ql ((4 : Int) : Rat)), pfZ A280 c281 (qn ((4 : Int) : Rat)), pfZ B275 d276 (ql (mkRat (-2) 3)), pfZ A273 c274 (qn (mkRat (-2) 3)), pfZ B268 d269 (ql (mkRat 1 2)), pfZ A266 c267 (qn (mkRat 1 2)), pfZ B260 d261 (ql (mkRat 1 3)), pfZ A258 c259 (qn (mkRat 1 3)), pfZ B253 d254 (ql (mkRat 1 2)), pfZ A251 c252 (qn (mkRat 1 2)), pfZ B243 d244 (ql ((mkRat 1 2) * (mkRat 1 3))), pfZ A241 c242 (qn ((mkRat 1 2) * (mkRat 1 3))), pfZ B237 d238 (ql (mkRat 1 3)), pfZ A235 c236 (qn (mkRat 1 3)), pfZ B230 d231 (ql (mkRat 1 2)), pfZ A228 c229 (qn (mkRat 1 2)), pfZ B220 d221 (ql ((mkRat 1 2) - (mkRat 1 3))), pfZ A218 c219 (qn ((mkRat 1 2) - (mkRat 1 3))), pfZ B214 d215 (ql (mkRat 1 3)), pfZ A212 c213 (qn (mkRat 1 3)), pfZ B207 d208 (ql (mkRat 1 2)), pfZ A205 c206 (qn (mkRat 1 2)), pfZ B197 d198 (ql ((mkRat 1 2) + (mkRat 1 3))), pfZ A195 c196 (qn ((mkRat 1 2) + (mkRat 1 3))), pfZ B191 d192 (ql (mkRat 1 3)), pfZ A189 c190 (qn (mkRat 1 3)), pfZ B184 d185 (ql (mkRat 1 2)), pfZ A182 c183 (qn (mkRat 1 2)), pfZ B174 d175 (ql (-0)), pfZ A172 c173 (qn (-0)), pfZ B164 d165 (ql (0 * (mkRat 1 2))), pfZ A162 c163 (qn (0 * (mkRat 1 2))), pfZ B158 d159 (ql (mkRat 1 2)), pfZ A156 c157 (qn (mkRat 1 2)), pfZ B148 d149 (ql (0 + (mkRat 1 2))), pfZ A146 c147 (qn (0 + (mkRat 1 2))), pfZ B142 d143 (ql (mkRat 1 2)), pfZ A140 c141 (qn (mkRat 1 2)), pfZ A131 c132 (qd 0), pfZ B116 d117 (ql ((mkRat 1 2) / (mkRat 1 3))), pfZ A114 c115 (qn ((mkRat 1 2) / (mkRat 1 3))), pfZ B110 d111 (ql (mkRat 1 3)), pfZ A108 c109 (qn (mkRat 1 3)), pfZ B103 d104 (ql (mkRat 1 2)), pfZ A101 c102 (qn (mkRat 1 2)), pfZ none 0 (ql 0), pfZ none 0 (qn 0), pfZ B92 d93 (ql 0), pfZ A90 c91 (qn 0), pfZ B85 d86 (ql (mkRat 1 2)), pfZ A83 c84 (qn (mkRat 1 2)), pfZ B74 d75 (ql ((0 : Int) : Rat)), pfZ A72 c73 (qn ((0 : Int) : Rat)), pfZ A68 c69 (-5), pfZ A64 c65 0, pfZ none 0 (ql 0), pfZ none 0 (qn 0), pfZ A56 c57 0, pfZ A52 c53 1] := hst
  refine region_seq ?_
  revert a
  refine mA rfl rfl ?_
  refine sA (v := .int .i64 3) rfl (fun _ henv => rn_len henv Tryd.underlying30 rfl) ?_
  refine sA (v := .bool false) rfl (fun _ henv => rn_bin henv rfl rfl rfl) ?_
  refine mA rfl rfl ?_
  refine gA (v := .slice A288 3 c289) rfl rfl rfl rfl (fun _ henv => rn_move henv rfl) ?_
  refine gA (v := .pointer (some ⟨ab A288, ao A288 + 0 * 2, none⟩)) rfl rfl rfl rfl (fun _ henv => rn_idxR (i := 0) henv Tryd.underlying30 (ty_anvil_integer_Int.size) rfl rfl (by first | decide | omega) rfl (show (pfRow fN FN 2 A288 3 c289 es290).P _ from (hst.pat (k := 6) rfl)).1) ?_
  refine gA (v := .agg #[.bool (neg 3), .slice E0 (zl 3) k0]) rfl rfl rfl rfl (fun _ henv => rn_loadE (i := 0) (e := (E0, k0, 3)) henv ty_anvil_integer_Int rfl rfl fN_len (show (pfRow fN FN 2 A288 3 c289 es290).P _ from (hst.pat (k := 6) rfl)).1 (by first | decide | omega) hk0 rfl) ?_
  intro a henv
  refine seq_g rfl henv rfl rfl (op_call henv rfl Tryd.call72 rfl (text_z (z := 3) (show ZIn _ E0 k0 3 from hst.pat (k := 2) rfl) (by omega)) ?_)
  rintro e w314 ⟨rfl, hb⟩
  refine ⟨_, rfl, ?_⟩
  clear henv a; intro a henv
  replace hst := hst.call hb
  clear hb
  refine seq_g rfl henv rfl rfl (op_val (v := .bool (!decide ((textZ (3 : Int)) = [51]))) henv rfl (rn_neqs (s := (textZ (3 : Int))) (t := [51]) henv rfl rfl) ?_)
  clear henv a; intro a henv
  rw [show (!decide ((textZ (3 : Int)) = [51])) = false from (by decide +kernel)] at henv
  revert a
  refine sA (v := .bool false) rfl (fun _ henv => rn_pick henv rfl rfl) ?_
  refine mA rfl rfl ?_
  refine gA (v := .slice A288 3 c289) rfl rfl rfl rfl (fun _ henv => rn_move henv rfl) ?_
  refine gA (v := .pointer (some ⟨ab A288, ao A288 + 1 * 2, none⟩)) rfl rfl rfl rfl (fun _ henv => rn_idxR (i := 1) henv Tryd.underlying30 (ty_anvil_integer_Int.size) rfl rfl (by first | decide | omega) rfl (show (pfRow fN FN 2 A288 3 c289 es290).P _ from (hst.pat (k := 6) rfl)).1) ?_
  refine gA (v := .agg #[.bool (neg (-4)), .slice E1 (zl (-4)) k1]) rfl rfl rfl rfl (fun _ henv => rn_loadE (i := 1) (e := (E1, k1, (-4))) henv ty_anvil_integer_Int rfl rfl fN_len (show (pfRow fN FN 2 A288 3 c289 es290).P _ from (hst.pat (k := 6) rfl)).1 (by first | decide | omega) hk1 rfl) ?_
  intro a henv
  refine seq_g rfl henv rfl rfl (op_call henv rfl Tryd.call72 rfl (text_z (z := (-4)) (show ZIn _ E1 k1 (-4) from hst.pat (k := 1) rfl) (by omega)) ?_)
  rintro e w315 ⟨rfl, hb⟩
  refine ⟨_, rfl, ?_⟩
  clear henv a; intro a henv
  replace hst := hst.call hb
  clear hb
  refine seq_g rfl henv rfl rfl (op_val (v := .bool (!decide ((textZ ((-4) : Int)) = [45, 52]))) henv rfl (rn_neqs (s := (textZ ((-4) : Int))) (t := [45, 52]) henv rfl rfl) ?_)
  clear henv a; intro a henv
  rw [show (!decide ((textZ ((-4) : Int)) = [45, 52])) = false from (by decide +kernel)] at henv
  revert a
  refine sA (v := .bool false) rfl (fun _ henv => rn_pick henv rfl rfl) ?_
  refine mA rfl rfl ?_
  refine gA (v := .slice A288 3 c289) rfl rfl rfl rfl (fun _ henv => rn_move henv rfl) ?_
  refine gA (v := .pointer (some ⟨ab A288, ao A288 + 2 * 2, none⟩)) rfl rfl rfl rfl (fun _ henv => rn_idxR (i := 2) henv Tryd.underlying30 (ty_anvil_integer_Int.size) rfl rfl (by first | decide | omega) rfl (show (pfRow fN FN 2 A288 3 c289 es290).P _ from (hst.pat (k := 6) rfl)).1) ?_
  refine gA (v := .agg #[.bool (neg 24), .slice E2 (zl 24) k2]) rfl rfl rfl rfl (fun _ henv => rn_loadE (i := 2) (e := (E2, k2, 24)) henv ty_anvil_integer_Int rfl rfl fN_len (show (pfRow fN FN 2 A288 3 c289 es290).P _ from (hst.pat (k := 6) rfl)).1 (by first | decide | omega) hk2 rfl) ?_
  intro a henv
  refine seq_g rfl henv rfl rfl (op_call henv rfl Tryd.call72 rfl (text_z (z := 24) (show ZIn _ E2 k2 24 from hst.pat (k := 0) rfl) (by omega)) ?_)
  rintro e w316 ⟨rfl, hb⟩
  refine ⟨_, rfl, ?_⟩
  clear henv a; intro a henv
  replace hst := hst.call hb
  clear hb
  refine seq_g rfl henv rfl rfl (op_val (v := .bool (!decide ((textZ (24 : Int)) = [50, 52]))) henv rfl (rn_neqs (s := (textZ (24 : Int))) (t := [50, 52]) henv rfl rfl) ?_)
  clear henv a; intro a henv
  rw [show (!decide ((textZ (24 : Int)) = [50, 52])) = false from (by decide +kernel)] at henv
  revert a
  refine sA (v := .bool false) rfl (fun _ henv => rn_pick henv rfl rfl) ?_
  refine mA rfl rfl ?_
  refine gA (v := .agg #[.bool (neg 6), .slice A294 (zl 6) c295]) rfl rfl rfl rfl (fun _ henv => rn_load0 henv ty_anvil_integer_Int rfl (hst.oat (k := 1) rfl) rfl) ?_
  intro a henv
  refine seq_g rfl henv rfl rfl (op_call henv rfl Tryd.call72 rfl (text_z (z := 6) (show ZIn _ A294 c295 6 from hst.pat (k := 5) rfl) (by omega)) ?_)
  rintro e w317 ⟨rfl, hb⟩
  refine ⟨_, rfl, ?_⟩
  clear henv a; intro a henv
  replace hst := hst.call hb
  clear hb
  refine seq_g rfl henv rfl rfl (op_val (v := .bool (!decide ((textZ (6 : Int)) = [54]))) henv rfl (rn_neqs (s := (textZ (6 : Int))) (t := [54]) henv rfl rfl) ?_)
  clear henv a; intro a henv
  rw [show (!decide ((textZ (6 : Int)) = [54])) = false from (by decide +kernel)] at henv
  revert a
  refine sA (v := .bool false) rfl (fun _ henv => rn_pick henv rfl rfl) ?_
  refine mA rfl rfl ?_
  refine gA (v := .slice A301 0 c302) rfl rfl rfl rfl (fun _ henv => rn_move henv rfl) ?_
  refine gA (v := .bool (!A301.isNone)) rfl rfl rfl rfl (fun _ henv => rn_nilN henv Tryd.underlying30 rfl) ?_
  intro a henv
  rw [show (!A301.isNone) = false from (by rw [hnl306 rfl]; rfl)] at henv
  revert a
  refine sA (v := .bool false) rfl (fun _ henv => rn_pick henv rfl rfl) ?_
  refine mA rfl rfl ?_
  refine gA (v := .agg #[.bool (neg 1), .slice A307 (zl 1) c308]) rfl rfl rfl rfl (fun _ henv => rn_load0 henv ty_anvil_integer_Int rfl (hst.oat (k := 0) rfl) rfl) ?_
  intro a henv
  refine seq_g rfl henv rfl rfl (op_call henv rfl Tryd.call72 rfl (text_z (z := 1) (show ZIn _ A307 c308 1 from hst.pat (k := 3) rfl) (by omega)) ?_)
  rintro e w318 ⟨rfl, hb⟩
  refine ⟨_, rfl, ?_⟩
  clear henv a; intro a henv
  replace hst := hst.call hb
  clear hb
  refine seq_g rfl henv rfl rfl (op_val (v := .bool (!decide ((textZ (1 : Int)) = [49]))) henv rfl (rn_neqs (s := (textZ (1 : Int))) (t := [49]) henv rfl rfl) ?_)
  clear henv a; intro a henv
  rw [show (!decide ((textZ (1 : Int)) = [49])) = false from (by decide +kernel)] at henv
  revert a
  refine sA (v := .bool false) rfl (fun _ henv => rn_pick henv rfl rfl) ?_
  refine mA rfl rfl ?_
  refine gA (v := .func (.func 94) #[] #[]) rfl rfl rfl rfl (fun _ henv => rn_move henv rfl) ?_
  intro a henv
  refine seq_g rfl henv rfl rfl (op_callc (vs := #[.string ⟨#[49, 47, 50]⟩]) henv rfl Tryd.call94 rfl rfl (calls_app (by simp) (qk_of (s := [49, 47, 50]) (r := mkRat 1 2) (by decide +kernel) (by decide))) ?_)
  rintro e w319 ⟨_, rfl, ⟨A320, c321, B322, d323, rfl, hz324, hz325⟩, hb⟩
  refine ⟨_, rfl, ?_⟩
  clear henv a; intro a henv
  replace hst := ((hst.call hb).addZ hz324 ⟨nou_bk rfl, nou_bk rfl, nou_bk rfl, nou_bk rfl, nou_bk rfl, nou_bk rfl, nou_bk rfl, trivial⟩).addZ hz325 ⟨nou_bk rfl, nou_bk rfl, nou_bk rfl, nou_bk rfl, nou_bk rfl, nou_bk rfl, nou_bk rfl, trivial⟩
  clear hz324 hz325
  clear hb
  refine seq_g rfl henv rfl rfl (op_val (v := .func (.func 94) #[] #[]) henv rfl (rn_move henv rfl) ?_)
  clear henv a; intro a henv
  refine seq_g rfl henv rfl rfl (op_callc (vs := #[.string ⟨#[49, 47, 51]⟩]) henv rfl Tryd.call94 rfl rfl (calls_app (by simp) (qk_of (s := [49, 47, 51]) (r := mkRat 1 3) (by decide +kernel) (by decide))) ?_)
  rintro e w326 ⟨_, rfl, ⟨A327, c328, B329, d330, rfl, hz331, hz332⟩, hb⟩
  refine ⟨_, rfl, ?_⟩
  clear henv a; intro a henv
  replace hst := ((hst.call hb).addZ hz331 ⟨nou_bk rfl, nou_bk rfl, nou_bk rfl, nou_bk rfl, nou_bk rfl, nou_bk rfl, nou_bk rfl, trivial⟩).addZ hz332 ⟨nou_bk rfl, nou_bk rfl, nou_bk rfl, nou_bk rfl, nou_bk rfl, nou_bk rfl, nou_bk rfl, trivial⟩
  clear hz331 hz332
  clear hb
  refine seq_g rfl henv rfl rfl (op_val (v := .func (.func 94) #[] #[]) henv rfl (rn_move henv rfl) ?_)
  clear henv a; intro a henv
  refine seq_g rfl henv rfl rfl (op_callc (vs := #[.string ⟨#[49, 47, 54]⟩]) henv rfl Tryd.call94 rfl rfl (calls_app (by simp) (qk_of (s := [49, 47, 54]) (r := mkRat 1 6) (by decide +kernel) (by decide))) ?_)
  rintro e w333 ⟨_, rfl, ⟨A334, c335, B336, d337, rfl, hz338, hz339⟩, hb⟩
  refine ⟨_, rfl, ?_⟩
  clear henv a; intro a henv
  replace hst := ((hst.call hb).addZ hz338 ⟨nou_bk rfl, nou_bk rfl, nou_bk rfl, nou_bk rfl, nou_bk rfl, nou_bk rfl, nou_bk rfl, trivial⟩).addZ hz339 ⟨nou_bk rfl, nou_bk rfl, nou_bk rfl, nou_bk rfl, nou_bk rfl, nou_bk rfl, nou_bk rfl, trivial⟩
  clear hz338 hz339
  clear hb
  refine seq_g rfl henv rfl rfl (op_buildSlice (z := 4) (pv := #[(0, .agg #[.bool (neg (qn (mkRat 1 2))), .slice A320 (zl (qn (mkRat 1 2))) c321, .bool (neg (ql (mkRat 1 2))), .slice B322 (zl (ql (mkRat 1 2))) d323]), (1, .agg #[.bool (neg (qn (mkRat 1 3))), .slice A327 (zl (qn (mkRat 1 3))) c328, .bool (neg (ql (mkRat 1 3))), .slice B329 (zl (ql (mkRat 1 3))) d330]), (2, .agg #[.bool (neg (qn (mkRat 1 6))), .slice A334 (zl (qn (mkRat 1 6))) c335, .bool (neg (ql (mkRat 1 6))), .slice B336 (zl (ql (mkRat 1 6))) d337])]) (c := #[.bool (neg (qn (mkRat 1 2))), .slice A320 (zl (qn (mkRat 1 2))) c321, .bool (neg (ql (mkRat 1 2))), .slice B322 (zl (ql (mkRat 1 2))) d323, .bool (neg (qn (mkRat 1 3))), .slice A327 (zl (qn (mkRat 1 3))) c328, .bool (neg (ql (mkRat 1 3))), .slice B329 (zl (ql (mkRat 1 3))) d330, .bool (neg (qn (mkRat 1 6))), .slice A334 (zl (qn (mkRat 1 6))) c335, .bool (neg (ql (mkRat 1 6))), .slice B336 (zl (ql (mkRat 1 6))) d337]) henv hst rfl Tryd.underlying105 (ty_anvil_ratio_Rat.size) zero_anvil_ratio_Rat (by decide) (by decide) rfl (by kernel_rfl) ?_)
  clear henv hst a; intro a w341 g340 henv hst
  replace hst := hst.nilEs FK
  replace hst := hst.and2 (i := 6) (j := 5) rfl rfl
  replace hst : St w0 _ [bk g340 #[.bool (neg (qn (mkRat 1 2))), .slice A320 (zl (qn (mkRat 1 2))) c321, .bool (neg (ql (mkRat 1 2))), .slice B322 (zl (ql (mkRat 1 2))) d323, .bool (neg (qn (mkRat 1 3))), .slice A327 (zl (qn (mkRat 1 3))) c328, .bool (neg (ql (mkRat 1 3))), .slice B329 (zl (ql (mkRat 1 3))) d330, .bool (neg (qn (mkRat 1 6))), .slice A334 (zl (qn (mkRat 1 6))) c335, .bool (neg (ql (mkRat 1 6))), .slice B336 (zl (ql (mkRat 1 6))) d337] 91, bk g311 #[.bool (neg 1), .slice A307 (zl 1) c308] 36, bk g298 #[.bool (neg 6), .slice A294 (zl 6) c295] 36, bk g127 #[.bool (neg (qn 0)), .slice none (zl (qn 0)) 0, .bool (neg (ql 0)), .slice none (zl (ql 0)) 0] 91, bk g122 #[.bool (neg (qn ((mkRat 1 2) / (mkRat 1 3)))), .slice A114 (zl (qn ((mkRat 1 2) / (mkRat 1 3)))) c115, .bool (neg (ql ((mkRat 1 2) / (mkRat 1 3)))), .slice B116 (zl (ql ((mkRat 1 2) / (mkRat 1 3)))) d117] 91, bk g97 #[.bool (neg (qn 0)), .slice none (zl (qn 0)) 0, .bool (neg (ql 0)), .slice none (zl (ql 0)) 0] 91, bk g79 #[.bool (neg (qn ((0 : Int) : Rat))), .slice A72 (zl (qn ((0 : Int) : Rat))) c73, .bool (neg (ql ((0 : Int) : Rat))), .slice B74 (zl (ql ((0 : Int) : Rat))) d75] 91, bk g61 #[.bool (neg (qn 0)), .slice none (zl (qn 0)) 0, .bool (neg (ql 0)), .slice none (zl (ql 0)) 0] 91] [FK (A320, c321, B322, d323, (mkRat 1 2)), pfEs FK ([]), pfZ B336 d337 (ql (mkRat 1 6)), pfZ A334 c335 (qn (mkRat 1 6)), pfZ B329 d330 (ql (mkRat 1 3)), pfZ A327 c328 (qn (mkRat 1 3)), pfZ B322 d323 (ql (mkRat 1 2)), pfZ A320 c321 (qn (mkRat 1 2)), pfZ E2 k2 24, pfZ E1 k1 (-4), pfZ E0 k0 3, pfZ A307 c308 1, pfRow fN FN 2 A301 0 c302 es303, pfZ A294 c295 6, pfRow fN FN 2 A288 3 c289 es290, pfRow fK FK 4 (some ⟨g286, 0, none⟩) 3 3 ([(A266, c267, B268, d269, (mkRat 1 2)), (A273, c274, B275, d276, (mkRat (-2) 3)), (A280, c281, B282, d283, ((4 : Int) : Rat))]), pfRd 4 (some ⟨g286, 0, none⟩) 3 3 (fl fK [(A266, c267, B268, d269, (mkRat 1 2)), (A273, c274, B275, d276, (mkRat (-2) 3)), (A280, c281, B282, d283, ((4 : Int) : Rat))]), pfEs FK ([(A266, c267, B268, d269, (mkRat 1 2)), (A273, c274, B275, d276, (mkRat (-2) 3)), (A280, c281, B282, d283, ((4 : Int) : Rat))]), FK (A280, c281, B282, d283, ((4 : Int) : Rat)), pfEs FK ([(A266, c267, B268, d269, (mkRat 1 2)), (A273, c274, B275, d276, (mkRat (-2) 3))]), FK (A273, c274, B275, d276, (mkRat (-2) 3)), pfEs FK ([(A266, c267, B268, d269, (mkRat 1 2))]), FK (A266, c267, B268, d269, (mkRat 1 2)), pfEs FK ([]), pfZ B282 d283 (ql ((4 : Int) : Rat)), pfZ A280 c281 (qn ((4 : Int) : Rat)), pfZ B275 d276 (ql (mkRat (-2) 3)), pfZ A273 c274 (qn (mkRat (-2) 3)), pfZ B268 d269 (ql (mkRat 1 2)), pfZ A266 c267 (qn (mkRat 1 2)), pfZ B260 d261 (ql (mkRat 1 3)), pfZ A258 c259 (qn (mkRat 1 3)), pfZ B253 d254 (ql (mkRat 1 2)), pfZ A251 c252 (qn (mkRat 1 2)), pfZ B243 d244 (ql ((mkRat 1 2) * (mkRat 1 3))), pfZ A241 c242 (qn ((mkRat 1 2) * (mkRat 1 3))), pfZ B237 d238 (ql (mkRat 1 3)), pfZ A235 c236 (qn (mkRat 1 3)), pfZ B230 d231 (ql (mkRat 1 2)), pfZ A228 c229 (qn (mkRat 1 2)), pfZ B220 d221 (ql ((mkRat 1 2) - (mkRat 1 3))), pfZ A218 c219 (qn ((mkRat 1 2) - (mkRat 1 3))), pfZ B214 d215 (ql (mkRat 1 3)), pfZ A212 c213 (qn (mkRat 1 3)), pfZ B207 d208 (ql (mkRat 1 2)), pfZ A205 c206 (qn (mkRat 1 2)), pfZ B197 d198 (ql ((mkRat 1 2) + (mkRat 1 3))), pfZ A195 c196 (qn ((mkRat 1 2) + (mkRat 1 3))), pfZ B191 d192 (ql (mkRat 1 3)), pfZ A189 c190 (qn (mkRat 1 3)), pfZ B184 d185 (ql (mkRat 1 2)), pfZ A182 c183 (qn (mkRat 1 2)), pfZ B174 d175 (ql (-0)), pfZ A172 c173 (qn (-0)), pfZ B164 d165 (ql (0 * (mkRat 1 2))), pfZ A162 c163 (qn (0 * (mkRat 1 2))), pfZ B158 d159 (ql (mkRat 1 2)), pfZ A156 c157 (qn (mkRat 1 2)), pfZ B148 d149 (ql (0 + (mkRat 1 2))), pfZ A146 c147 (qn (0 + (mkRat 1 2))), pfZ B142 d143 (ql (mkRat 1 2)), pfZ A140 c141 (qn (mkRat 1 2)), pfZ A131 c132 (qd 0), pfZ B116 d117 (ql ((mkRat 1 2) / (mkRat 1 3))), pfZ A114 c115 (qn ((mkRat 1 2) / (mkRat 1 3))), pfZ B110 d111 (ql (mkRat 1 3)), pfZ A108 c109 (qn (mkRat 1 3)), pfZ B103 d104 (ql (mkRat 1 2)), pfZ A101 c102 (qn (mkRat 1 2)), pfZ none 0 (ql 0), pfZ none 0 (qn 0), pfZ B92 d93 (ql 0), pfZ A90 c91 (qn 0), pfZ B85 d86 (ql (mkRat 1 2)), pfZ A83 c84 (qn (mkRat 1 2)), pfZ B74 d75 (ql ((0 : Int) : Rat)), pfZ A72 c73 (qn ((0 : Int) : Rat)), pfZ A68 c69 (-5), pfZ A64 c65 0, pfZ none 0 (ql 0), pfZ none 0 (qn 0), pfZ A56 c57 0, pfZ A52 c53 1] := hst
  replace hst := hst.snocEs (e := (A320, c321, B322, d323, (mkRat 1 2))) (i := 1) (j := 0) rfl rfl
  replace hst : St w0 _ [bk g340 #[.bool (neg (qn (mkRat 1 2))), .slice A320 (zl (qn (mkRat 1 2))) c321, .bool (neg (ql (mkRat 1 2))), .slice B322 (zl (ql (mkRat 1 2))) d323, .bool (neg (qn (mkRat 1 3))), .slice A327 (zl (qn (mkRat 1 3))) c328, .bool (neg (ql (mkRat 1 3))), .slice B329 (zl (ql (mkRat 1 3))) d330, .bool (neg (qn (mkRat 1 6))), .slice A334 (zl (qn (mkRat 1 6))) c335, .bool (neg (ql (mkRat 1 6))), .slice B336 (zl (ql (mkRat 1 6))) d337] 91, bk g311 #[.bool (neg 1), .slice A307 (zl 1) c308] 36, bk g298 #[.bool (neg 6), .slice A294 (zl 6) c295] 36, bk g127 #[.bool (neg (qn 0)), .slice none (zl (qn 0)) 0, .bool (neg (ql 0)), .slice none (zl (ql 0)) 0] 91, bk g122 #[.bool (neg (qn ((mkRat 1 2) / (mkRat 1 3)))), .slice A114 (zl (qn ((mkRat 1 2) / (mkRat 1 3)))) c115, .bool (neg (ql ((mkRat 1 2) / (mkRat 1 3)))), .slice B116 (zl (ql ((mkRat 1 2) / (mkRat 1 3)))) d117] 91, bk g97 #[.bool (neg (qn 0)), .slice none (zl (qn 0)) 0, .bool (neg (ql 0)), .slice none (zl (ql 0)) 0] 91, bk g79 #[.bool (neg (qn ((0 : Int) : Rat))), .slice A72 (zl (qn ((0 : Int) : Rat))) c73, .bool (neg (ql ((0 : Int) : Rat))), .slice B74 (zl (ql ((0 : Int) : Rat))) d75] 91, bk g61 #[.bool (neg (qn 0)), .slice none (zl (qn 0)) 0, .bool (neg (ql 0)), .slice none (zl (ql 0)) 0] 91] [pfEs FK ([(A320, c321, B322, d323, (mkRat 1 2))]), FK (A320, c321, B322, d323, (mkRat 1 2)), pfEs FK ([]), pfZ B336 d337 (ql (mkRat 1 6)), pfZ A334 c335 (qn (mkRat 1 6)), pfZ B329 d330 (ql (mkRat 1 3)), pfZ A327 c328 (qn (mkRat 1 3)), pfZ B322 d323 (ql (mkRat 1 2)), pfZ A320 c321 (qn (mkRat 1 2)), pfZ E2 k2 24, pfZ E1 k1 (-4), pfZ E0 k0 3, pfZ A307 c308 1, pfRow fN FN 2 A301 0 c302 es303, pfZ A294 c295 6, pfRow fN FN 2 A288 3 c289 es290, pfRow fK FK 4 (some ⟨g286, 0, none⟩) 3 3 ([(A266, c267, B268, d269, (mkRat 1 2)), (A273, c274, B275, d276, (mkRat (-2) 3)), (A280, c281, B282, d283, ((4 : Int) : Rat))]), pfRd 4 (some ⟨g286, 0, none⟩) 3 3 (fl fK [(A266, c267, B268, d269, (mkRat 1 2)), (A273, c274, B275, d276, (mkRat (-2) 3)), (A280, c281, B282, d283, ((4 : Int) : Rat))]), pfEs FK ([(A266, c267, B268, d269, (mkRat 1 2)), (A273, c274, B275, d276, (mkRat (-2) 3)), (A280, c281, B282, d283, ((4 : Int) : Rat))]), FK (A280, c281, B282, d283, ((4 : Int) : Rat)), pfEs FK ([(A266, c267, B268, d269, (mkRat 1 2)), (A273, c274, B275, d276, (mkRat (-2) 3))]), FK (A273, c274, B275, d276, (mkRat (-2) 3)), pfEs FK ([(A266, c267, B268, d269, (mkRat 1 2))]), FK (A266, c267, B268, d269, (mkRat 1 2)), pfEs FK ([]), pfZ B282 d283 (ql ((4 : Int) : Rat)), pfZ A280 c281 (qn ((4 : Int) : Rat)), pfZ B275 d276 (ql (mkRat (-2) 3)), pfZ A273 c274 (qn (mkRat (-2) 3)), pfZ B268 d269 (ql (mkRat 1 2)), pfZ A266 c267 (qn (mkRat 1 2)), pfZ B260 d261 (ql (mkRat 1 3)), pfZ A258 c259 (qn (mkRat 1 3)), pfZ B253 d254 (ql (mkRat 1 2)), pfZ A251 c252 (qn (mkRat 1 2)), pfZ B243 d244 (ql ((mkRat 1 2) * (mkRat 1 3))), pfZ A241 c242 (qn ((mkRat 1 2) * (mkRat 1 3))), pfZ B237 d238 (ql (mkRat 1 3)), pfZ A235 c236 (qn (mkRat 1 3)), pfZ B230 d231 (ql (mkRat 1 2)), pfZ A228 c229 (qn (mkRat 1 2)), pfZ B220 d221 (ql ((mkRat 1 2) - (mkRat 1 3))), pfZ A218 c219 (qn ((mkRat 1 2) - (mkRat 1 3))), pfZ B214 d215 (ql (mkRat 1 3)), pfZ A212 c213 (qn (mkRat 1 3)), pfZ B207 d208 (ql (mkRat 1 2)), pfZ A205 c206 (qn (mkRat 1 2)), pfZ B197 d198 (ql ((mkRat 1 2) + (mkRat 1 3))), pfZ A195 c196 (qn ((mkRat 1 2) + (mkRat 1 3))), pfZ B191 d192 (ql (mkRat 1 3)), pfZ A189 c190 (qn (mkRat 1 3)), pfZ B184 d185 (ql (mkRat 1 2)), pfZ A182 c183 (qn (mkRat 1 2)), pfZ B174 d175 (ql (-0)), pfZ A172 c173 (qn (-0)), pfZ B164 d165 (ql (0 * (mkRat 1 2))), pfZ A162 c163 (qn (0 * (mkRat 1 2))), pfZ B158 d159 (ql (mkRat 1 2)), pfZ A156 c157 (qn (mkRat 1 2)), pfZ B148 d149 (ql (0 + (mkRat 1 2))), pfZ A146 c147 (qn (0 + (mkRat 1 2))), pfZ B142 d143 (ql (mkRat 1 2)), pfZ A140 c141 (qn (mkRat 1 2)), pfZ A131 c132 (qd 0), pfZ B116 d117 (ql ((mkRat 1 2) / (mkRat 1 3))), pfZ A114 c115 (qn ((mkRat 1 2) / (mkRat 1 3))), pfZ B110 d111 (ql (mkRat 1 3)), pfZ A108 c109 (qn (mkRat 1 3)), pfZ B103 d104 (ql (mkRat 1 2)), pfZ A101 c102 (qn (mkRat 1 2)), pfZ none 0 (ql 0), pfZ none 0 (qn 0), pfZ B92 d93 (ql 0), pfZ A90 c91 (qn 0), pfZ B85 d86 (ql (mkRat 1 2)), pfZ A83 c84 (qn (mkRat 1 2)), pfZ B74 d75 (ql ((0 : Int) : Rat)), pfZ A72 c73 (qn ((0 : Int) : Rat)), pfZ A68 c69 (-5), pfZ A64 c65 0, pfZ none 0 (ql 0), pfZ none 0 (qn 0), pfZ A56 c57 0, pfZ A52 c53 1] := hst
  replace hst := hst.and2 (i := 6) (j := 5) rfl rfl
  replace hst : St w0 _ [bk g340 #[.bool (neg (qn (mkRat 1 2))), .slice A320 (zl (qn (mkRat 1 2))) c321, .bool (neg (ql (mkRat 1 2))), .slice B322 (zl (ql (mkRat 1 2))) d323, .bool (neg (qn (mkRat 1 3))), .slice A327 (zl (qn (mkRat 1 3))) c328, .bool (neg (ql (mkRat 1 3))), .slice B329 (zl (ql (mkRat 1 3))) d330, .bool (neg (qn (mkRat 1 6))), .slice A334 (zl (qn (mkRat 1 6))) c335, .bool (neg (ql (mkRat 1 6))), .slice B336 (zl (ql (mkRat 1 6))) d337] 91, bk g311 #[.bool (neg 1), .slice A307 (zl 1) c308] 36, bk g298 #[.bool (neg 6), .slice A294 (zl 6) c295] 36, bk g127 #[.bool (neg (qn 0)), .slice none (zl (qn 0)) 0, .bool (neg (ql 0)), .slice none (zl (ql 0)) 0] 91, bk g122 #[.bool (neg (qn ((mkRat 1 2) / (mkRat 1 3)))), .slice A114 (zl (qn ((mkRat 1 2) / (mkRat 1 3)))) c115, .bool (neg (ql ((mkRat 1 2) / (mkRat 1 3)))), .slice B116 (zl (ql ((mkRat 1 2) / (mkRat 1 3)))) d117] 91, bk g97 #[.bool (neg (qn 0)), .slice none (zl (qn 0)) 0, .bool (neg (ql 0)), .slice none (zl (ql 0)) 0] 91, bk g79 #[.bool (neg (qn ((0 : Int) : Rat))), .slice A72 (zl (qn ((0 : Int) : Rat))) c73, .bool (neg (ql ((0 : Int) : Rat))), .slice B74 (zl (ql ((0 : Int) : Rat))) d75] 91, bk g61 #[.bool (neg (qn 0)), .slice none (zl (qn 0)) 0, .bool (neg (ql 0)), .slice none (zl (ql 0)) 0] 91] [FK (A327, c328, B329, d330, (mkRat 1 3)), pfEs FK ([(A320, c321, B322, d323, (mkRat 1 2))]), FK (A320, c321, B322, d323, (mkRat 1 2)), pfEs FK ([]), pfZ B336 d337 (ql (mkRat 1 6)), pfZ A334 c335 (qn (mkRat 1 6)), pfZ B329 d330 (ql (mkRat 1 3)), pfZ A327 c328 (qn (mkRat 1 3)), pfZ B322 d323 (ql (mkRat 1 2)), pfZ A320 c321 (qn (mkRat 1 2)), pfZ E2 k2 24, pfZ E1 k1 (-4), pfZ E0 k0 3, pfZ A307 c308 1, pfRow fN FN 2 A301 0 c302 es303, pfZ A294 c295 6, pfRow fN FN 2 A288 3 c289 es290, pfRow fK FK 4 (some ⟨g286, 0, none⟩) 3 3 ([(A266, c267, B268, d269, (mkRat 1 2)), (A273, c274, B275, d276, (mkRat (-2) 3)), (A280, c281, B282, d283, ((4 : Int) : Rat))]), pfRd 4 (some ⟨g286, 0, none⟩) 3 3 (fl fK [(A266, c267, B268, d269, (mkRat 1 2)), (A273, c274, B275, d276, (mkRat (-2) 3)), (A280, c281, B282, d283, ((4 : Int) : Rat))]), pfEs FK ([(A266, c267, B268, d269, (mkRat 1 2)), (A273, c274, B275, d276, (mkRat (-2) 3)), (A280, c281, B282, d283, ((4 : Int) : Rat))]), FK (A280, c281, B282, d283, ((4 : Int) : Rat)), pfEs FK ([(A266, c267, B268, d269, (mkRat 1 2)), (A273, c274, B275, d276, (mkRat (-2) 3))]), FK (A273, c274, B275, d276, (mkRat (-2) 3)), pfEs FK ([(A266, c267, B268, d269, (mkRat 1 2))]), FK (A266, c267, B268, d269, (mkRat 1 2)), pfEs FK ([]), pfZ B282 d283 (ql ((4 : Int) : Rat)), pfZ A280 c281 (qn ((4 : Int) : Rat)), pfZ B275 d276 (ql (mkRat (-2) 3)), pfZ A273 c274 (qn (mkRat (-2) 3)), pfZ B268 d269 (ql (mkRat 1 2)), pfZ A266 c267 (qn (mkRat 1 2)), pfZ B260 d261 (ql (mkRat 1 3)), pfZ A258 c259 (qn (mkRat 1 3)), pfZ B253 d254 (ql (mkRat 1 2)), pfZ A251 c252 (qn (mkRat 1 2)), pfZ B243 d244 (ql ((mkRat 1 2) * (mkRat 1 3))), pfZ A241 c242 (qn ((mkRat 1 2) * (mkRat 1 3))), pfZ B237 d238 (ql (mkRat 1 3)), pfZ A235 c236 (qn (mkRat 1 3)), pfZ B230 d231 (ql (mkRat 1 2)), pfZ A228 c229 (qn (mkRat 1 2)), pfZ B220 d221 (ql ((mkRat 1 2) - (mkRat 1 3))), pfZ A218 c219 (qn ((mkRat 1 2) - (mkRat 1 3))), pfZ B214 d215 (ql (mkRat 1 3)), pfZ A212 c213 (qn (mkRat 1 3)), pfZ B207 d208 (ql (mkRat 1 2)), pfZ A205 c206 (qn (mkRat 1 2)), pfZ B197 d198 (ql ((mkRat 1 2) + (mkRat 1 3))), pfZ A195 c196 (qn ((mkRat 1 2) + (mkRat 1 3))), pfZ B191 d192 (ql (mkRat 1 3)), pfZ A189 c190 (qn (mkRat 1 3)), pfZ B184 d185 (ql (mkRat 1 2)), pfZ A182 c183 (qn (mkRat 1 2)), pfZ B174 d175 (ql (-0)), pfZ A172 c173 (qn (-0)), pfZ B164 d165 (ql (0 * (mkRat 1 2))), pfZ A162 c163 (qn (0 * (mkRat 1 2))), pfZ B158 d159 (ql (mkRat 1 2)), pfZ A156 c157 (qn (mkRat 1 2)), pfZ B148 d149 (ql (0 + (mkRat 1 2))), pfZ A146 c147 (qn (0 + (mkRat 1 2))), pfZ B142 d143 (ql (mkRat 1 2)), pfZ A140 c141 (qn (mkRat 1 2)), pfZ A131 c132 (qd 0), pfZ B116 d117 (ql ((mkRat 1 2) / (mkRat 1 3))), pfZ A114 c115 (qn ((mkRat 1 2) / (mkRat 1 3))), pfZ B110 d111 (ql (mkRat 1 3)), pfZ A108 c109 (qn (mkRat 1 3)), pfZ B103 d104 (ql (mkRat 1 2)), pfZ A101 c102 (qn (mkRat 1 2)), pfZ none 0 (ql 0), pfZ none 0 (qn 0), pfZ B92 d93 (ql 0), pfZ A90 c91 (qn 0), pfZ B85 d86 (ql (mkRat 1 2)), pfZ A83 c84 (qn (mkRat 1 2)), pfZ B74 d75 (ql ((0 : Int) : Rat)), pfZ A72 c73 (qn ((0 : Int) : Rat)), pfZ A68 c69 (-5), pfZ A64 c65 0, pfZ none 0 (ql 0), pfZ none 0 (qn 0), pfZ A56 c57 0, pfZ A52 c53 1] := hst
  replace hst := hst.snocEs (e := (A327, c328, B329, d330, (mkRat 1 3))) (i := 1) (j := 0) rfl rfl
  replace hst : St w0 _ [bk g340 #[.bool (neg (qn (mkRat 1 2))), .slice A320 (zl (qn (mkRat 1 2))) c321, .bool (neg (ql (mkRat 1 2))), .slice B322 (zl (ql (mkRat 1 2))) d323, .bool (neg (qn (mkRat 1 3))), .slice A327 (zl (qn (mkRat 1 3))) c328, .bool (neg (ql (mkRat 1 3))), .slice B329 (zl (ql (mkRat 1 3))) d330, .bool (neg (qn (mkRat 1 6))), .slice A334 (zl (qn (mkRat 1 6))) c335, .bool (neg (ql (mkRat 1 6))), .slice B336 (zl (ql (mkRat 1 6))) d337] 91, bk g311 #[.bool (neg 1), .slice A307 (zl 1) c308] 36, bk g298 #[.bool (neg 6), .slice A294 (zl 6) c295] 36, bk g127 #[.bool (neg (qn 0)), .slice none (zl (qn 0)) 0, .bool (neg (ql 0)), .slice none (zl (ql 0)) 0] 91, bk g122 #[.bool (neg (qn ((mkRat 1 2) / (mkRat 1 3)))), .slice A114 (zl (qn ((mkRat 1 2) / (mkRat 1 3)))) c115, .bool (neg (ql ((mkRat 1 2) / (mkRat 1 3)))), .slice B116 (zl (ql ((mkRat 1 2) / (mkRat 1 3)))) d117] 91, bk g97 #[.bool (neg (qn 0)), .slice none (zl (qn 0)) 0, .bool (neg (ql 0)), .slice none (zl (ql 0)) 0] 91, bk g79 #[.bool (neg (qn ((0 : Int) : Rat))), .slice A72 (zl (qn ((0 : Int) : Rat))) c73, .bool (neg (ql ((0 : Int) : Rat))), .slice B74 (zl (ql ((0 : Int) : Rat))) d75] 91, bk g61 #[.bool (neg (qn 0)), .slice none (zl (qn 0)) 0, .bool (neg (ql 0)), .slice none (zl (ql 0)) 0] 91] [pfEs FK ([(A320, c321, B322, d323, (mkRat 1 2)), (A327, c328, B329, d330, (mkRat 1 3))]), FK (A327, c328, B329, d330, (mkRat 1 3)), pfEs FK ([(A320, c321, B322, d323, (mkRat 1 2))]), FK (A320, c321, B322, d323, (mkRat 1 2)), pfEs FK ([]), pfZ B336 d337 (ql (mkRat 1 6)), pfZ A334 c335 (qn (mkRat 1 6)), pfZ B329 d330 (ql (mkRat 1 3)), pfZ A327 c328 (qn (mkRat 1 3)), pfZ B322 d323 (ql (mkRat 1 2)), pfZ A320 c321 (qn (mkRat 1 2)), pfZ E2 k2 24, pfZ E1 k1 (-4), pfZ E0 k0 3, pfZ A307 c308 1, pfRow fN FN 2 A301 0 c302 es303, pfZ A294 c295 6, pfRow fN FN 2 A288 3 c289 es290, pfRow fK FK 4 (some ⟨g286, 0, none⟩) 3 3 ([(A266, c267, B268, d269, (mkRat 1 2)), (A273, c274, B275, d276, (mkRat (-2) 3)), (A280, c281, B282, d283, ((4 : Int) : Rat))]), pfRd 4 (some ⟨g286, 0, none⟩) 3 3 (fl fK [(A266, c267, B268, d269, (mkRat 1 2)), (A273, c274, B275, d276, (mkRat (-2) 3)), (A280, c281, B282, d283, ((4 : Int) : Rat))]), pfEs FK ([(A266, c267, B268, d269, (mkRat 1 2)), (A273, c274, B275, d276, (mkRat (-2) 3)), (A280, c281, B282, d283, ((4 : Int) : Rat))]), FK (A280, c281, B282, d283, ((4 : Int) : Rat)), pfEs FK ([(A266, c267, B268, d269, (mkRat 1 2)), (A273, c274, B275, d276, (mkRat (-2) 3))]), FK (A273, c274, B275, d276, (mkRat (-2) 3)), pfEs FK ([(A266, c267, B268, d269, (mkRat 1 2))]), FK (A266, c267, B268, d269, (mkRat 1 2)), pfEs FK ([]), pfZ B282 d283 (ql ((4 : Int) : Rat)), pfZ A280 c281 (qn ((4 : Int) : Rat)), pfZ B275 d276 (ql (mkRat (-2) 3)), pfZ A273 c274 (qn (mkRat (-2) 3)), pfZ B268 d269 (ql (mkRat 1 2)), pfZ A266 c267 (qn (mkRat 1 2)), pfZ B260 d261 (ql (mkRat 1 3)), pfZ A258 c259 (qn (mkRat 1 3)), pfZ B253 d254 (ql (mkRat 1 2)), pfZ A251 c252 (qn (mkRat 1 2)), pfZ B243 d244 (ql ((mkRat 1 2) * (mkRat 1 3))), pfZ A241 c242 (qn ((mkRat 1 2) * (mkRat 1 3))), pfZ B237 d238 (ql (mkRat 1 3)), pfZ A235 c236 (qn (mkRat 1 3)), pfZ B230 d231 (ql (mkRat 1 2)), pfZ A228 c229 (qn (mkRat 1 2)), pfZ B220 d221 (ql ((mkRat 1 2) - (mkRat 1 3))), pfZ A218 c219 (qn ((mkRat 1 2) - (mkRat 1 3))), pfZ B214 d215 (ql (mkRat 1 3)), pfZ A212 c213 (qn (mkRat 1 3)), pfZ B207 d208 (ql (mkRat 1 2)), pfZ A205 c206 (qn (mkRat 1 2)), pfZ B197 d198 (ql ((mkRat 1 2) + (mkRat 1 3))), pfZ A195 c196 (qn ((mkRat 1 2) + (mkRat 1 3))), pfZ B191 d192 (ql (mkRat 1 3)), pfZ A189 c190 (qn (mkRat 1 3)), pfZ B184 d185 (ql (mkRat 1 2)), pfZ A182 c183 (qn (mkRat 1 2)), pfZ B174 d175 (ql (-0)), pfZ A172 c173 (qn (-0)), pfZ B164 d165 (ql (0 * (mkRat 1 2))), pfZ A162 c163 (qn (0 * (mkRat 1 2))), pfZ B158 d159 (ql (mkRat 1 2)), pfZ A156 c157 (qn (mkRat 1 2)), pfZ B148 d149 (ql (0 + (mkRat 1 2))), pfZ A146 c147 (qn (0 + (mkRat 1 2))), pfZ B142 d143 (ql (mkRat 1 2)), pfZ A140 c141 (qn (mkRat 1 2)), pfZ A131 c132 (qd 0), pfZ B116 d117 (ql ((mkRat 1 2) / (mkRat 1 3))), pfZ A114 c115 (qn ((mkRat 1 2) / (mkRat 1 3))), pfZ B110 d111 (ql (mkRat 1 3)), pfZ A108 c109 (qn (mkRat 1 3)), pfZ B103 d104 (ql (mkRat 1 2)), pfZ A101 c102 (qn (mkRat 1 2)), pfZ none 0 (ql 0), pfZ none 0 (qn 0), pfZ B92 d93 (ql 0), pfZ A90 c91 (qn 0), pfZ B85 d86 (ql (mkRat 1 2)), pfZ A83 c84 (qn (mkRat 1 2)), pfZ B74 d75 (ql ((0 : Int) : Rat)), pfZ A72 c73 (qn ((0 : Int) : Rat)), pfZ A68 c69 (-5), pfZ A64 c65 0, pfZ none 0 (ql 0), pfZ none 0 (qn 0), pfZ A56 c57 0, pfZ A52 c53 1] := hst
  replace hst := hst.and2 (i := 6) (j := 5) rfl rfl
  replace hst : St w0 _ [bk g340 #[.bool (neg (qn (mkRat 1 2))), .slice A320 (zl (qn (mkRat 1 2))) c321, .bool (neg (ql (mkRat 1 2))), .slice B322 (zl (ql (mkRat 1 2))) d323, .bool (neg (qn (mkRat 1 3))), .slice A327 (zl (qn (mkRat 1 3))) c328, .bool (neg (ql (mkRat 1 3))), .slice B329 (zl (ql (mkRat 1 3))) d330, .bool (neg (qn (mkRat 1 6))), .slice A334 (zl (qn (mkRat 1 6))) c335, .bool (neg (ql (mkRat 1 6))), .slice B336 (zl (ql (mkRat 1 6))) d337] 91, bk g311 #[.bool (neg 1), .slice A307 (zl 1) c308] 36, bk g298 #[.bool (neg 6), .slice A294 (zl 6) c295] 36, bk g127 #[.bool (neg (qn 0)), .slice none (zl (qn 0)) 0, .bool (neg (ql 0)), .slice none (zl (ql 0)) 0] 91, bk g122 #[.bool (neg (qn ((mkRat 1 2) / (mkRat 1 3)))), .slice A114 (zl (qn ((mkRat 1 2) / (mkRat 1 3)))) c115, .bool (neg (ql ((mkRat 1 2) / (mkRat 1 3)))), .slice B116 (zl (ql ((mkRat 1 2) / (mkRat 1 3)))) d117] 91, bk g97 #[.bool (neg (qn 0)), .slice none (zl (qn 0)) 0, .bool (neg (ql 0)), .slice none (zl (ql 0)) 0] 91, bk g79 #[.bool (neg (qn ((0 : Int) : Rat))), .slice A72 (zl (qn ((0 : Int) : Rat))) c73, .bool (neg (ql ((0 : Int) : Rat))), .slice B74 (zl (ql ((0 : Int) : Rat))) d75] 91, bk g61 #[.bool (neg (qn 0)), .slice none (zl (qn 0)) 0, .bool (neg (ql 0)), .slice none (zl (ql 0)) 0] 91] [FK (A334, c335, B336, d337, (mkRat 1 6)), pfEs FK ([(A320, c321, B322, d323, (mkRat 1 2)), (A327, c328, B329, d330, (mkRat 1 3))]), FK (A327, c328, B329, d330, (mkRat 1 3)), pfEs FK ([(A320, c321, B322, d323, (mkRat 1 2))]), FK (A320, c321, B322, d323, (mkRat 1 2)), pfEs FK ([]), pfZ B336 d337 (ql (mkRat 1 6)), pfZ A334 c335 (qn (mkRat 1 6)), pfZ B329 d330 (ql (mkRat 1 3)), pfZ A327 c328 (qn (mkRat 1 3)), pfZ B322 d323 (ql (mkRat 1 2)), pfZ A320 c321 (qn (mkRat 1 2)), pfZ E2 k2 24, pfZ E1 k1 (-4), pfZ E0 k0 3, pfZ A307 c308 1, pfRow fN FN 2 A301 0 c302 es303, pfZ A294 c295 6, pfRow fN FN 2 A288 3 c289 es290, pfRow fK FK 4 (some ⟨g286, 0, none⟩) 3 3 ([(A266, c267, B268, d269, (mkRat 1 2)), (A273, c274, B275, d276, (mkRat (-2) 3)), (A280, c281, B282, d283, ((4 : Int) : Rat))]), pfRd 4 (some ⟨g286, 0, none⟩) 3 3 (fl fK [(A266, c267, B268, d269, (mkRat 1 2)), (A273, c274, B275, d276, (mkRat (-2) 3)), (A280, c281, B282, d283, ((4 : Int) : Rat))]), pfEs FK ([(A266, c267, B268, d269, (mkRat 1 2)), (A273, c274, B275, d276, (mkRat (-2) 3)), (A280, c281, B282, d283, ((4 : Int) : Rat))]), FK (A280, c281, B282, d283, ((4 : Int) : Rat)), pfEs FK ([(A266, c267, B268, d269, (mkRat 1 2)), (A273, c274, B275, d276, (mkRat (-2) 3))]), FK (A273, c274, B275, d276, (mkRat (-2) 3)), pfEs FK ([(A266, c267, B268, d269, (mkRat 1 2))]), FK (A266, c267, B268, d269, (mkRat 1 2)), pfEs FK ([]), pfZ B282 d283 (ql ((4 : Int) : Rat)), pfZ A280 c281 (qn ((4 : Int) : Rat)), pfZ B275 d276 (ql (mkRat (-2) 3)), pfZ A273 c274 (qn (mkRat (-2) 3)), pfZ B268 d269 (ql (mkRat 1 2)), pfZ A266 c267 (qn (mkRat 1 2)), pfZ B260 d261 (ql (mkRat 1 3)), pfZ A258 c259 (qn (mkRat 1 3)), pfZ B253 d254 (ql (mkRat 1 2)), pfZ A251 c252 (qn (mkRat 1 2)), pfZ B243 d244 (ql ((mkRat 1 2) * (mkRat 1 3))), pfZ A241 c242 (qn ((mkRat 1 2) * (mkRat 1 3))), pfZ B237 d238 (ql (mkRat 1 3)), pfZ A235 c236 (qn (mkRat 1 3)), pfZ B230 d231 (ql (mkRat 1 2)), pfZ A228 c229 (qn (mkRat 1 2)), pfZ B220 d221 (ql ((mkRat 1 2) - (mkRat 1 3))), pfZ A218 c219 (qn ((mkRat 1 2) - (mkRat 1 3))), pfZ B214 d215 (ql (mkRat 1 3)), pfZ A212 c213 (qn (mkRat 1 3)), pfZ B207 d208 (ql (mkRat 1 2)), pfZ A205 c206 (qn (mkRat 1 2)), pfZ B197 d198 (ql ((mkRat 1 2) + (mkRat 1 3))), pfZ A195 c196 (qn ((mkRat 1 2) + (mkRat 1 3))), pfZ B191 d192 (ql (mkRat 1 3)), pfZ A189 c190 (qn (mkRat 1 3)), pfZ B184 d185 (ql (mkRat 1 2)), pfZ A182 c183 (qn (mkRat 1 2)), pfZ B174 d175 (ql (-0)), pfZ A172 c173 (qn (-0)), pfZ B164 d165 (ql (0 * (mkRat 1 2))), pfZ A162 c163 (qn (0 * (mkRat 1 2))), pfZ B158 d159 (ql (mkRat 1 2)), pfZ A156 c157 (qn (mkRat 1 2)), pfZ B148 d149 (ql (0 + (mkRat 1 2))), pfZ A146 c147 (qn (0 + (mkRat 1 2))), pfZ B142 d143 (ql (mkRat 1 2)), pfZ A140 c141 (qn (mkRat 1 2)), pfZ A131 c132 (qd 0), pfZ B116 d117 (ql ((mkRat 1 2) / (mkRat 1 3))), pfZ A114 c115 (qn ((mkRat 1 2) / (mkRat 1 3))), pfZ B110 d111 (ql (mkRat 1 3)), pfZ A108 c109 (qn (mkRat 1 3)), pfZ B103 d104 (ql (mkRat 1 2)), pfZ A101 c102 (qn (mkRat 1 2)), pfZ none 0 (ql 0), pfZ none 0 (qn 0), pfZ B92 d93 (ql 0), pfZ A90 c91 (qn 0), pfZ B85 d86 (ql (mkRat 1 2)), pfZ A83 c84 (qn (mkRat 1 2)), pfZ B74 d75 (ql ((0 : Int) : Rat)), pfZ A72 c73 (qn ((0 : Int) : Rat)), pfZ A68 c69 (-5), pfZ A64 c65 0, pfZ none 0 (ql 0), pfZ none 0 (qn 0), pfZ A56 c57 0, pfZ A52 c53 1] := hst
  replace hst := hst.snocEs (e := (A334, c335, B336, d337, (mkRat 1 6))) (i := 1) (j := 0) rfl rfl
  replace hst : St w0 _ [bk g340 #[.bool (neg (qn (mkRat 1 2))), .slice A320 (zl (qn (mkRat 1 2))) c321, .bool (neg (ql (mkRat 1 2))), .slice B322 (zl (ql (mkRat 1 2))) d323, .bool (neg (qn (mkRat 1 3))), .slice A327 (zl (qn (mkRat 1 3))) c328, .bool (neg (ql (mkRat 1 3))), .slice B329 (zl (ql (mkRat 1 3))) d330, .bool (neg (qn (mkRat 1 6))), .slice A334 (zl (qn (mkRat 1 6))) c335, .bool (neg (ql (mkRat 1 6))), .slice B336 (zl (ql (mkRat 1 6))) d337] 91, bk g311 #[.bool (neg 1), .slice A307 (zl 1) c308] 36, bk g298 #[.bool (neg 6), .slice A294 (zl 6) c295] 36, bk g127 #[.bool (neg (qn 0)), .slice none (zl (qn 0)) 0, .bool (neg (ql 0)), .slice none (zl (ql 0)) 0] 91, bk g122 #[.bool (neg (qn ((mkRat 1 2) / (mkRat 1 3)))), .slice A114 (zl (qn ((mkRat 1 2) / (mkRat 1 3)))) c115, .bool (neg (ql ((mkRat 1 2) / (mkRat 1 3)))), .slice B116 (zl (ql ((mkRat 1 2) / (mkRat 1 3)))) d117] 91, bk g97 #[.bool (neg (qn 0)), .slice none (zl (qn 0)) 0, .bool (neg (ql 0)), .slice none (zl (ql 0)) 0] 91, bk g79 #[.bool (neg (qn ((0 : Int) : Rat))), .slice A72 (zl (qn ((0 : Int) : Rat))) c73, .bool (neg (ql ((0 : Int) : Rat))), .slice B74 (zl (ql ((0 : Int) : Rat))) d75] 91, bk g61 #[.bool (neg (qn 0)), .slice none (zl (qn 0)) 0, .bool (neg (ql 0)), .slice none (zl (ql 0)) 0] 91] [pfEs FK ([(A320, c321, B322, d323, (mkRat 1 2)), (A327, c328, B329, d330, (mkRat 1 3)), (A334, c335, B336, d337, (mkRat 1 6))]), FK (A334, c335, B336, d337, (mkRat 1 6)), pfEs FK ([(A320, c321, B322, d323, (mkRat 1 2)), (A327, c328, B329, d330, (mkRat 1 3))]), FK (A327, c328, B329, d330, (mkRat 1 3)), pfEs FK ([(A320, c321, B322, d323, (mkRat 1 2))]), FK (A320, c321, B322, d323, (mkRat 1 2)), pfEs FK ([]), pfZ B336 d337 (ql (mkRat 1 6)), pfZ A334 c335 (qn (mkRat 1 6)), pfZ B329 d330 (ql (mkRat 1 3)), pfZ A327 c328 (qn (mkRat 1 3)), pfZ B322 d323 (ql (mkRat 1 2)), pfZ A320 c321 (qn (mkRat 1 2)), pfZ E2 k2 24, pfZ E1 k1 (-4), pfZ E0 k0 3, pfZ A307 c308 1, pfRow fN FN 2 A301 0 c302 es303, pfZ A294 c295 6, pfRow fN FN 2 A288 3 c289 es290, pfRow fK FK 4 (some ⟨g286, 0, none⟩) 3 3 ([(A266, c267, B268, d269, (mkRat 1 2)), (A273, c274, B275, d276, (mkRat (-2) 3)), (A280, c281, B282, d283, ((4 : Int) : Rat))]), pfRd 4 (some ⟨g286, 0, none⟩) 3 3 (fl fK [(A266, c267, B268, d269, (mkRat 1 2)), (A273, c274, B275, d276, (mkRat (-2) 3)), (A280, c281, B282, d283, ((4 : Int) : Rat))]), pfEs FK ([(A266, c267, B268, d269, (mkRat 1 2)), (A273, c274, B275, d276, (mkRat (-2) 3)), (A280, c281, B282, d283, ((4 : Int) : Rat))]), FK (A280, c281, B282, d283, ((4 : Int) : Rat)), pfEs FK ([(A266, c267, B268, d269, (mkRat 1 2)), (A273, c274, B275, d276, (mkRat (-2) 3))]), FK (A273, c274, B275, d276, (mkRat (-2) 3)), pfEs FK ([(A266, c267, B268, d269, (mkRat 1 2))]), FK (A266, c267, B268, d269, (mkRat 1 2)), pfEs FK ([]), pfZ B282 d283 (ql ((4 : Int) : Rat)), pfZ A280 c281 (qn ((4 : Int) : Rat)), pfZ B275 d276 (ql (mkRat (-2) 3)), pfZ A273 c274 (qn (mkRat (-2) 3)), pfZ B268 d269 (ql (mkRat 1 2)), pfZ A266 c267 (qn (mkRat 1 2)), pfZ B260 d261 (ql (mkRat 1 3)), pfZ A258 c259 (qn (mkRat 1 3)), pfZ B253 d254 (ql (mkRat 1 2)), pfZ A251 c252 (qn (mkRat 1 2)), pfZ B243 d244 (ql ((mkRat 1 2) * (mkRat 1 3))), pfZ A241 c242 (qn ((mkRat 1 2) * (mkRat 1 3))), pfZ B237 d238 (ql (mkRat 1 3)), pfZ A235 c236 (qn (mkRat 1 3)), pfZ B230 d231 (ql (mkRat 1 2)), pfZ A228 c229 (qn (mkRat 1 2)), pfZ B220 d221 (ql ((mkRat 1 2) - (mkRat 1 3))), pfZ A218 c219 (qn ((mkRat 1 2) - (mkRat 1 3))), pfZ B214 d215 (ql (mkRat 1 3)), pfZ A212 c213 (qn (mkRat 1 3)), pfZ B207 d208 (ql (mkRat 1 2)), pfZ A205 c206 (qn (mkRat 1 2)), pfZ B197 d198 (ql ((mkRat 1 2) + (mkRat 1 3))), pfZ A195 c196 (qn ((mkRat 1 2) + (mkRat 1 3))), pfZ B191 d192 (ql (mkRat 1 3)), pfZ A189 c190 (qn (mkRat 1 3)), pfZ B184 d185 (ql (mkRat 1 2)), pfZ A182 c183 (qn (mkRat 1 2)), pfZ B174 d175 (ql (-0)), pfZ A172 c173 (qn (-0)), pfZ B164 d165 (ql (0 * (mkRat 1 2))), pfZ A162 c163 (qn (0 * (mkRat 1 2))), pfZ B158 d159 (ql (mkRat 1 2)), pfZ A156 c157 (qn (mkRat 1 2)), pfZ B148 d149 (ql (0 + (mkRat 1 2))), pfZ A146 c147 (qn (0 + (mkRat 1 2))), pfZ B142 d143 (ql (mkRat 1 2)), pfZ A140 c141 (qn (mkRat 1 2)), pfZ A131 c132 (qd 0), pfZ B116 d117 (ql ((mkRat 1 2) / (mkRat 1 3))), pfZ A114 c115 (qn ((mkRat 1 2) / (mkRat 1 3))), pfZ B110 d111 (ql (mkRat 1 3)), pfZ A108 c109 (qn (mkRat 1 3)), pfZ B103 d104 (ql (mkRat 1 2)), pfZ A101 c102 (qn (mkRat 1 2)), pfZ none 0 (ql 0), pfZ none 0 (qn 0), pfZ B92 d93 (ql 0), pfZ A90 c91 (qn 0), pfZ B85 d86 (ql (mkRat 1 2)), pfZ A83 c84 (qn (mkRat 1 2)), pfZ B74 d75 (ql ((0 : Int) : Rat)), pfZ A72 c73 (qn ((0 : Int) : Rat)), pfZ A68 c69 (-5), pfZ A64 c65 0, pfZ none 0 (ql 0), pfZ none 0 (qn 0), pfZ A56 c57 0, pfZ A52 c53 1] := hst
  replace hst := hst.giveBk (f := fK) (F := FK) (k := 0) (n := 3) (es := [(A320, c321, B322, d323, (mkRat 1 2)), (A327, c328, B329, d330, (mkRat 1 3)), (A334, c335, B336, d337, (mkRat 1 6))]) rfl rfl fK_len rfl (by decide) (hst.pat (k := 0) rfl) (hst.apart _ (List.mem_of_getElem? (i := 0) rfl))
  replace hst : St w0 _ [bk g311 #[.bool (neg 1), .slice A307 (zl 1) c308] 36, bk g298 #[.bool (neg 6), .slice A294 (zl 6) c295] 36, bk g127 #[.bool (neg (qn 0)), .slice none (zl (qn 0)) 0, .bool (neg (ql 0)), .slice none (zl (ql 0)) 0] 91, bk g122 #[.bool (neg (qn ((mkRat 1 2) / (mkRat 1 3)))), .slice A114 (zl (qn ((mkRat 1 2) / (mkRat 1 3)))) c115, .bool (neg (ql ((mkRat 1 2) / (mkRat 1 3)))), .slice B116 (zl (ql ((mkRat 1 2) / (mkRat 1 3)))) d117] 91, bk g97 #[.bool (neg (qn 0)), .slice none (zl (qn 0)) 0, .bool (neg (ql 0)), .slice none (zl (ql 0)) 0] 91, bk g79 #[.bool (neg (qn ((0 : Int) : Rat))), .slice A72 (zl (qn ((0 : Int) : Rat))) c73, .bool (neg (ql ((0 : Int) : Rat))), .slice B74 (zl (ql ((0 : Int) : Rat))) d75] 91, bk g61 #[.bool (neg (qn 0)), .slice none (zl (qn 0)) 0, .bool (neg (ql 0)), .slice none (zl (ql 0)) 0] 91] [pfRow fK FK 4 (some ⟨g340, 0, none⟩) 3 3 ([(A320, c321, B322, d323, (mkRat 1 2)), (A327, c328, B329, d330, (mkRat 1 3)), (A334, c335, B336, d337, (mkRat 1 6))]), pfRd 4 (some ⟨g340, 0, none⟩) 3 3 (fl fK [(A320, c321, B322, d323, (mkRat 1 2)), (A327, c328, B329, d330, (mkRat 1 3)), (A334, c335, B336, d337, (mkRat 1 6))]), pfEs FK ([(A320, c321, B322, d323, (mkRat 1 2)), (A327, c328, B329, d330, (mkRat 1 3)), (A334, c335, B336, d337, (mkRat 1 6))]), FK (A334, c335, B336, d337, (mkRat 1 6)), pfEs FK ([(A320, c321, B322, d323, (mkRat 1 2)), (A327, c328, B329, d330, (mkRat 1 3))]), FK (A327, c328, B329, d330, (mkRat 1 3)), pfEs FK ([(A320, c321, B322, d323, (mkRat 1 2))]), FK (A320, c321, B322, d323, (mkRat 1 2)), pfEs FK ([]), pfZ B336 d337 (ql (mkRat 1 6)), pfZ A334 c335 (qn (mkRat 1 6)), pfZ B329 d330 (ql (mkRat 1 3)), pfZ A327 c328 (qn (mkRat 1 3)), pfZ B322 d323 (ql (mkRat 1 2)), pfZ A320 c321 (qn (mkRat 1 2)), pfZ E2 k2 24, pfZ E1 k1 (-4), pfZ E0 k0 3, pfZ A307 c308 1, pfRow fN FN 2 A301 0 c302 es303, pfZ A294 c295 6, pfRow fN FN 2 A288 3 c289 es290, pfRow fK FK 4 (some ⟨g286, 0, none⟩) 3 3 ([(A266, c267, B268, d269, (mkRat 1 2)), (A273, c274, B275, d276, (mkRat (-2) 3)), (A280, c281, B282, d283, ((4 : Int) : Rat))]), pfRd 4 (some ⟨g286, 0, none⟩) 3 3 (fl fK [(A266, c267, B268, d269, (mkRat 1 2)), (A273, c274, B275, d276, (mkRat (-2) 3)), (A280, c281, B282, d283, ((4 : Int) : Rat))]), pfEs FK ([(A266, c267, B268, d269, (mkRat 1 2)), (A273, c274, B275, d276, (mkRat (-2) 3)), (A280, c281, B282, d283, ((4 : Int) : Rat))]), FK (A280, c281, B282, d283, ((4 : Int) : Rat)), pfEs FK ([(A266, c267, B268, d269, (mkRat 1 2)), (A273, c274, B275, d276, (mkRat (-2) 3))]), FK (A273, c274, B275, d276, (mkRat (-2) 3)), pfEs FK ([(A266, c267, B268, d269, (mkRat 1 2))]), FK (A266, c267, B268, d269, (mkRat 1 2)), pfEs FK ([]), pfZ B282 d283 (ql ((4 : Int) : Rat)), pfZ A280 c281 (qn ((4 : Int) : Rat)), pfZ B275 d276 (ql (mkRat (-2) 3)), pfZ A273 c274 (qn (mkRat (-2) 3)), pfZ B268 d269 (ql (mkRat 1 2)), pfZ A266 c267 (qn (mkRat 1 2)), pfZ B260 d261 (ql (mkRat 1 3)), pfZ A258 c259 (qn (mkRat 1 3)), pfZ B253 d254 (ql (mkRat 1 2)), pfZ A251 c252 (qn (mkRat 1 2)), pfZ B243 d244 (ql ((mkRat 1 2) * (mkRat 1 3))), pfZ A241 c242 (qn ((mkRat 1 2) * (mkRat 1 3))), pfZ B237 d238 (ql (mkRat 1 3)), pfZ A235 c236 (qn (mkRat 1 3)), pfZ B230 d231 (ql (mkRat 1 2)), pfZ A228 c229 (qn (mkRat 1 2)), pfZ B220 d221 (ql ((mkRat 1 2) - (mkRat 1 3))), pfZ A218 c219 (qn ((mkRat 1 2) - (mkRat 1 3))), pfZ B214 d215 (ql (mkRat 1 3)), pfZ A212 c213 (qn (mkRat 1 3)), pfZ B207 d208 (ql (mkRat 1 2)), pfZ A205 c206 (qn (mkRat 1 2)), pfZ B197 d198 (ql ((mkRat 1 2) + (mkRat 1 3))), pfZ A195 c196 (qn ((mkRat 1 2) + (mkRat 1 3))), pfZ B191 d192 (ql (mkRat 1 3)), pfZ A189 c190 (qn (mkRat 1 3)), pfZ B184 d185 (ql (mkRat 1 2)), pfZ A182 c183 (qn (mkRat 1 2)), pfZ B174 d175 (ql (-0)), pfZ A172 c173 (qn (-0)), pfZ B164 d165 (ql (0 * (mkRat 1 2))), pfZ A162 c163 (qn (0 * (mkRat 1 2))), pfZ B158 d159 (ql (mkRat 1 2)), pfZ A156 c157 (qn (mkRat 1 2)), pfZ B148 d149 (ql (0 + (mkRat 1 2))), pfZ A146 c147 (qn (0 + (mkRat 1 2))), pfZ B142 d143 (ql (mkRat 1 2)), pfZ A140 c141 (qn (mkRat 1 2)), pfZ A131 c132 (qd 0), pfZ B116 d117 (ql ((mkRat 1 2) / (mkRat 1 3))), pfZ A114 c115 (qn ((mkRat 1 2) / (mkRat 1 3))), pfZ B110 d111 (ql (mkRat 1 3)), pfZ A108 c109 (qn (mkRat 1 3)), pfZ B103 d104 (ql (mkRat 1 2)), pfZ A101 c102 (qn (mkRat 1 2)), pfZ none 0 (ql 0), pfZ none 0 (qn 0), pfZ B92 d93 (ql 0), pfZ A90 c91 (qn 0), pfZ B85 d86 (ql (mkRat 1 2)), pfZ A83 c84 (qn (mkRat 1 2)), pfZ B74 d75 (ql ((0 : Int) : Rat)), pfZ A72 c73 (qn ((0 : Int) : Rat)), pfZ A68 c69 (-5), pfZ A64 c65 0, pfZ none 0 (ql 0), pfZ none 0 (qn 0), pfZ A56 c57 0, pfZ A52 c53 1] := hst
  refine seq_g rfl henv rfl rfl (op_call henv rfl Tryd.call75 rfl (sum_k3 (hst.pat (k := 0) rfl) rfl) ?_)
  rintro e w348 ⟨_, rfl, ⟨A342, c343, B344, d345, rfl, hz346, hz347⟩, hb⟩
  refine ⟨_, rfl, ?_⟩
  clear henv a; intro a henv
  replace hst := ((hst.call hb).addZ hz346 ⟨nou_bk rfl, nou_bk rfl, nou_bk rfl, nou_bk rfl, nou_bk rfl, nou_bk rfl, nou_bk rfl, trivial⟩).addZ hz347 ⟨nou_bk rfl, nou_bk rfl, nou_bk rfl, nou_bk rfl, nou_bk rfl, nou_bk rfl, nou_bk rfl, trivial⟩
  clear hz346 hz347
  clear hb
  refine seq_g rfl henv rfl rfl (op_call henv rfl Tryd.call92 rfl (text_q (x := ((1 : Int) : Rat)) (show ZIn _ A342 c343 (qn ((1 : Int) : Rat)) from hst.pat (k := 1) rfl) (show ZIn _ B344 d345 (ql ((1 : Int) : Rat)) from hst.pat (k := 0) rfl) qk_1 (by omega)) ?_)
  rintro e w349 ⟨rfl, hb⟩
  refine ⟨_, rfl, ?_⟩
  clear henv a; intro a henv
  replace hst := hst.call hb
  clear hb
  refine seq_g rfl henv rfl rfl (op_val (v := .bool (!decide ((textQ ((1 : Int) : Rat)) = [49]))) henv rfl (rn_neqs (s := (textQ ((1 : Int) : Rat))) (t := [49]) henv rfl rfl) ?_)
  clear henv a; intro a henv
  rw [show (!decide ((textQ ((1 : Int) : Rat)) = [49])) = false from (by decide +kernel)] at henv
  revert a
  refine sA (v := .bool false) rfl (fun _ henv => rn_pick henv rfl rfl) ?_
  refine mA rfl rfl ?_
  intro a henv
  refine seq_g rfl henv rfl rfl (op_call henv rfl Tryd.call75 rfl sum_k0 ?_)
  rintro e w356 ⟨_, rfl, ⟨A350, c351, B352, d353, rfl, hz354, hz355⟩, hb⟩
  refine ⟨_, rfl, ?_⟩
  clear henv a; intro a henv
  replace hst := ((hst.call hb).addZ hz354 ⟨nou_bk rfl, nou_bk rfl, nou_bk rfl, nou_bk rfl, nou_bk rfl, nou_bk rfl, nou_bk rfl, trivial⟩).addZ hz355 ⟨nou_bk rfl, nou_bk rfl, nou_bk rfl, nou_bk rfl, nou_bk rfl, nou_bk rfl, nou_bk rfl, trivial⟩
  clear hz354 hz355
  clear hb
  refine seq_g rfl henv rfl rfl (op_call henv rfl Tryd.call92 rfl (text_q (x := 0) (show ZIn _ A350 c351 (qn 0) from hst.pat (k := 1) rfl) (show ZIn _ B352 d353 (ql 0) from hst.pat (k := 0) rfl) qs_zero (by omega)) ?_)
  rintro e w357 ⟨rfl, hb⟩
  refine ⟨_, rfl, ?_⟩
  clear henv a; intro a henv
  replace hst := hst.call hb
  clear hb
  refine seq_g rfl henv rfl rfl (op_val (v := .bool (!decide ((textQ 0) = [48]))) henv rfl (rn_neqs (s := (textQ 0)) (t := [48]) henv rfl rfl) ?_)
  clear henv a; intro a henv
  rw [show (!decide ((textQ 0) = [48])) = false from (by decide +kernel)] at henv
  refine sv (v := .bool false) henv rfl (rn_pick henv rfl rfl) ?_
  clear henv a; intro a henv
  refine wpList_nil ?_
  refine th_n ?_
  refine if_f henv rfl (rfl) ?_
  refine wp_skip ?_
  refine th_n ?_
  refine wp_seq ?_
  refine wp_seq ?_
  refine region_seq ?_
  revert a
  refine sA (v := .agg #[.string ⟨#[52, 47, 54]⟩, .int .i64 3]) rfl (fun _ henv => rn_stx henv rfl rfl) ?_
  refine sA (v := .agg #[.string ⟨#[51, 47, 49]⟩, .int .i64 3]) rfl (fun _ henv => rn_stx henv rfl rfl) ?_
  refine sA (v := .agg #[.string ⟨#[48, 47, 53]⟩, .int .i64 3]) rfl (fun _ henv => rn_stx henv rfl rfl) ?_
  refine sA (v := .agg #[.string ⟨#[]⟩, .int .i64 0]) rfl (fun _ henv => rn_stx henv rfl rfl) ?_
  refine sA (v := .agg #[.string ⟨#[45]⟩, .int .i64 1]) rfl (fun _ henv => rn_stx henv rfl rfl) ?_
  refine sA (v := .agg #[.string ⟨#[49, 47]⟩, .int .i64 2]) rfl (fun _ henv => rn_stx henv rfl rfl) ?_
  refine sA (v := .agg #[.string ⟨#[49, 47, 45, 50]⟩, .int .i64 2]) rfl (fun _ henv => rn_stx henv rfl rfl) ?_
  refine sA (v := .agg #[.string ⟨#[49, 47, 48, 50]⟩, .int .i64 2]) rfl (fun _ henv => rn_stx henv rfl rfl) ?_
  refine sA (v := .agg #[.string ⟨#[45, 48]⟩, .int .i64 1]) rfl (fun _ henv => rn_stx henv rfl rfl) ?_
  refine sA (v := .agg #[.string ⟨#[48, 49]⟩, .int .i64 1]) rfl (fun _ henv => rn_stx henv rfl rfl) ?_
  refine sA (v := .agg #[.string ⟨#[49, 47, 50, 120]⟩, .int .i64 3]) rfl (fun _ henv => rn_stx henv rfl rfl) ?_
  intro a henv
  refine seq_step rfl (op_buildSlice (z := 2) (pv := #[(0, .agg #[.string ⟨#[52, 47, 54]⟩, .int .i64 3]), (1, .agg #[.string ⟨#[51, 47, 49]⟩, .int .i64 3]), (2, .agg #[.string ⟨#[48, 47, 53]⟩, .int .i64 3]), (3, .agg #[.string ⟨#[]⟩, .int .i64 0]), (4, .agg #[.string ⟨#[45]⟩, .int .i64 1]), (5, .agg #[.string ⟨#[49, 47]⟩, .int .i64 2]), (6, .agg #[.string ⟨#[49, 47, 45, 50]⟩, .int .i64 2]), (7, .agg #[.string ⟨#[49, 47, 48, 50]⟩, .int .i64 2]), (8, .agg #[.string ⟨#[45, 48]⟩, .int .i64 1]), (9, .agg #[.string ⟨#[48, 49]⟩, .int .i64 1]), (10, .agg #[.string ⟨#[49, 47, 50, 120]⟩, .int .i64 3])]) (c := #[.string ⟨#[52, 47, 54]⟩, .int .i64 3, .string ⟨#[51, 47, 49]⟩, .int .i64 3, .string ⟨#[48, 47, 53]⟩, .int .i64 3, .string ⟨#[]⟩, .int .i64 0, .string ⟨#[45]⟩, .int .i64 1, .string ⟨#[49, 47]⟩, .int .i64 2, .string ⟨#[49, 47, 45, 50]⟩, .int .i64 2, .string ⟨#[49, 47, 48, 50]⟩, .int .i64 2, .string ⟨#[45, 48]⟩, .int .i64 1, .string ⟨#[48, 49]⟩, .int .i64 1, .string ⟨#[49, 47, 50, 120]⟩, .int .i64 3]) henv hst rfl Tryd.underlying138 (ty_struct_text_string_at_int_.size) zero_struct_text_string_at_int_ (by decide) (by decide) rfl (by kernel_rfl) ?_)
  clear henv hst a; intro a w359 g358 henv hst
  revert a
  refine sA (v := .int .i64 11) rfl (fun _ henv => rn_len henv Tryd.underlying138 rfl) ?_
  refine mA rfl rfl ?_
  intro a henv
  refine wpList_nil ?_
  replace hst := hst.giveBk (f := fX) (F := FX) (k := 0) (n := 11) (es := badTs) rfl rfl fX_len rfl (by decide) (esT_P (fun _ => rfl) _ _) (fun _ _ _ _ => esT_foot (fun _ => rfl))
  replace hst : St w0 _ [bk g311 #[.bool (neg 1), .slice A307 (zl 1) c308] 36, bk g298 #[.bool (neg 6), .slice A294 (zl 6) c295] 36, bk g127 #[.bool (neg (qn 0)), .slice none (zl (qn 0)) 0, .bool (neg (ql 0)), .slice none (zl (ql 0)) 0] 91, bk g122 #[.bool (neg (qn ((mkRat 1 2) / (mkRat 1 3)))), .slice A114 (zl (qn ((mkRat 1 2) / (mkRat 1 3)))) c115, .bool (neg (ql ((mkRat 1 2) / (mkRat 1 3)))), .slice B116 (zl (ql ((mkRat 1 2) / (mkRat 1 3)))) d117] 91, bk g97 #[.bool (neg (qn 0)), .slice none (zl (qn 0)) 0, .bool (neg (ql 0)), .slice none (zl (ql 0)) 0] 91, bk g79 #[.bool (neg (qn ((0 : Int) : Rat))), .slice A72 (zl (qn ((0 : Int) : Rat))) c73, .bool (neg (ql ((0 : Int) : Rat))), .slice B74 (zl (ql ((0 : Int) : Rat))) d75] 91, bk g61 #[.bool (neg (qn 0)), .slice none (zl (qn 0)) 0, .bool (neg (ql 0)), .slice none (zl (ql 0)) 0] 91] [pfRow fX FX 2 (some ⟨g358, 0, none⟩) 11 11 badTs, pfRd 2 (some ⟨g358, 0, none⟩) 11 11 (fl fX badTs), pfZ B352 d353 (ql 0), pfZ A350 c351 (qn 0), pfZ B344 d345 (ql ((1 : Int) : Rat)), pfZ A342 c343 (qn ((1 : Int) : Rat)), pfRow fK FK 4 (some ⟨g340, 0, none⟩) 3 3 ([(A320, c321, B322, d323, (mkRat 1 2)), (A327, c328, B329, d330, (mkRat 1 3)), (A334, c335, B336, d337, (mkRat 1 6))]), pfRd 4 (some ⟨g340, 0, none⟩) 3 3 (fl fK [(A320, c321, B322, d323, (mkRat 1 2)), (A327, c328, B329, d330, (mkRat 1 3)), (A334, c335, B336, d337, (mkRat 1 6))]), pfEs FK ([(A320, c321, B322, d323, (mkRat 1 2)), (A327, c328, B329, d330, (mkRat 1 3)), (A334, c335, B336, d337, (mkRat 1 6))]), FK (A334, c335, B336, d337, (mkRat 1 6)), pfEs FK ([(A320, c321, B322, d323, (mkRat 1 2)), (A327, c328, B329, d330, (mkRat 1 3))]), FK (A327, c328, B329, d330, (mkRat 1 3)), pfEs FK ([(A320, c321, B322, d323, (mkRat 1 2))]), FK (A320, c321, B322, d323, (mkRat 1 2)), pfEs FK ([]), pfZ B336 d337 (ql (mkRat 1 6)), pfZ A334 c335 (qn (mkRat 1 6)), pfZ B329 d330 (ql (mkRat 1 3)), pfZ A327 c328 (qn (mkRat 1 3)), pfZ B322 d323 (ql (mkRat 1 2)), pfZ A320 c321 (qn (mkRat 1 2)), pfZ E2 k2 24, pfZ E1 k1 (-4), pfZ E0 k0 3, pfZ A307 c308 1, pfRow fN FN 2 A301 0 c302 es303, pfZ A294 c295 6, pfRow fN FN 2 A288 3 c289 es290, pfRow fK FK 4 (some ⟨g286, 0, none⟩) 3 3 ([(A266, c267, B268, d269, (mkRat 1 2)), (A273, c274, B275, d276, (mkRat (-2) 3)), (A280, c281, B282, d283, ((4 : Int) : Rat))]), pfRd 4 (some ⟨g286, 0, none⟩) 3 3 (fl fK [(A266, c267, B268, d269, (mkRat 1 2)), (A273, c274, B275, d276, (mkRat (-2) 3)), (A280, c281, B282, d283, ((4 : Int) : Rat))]), pfEs FK ([(A266, c267, B268, d269, (mkRat 1 2)), (A273, c274, B275, d276, (mkRat (-2) 3)), (A280, c281, B282, d283, ((4 : Int) : Rat))]), FK (A280, c281, B282, d283, ((4 : Int) : Rat)), pfEs FK ([(A266, c267, B268, d269, (mkRat 1 2)), (A273, c274, B275, d276, (mkRat (-2) 3))]), FK (A273, c274, B275, d276, (mkRat (-2) 3)), pfEs FK ([(A266, c267, B268, d269, (mkRat 1 2))]), FK (A266, c267, B268, d269, (mkRat 1 2)), pfEs FK ([]), pfZ B282 d283 (ql ((4 : Int) : Rat)), pfZ A280 c281 (qn ((4 : Int) : Rat)), pfZ B275 d276 (ql (mkRat (-2) 3)), pfZ A273 c274 (qn (mkRat (-2) 3)), pfZ B268 d269 (ql (mkRat 1 2)), pfZ A266 c267 (qn (mkRat 1 2)), pfZ B260 d261 (ql (mkRat 1 3)), pfZ A258 c259 (qn (mkRat 1 3)), pfZ B253 d254 (ql (mkRat 1 2)), pfZ A251 c252 (qn (mkRat 1 2)), pfZ B243 d244 (ql ((mkRat 1 2) * (mkRat 1 3))), pfZ A241 c242 (qn ((mkRat 1 2) * (mkRat 1 3))), pfZ B237 d238 (ql (mkRat 1 3)), pfZ A235 c236 (qn (mkRat 1 3)), pfZ B230 d231 (ql (mkRat 1 2)), pfZ A228 c229 (qn (mkRat 1 2)), pfZ B220 d221 (ql ((mkRat 1 2) - (mkRat 1 3))), pfZ A218 c219 (qn ((mkRat 1 2) - (mkRat 1 3))), pfZ B214 d215 (ql (mkRat 1 3)), pfZ A212 c213 (qn (mkRat 1 3)), pfZ B207 d208 (ql (mkRat 1 2)), pfZ A205 c206 (qn (mkRat 1 2)), pfZ B197 d198 (ql ((mkRat 1 2) + (mkRat 1 3))), pfZ A195 c196 (qn ((mkRat 1 2) + (mkRat 1 3))), pfZ B191 d192 (ql (mkRat 1 3)), pfZ A189 c190 (qn (mkRat 1 3)), pfZ B184 d185 (ql (mkRat 1 2)), pfZ A182 c183 (qn (mkRat 1 2)), pfZ B174 d175 (ql (-0)), pfZ A172 c173 (qn (-0)), pfZ B164 d165 (ql (0 * (mkRat 1 2))), pfZ A162 c163 (qn (0 * (mkRat 1 2))), pfZ B158 d159 (ql (mkRat 1 2)), pfZ A156 c157 (qn (mkRat 1 2)), pfZ B148 d149 (ql (0 + (mkRat 1 2))), pfZ A146 c147 (qn (0 + (mkRat 1 2))), pfZ B142 d143 (ql (mkRat 1 2)), pfZ A140 c141 (qn (mkRat 1 2)), pfZ A131 c132 (qd 0), pfZ B116 d117 (ql ((mkRat 1 2) / (mkRat 1 3))), pfZ A114 c115 (qn ((mkRat 1 2) / (mkRat 1 3))), pfZ B110 d111 (ql (mkRat 1 3)), pfZ A108 c109 (qn (mkRat 1 3)), pfZ B103 d104 (ql (mkRat 1 2)), pfZ A101 c102 (qn (mkRat 1 2)), pfZ none 0 (ql 0), pfZ none 0 (qn 0), pfZ B92 d93 (ql 0), pfZ A90 c91 (qn 0), pfZ B85 d86 (ql (mkRat 1 2)), pfZ A83 c84 (qn (mkRat 1 2)), pfZ B74 d75 (ql ((0 : Int) : Rat)), pfZ A72 c73 (qn ((0 : Int) : Rat)), pfZ A68 c69 (-5), pfZ A64 c65 0, pfZ none 0 (ql 0), pfZ none 0 (qn 0), pfZ A56 c57 0, pfZ A52 c53 1] := hst
  refine th_n ?_
  refine wp_block ?_
  refine wp_loop_ghost (fun mz a w => ∃ j : Nat, 11 - j = mz ∧ Env 267 a [(1, .func (.func 94) #[] #[]), (234, .slice (some ⟨g358, 0, none⟩) 11 11), (235, .int .i64 11), (236, .int .i64 (j : Nat))] ∧ St w0 w [] [pfRow fX FX 2 (some ⟨g358, 0, none⟩) 11 11 badTs] ∧ j ≤ 11) _ ⟨0, rfl, henv.sub ⟨rfl, rfl, rfl, rfl, trivial⟩, hst.pick [] [0] (by decide), (Nat.zero_le _)⟩ ?_
  clear henv hst a
  rintro mz a w360 ⟨j, rfl, henv, hst, hj⟩
  refine wp_seq ?_
  refine region_seq ?_
  refine sv (v := .bool (decide (((j : Nat) : Int) < (11 : Int)))) henv rfl (rn_bin henv rfl rfl rfl) ?_
  clear henv a; intro a henv
  refine wpList_nil ?_
  refine th_n ?_
  refine wp_seq ?_
  refine if_split henv rfl (fun hc361 => ?_) (fun hc361 => ?_)
  · have hlt : j < 11 := by have := of_decide_eq_true hc361; omega
    obtain ⟨⟨s, p⟩, he0⟩ : ∃ e, badTs[j]? = some e := ⟨_, List.getElem?_eq_getElem (by omega)⟩
    have hbad := bad_all _ (List.mem_of_getElem? he0)
    refine wp_skip ?_
    refine th_n ?_
    refine wp_seq ?_
    refine wp_block ?_
    refine wp_seq ?_
    refine region_seq ?_
    revert a
    refine sA (v := .pointer (some ⟨ab (some ⟨g358, 0, none⟩), ao (some ⟨g358, 0, none⟩) + j * 2, none⟩)) rfl (fun _ henv => rn_idxR (i := j) henv Tryd.underlying138 (ty_struct_text_string_at_int_.size) rfl rfl (by first | decide | omega) rfl (show (pfRow fX FX 2 (some ⟨g358, 0, none⟩) 11 11 badTs).P _ from (hst.pat (k := 0) rfl)).1) ?_
    refine sA (v := .agg #[.string ⟨s.toArray⟩, .int .i64 p]) rfl (fun _ henv => rn_loadE (i := j) (e := (s, p)) henv ty_struct_text_string_at_int_ rfl rfl fX_len (show (pfRow fX FX 2 (some ⟨g358, 0, none⟩) 11 11 badTs).P _ from (hst.pat (k := 0) rfl)).1 (by first | decide | omega) he0 rfl) ?_
    intro a henv
    refine seq_step rfl (op_alloc (c := #[.string ⟨#[]⟩, .int .i64 0]) henv hst rfl zero_struct_text_string_at_int_ rfl ?_)
    clear henv hst a; intro a w363 g362 henv hst
    refine seq_step rfl (op_store (k := 0) (c' := #[.string ⟨s.toArray⟩, .int .i64 p]) henv hst (ty_struct_text_string_at_int_.size) rfl rfl rfl rfl (by simp) rfl rfl ?_)
    clear henv hst a; intro a w364 henv hst
    refine wpList_nil ?_
    refine th_n ?_
    refine wp_seq ?_
    refine region_seq ?_
    revert a
    refine sA (v := .pointer (some ⟨g362, 0, none⟩)) rfl (fun _ henv => rn_fieldAddr henv fd_struct_text_string_at_int__0 (ty_string.size) (by decide) rfl) ?_
    refine sA (v := .string ⟨s.toArray⟩) rfl (fun _ henv => rn_load1 henv ty_string rfl (hst.oat (k := 0) rfl) rfl) ?_
    intro a henv
    refine seq_step rfl (op_call henv rfl Tryd.call91 rfl (hbad _) ?_)
    rintro e w371 ⟨_, rfl, ⟨A365, c366, B367, d368, rfl, hz369, hz370⟩, hb⟩
    refine ⟨_, rfl, ?_⟩
    clear henv a; intro a henv
    replace hst := ((hst.call hb).addZ hz369 ⟨nou_bk rfl, trivial⟩).addZ hz370 ⟨nou_bk rfl, trivial⟩
    clear hz369 hz370
    clear hb
    revert a
    refine mA rfl rfl ?_
    refine sA (v := .agg #[.bool (neg (qn 0)), .slice A365 (zl (qn 0)) c366, .bool (neg (ql 0)), .slice B367 (zl (ql 0)) d368]) rfl (fun _ henv => rn_extract henv rfl rfl) ?_
    refine sA (v := .agg #[.int .i64 6, .int .i64 p]) rfl (fun _ henv => rn_extract henv rfl rfl) ?_
    intro a henv
    refine seq_step rfl (op_alloc (c := #[.bool (neg (qn 0)), .slice none (zl (qn 0)) 0, .bool (neg (ql 0)), .slice none (zl (ql 0)) 0]) henv hst rfl zero_anvil_ratio_Rat qcells ?_)
    clear henv hst a; intro a w373 g372 henv hst
    refine seq_step rfl (op_alloc (c := #[.int .i64 0, .int .i64 0]) henv hst rfl zero_anvil_api_Spot rfl ?_)
    clear henv hst a; intro a w375 g374 henv hst
    refine seq_step rfl (op_store (k := 1) (c' := #[.bool (neg (qn 0)), .slice A365 (zl (qn 0)) c366, .bool (neg (ql 0)), .slice B367 (zl (ql 0)) d368]) henv hst (ty_anvil_ratio_Rat.size) rfl rfl rfl rfl (by simp) rfl rfl ?_)
    clear henv hst a; intro a w376 henv hst
    refine seq_step rfl (op_store (k := 0) (c' := #[.int .i64 6, .int .i64 p]) henv hst (ty_anvil_api_Spot.size) rfl rfl rfl rfl (by simp) rfl rfl ?_)
    clear henv hst a; intro a w377 henv hst
    refine wpList_nil ?_
    refine th_n ?_
    refine wp_seq ?_
    refine region_seq ?_
    refine sv (v := .agg #[.bool (neg (qn 0)), .slice A365 (zl (qn 0)) c366, .bool (neg (ql 0)), .slice B367 (zl (ql 0)) d368]) henv rfl (rn_load0 henv ty_anvil_ratio_Rat rfl (hst.oat (k := 1) rfl) rfl) ?_
    clear henv a; intro a henv
    refine seq_step rfl (op_call henv rfl Tryd.call92 rfl (text_q (x := 0) (show ZIn _ A365 c366 (qn 0) from hst.pat (k := 1) rfl) (show ZIn _ B367 d368 (ql 0) from hst.pat (k := 0) rfl) qs_zero (by omega)) ?_)
    rintro e w378 ⟨rfl, hb⟩
    refine ⟨_, rfl, ?_⟩
    clear henv a; intro a henv
    replace hst := hst.call hb
    clear hb
    refine sv (v := .bool (!decide ((textQ 0) = [48]))) henv rfl (rn_neqs (s := (textQ 0)) (t := [48]) henv rfl rfl) ?_
    clear henv a; intro a henv
    rw [show (!decide ((textQ 0) = [48])) = false from (by decide +kernel)] at henv
    revert a
    refine mA rfl rfl ?_
    refine gA (v := .agg #[.int .i64 6, .int .i64 p]) rfl rfl rfl rfl (fun _ henv => rn_load0 henv ty_anvil_api_Spot rfl (hst.oat (k := 0) rfl) rfl) ?_
    refine gA (v := .pointer (some ⟨g362, 1, none⟩)) rfl rfl rfl rfl (fun _ henv => rn_fieldAddr henv fd_struct_text_string_at_int__1 (ty_int.size) (by decide) rfl) ?_
    refine gA (v := .int .i64 p) rfl rfl rfl rfl (fun _ henv => rn_load1 henv ty_int rfl (hst.oat (k := 2) rfl) rfl) ?_
    refine gA (v := .agg #[.int .i64 6, .int .i64 p]) rfl rfl rfl rfl (fun _ henv => rn_spot2 henv rfl rfl) ?_
    refine gA (v := .bool (!decide ([(6 : Int), p] = [(6 : Int), p]))) rfl rfl rfl rfl (fun _ henv => rn_neqI [(6 : Int), p] [(6 : Int), p] henv spotI rfl rfl rfl rfl) ?_
    intro a henv
    rw [show (!decide ([(6 : Int), p] = [(6 : Int), p])) = false from (by rw [decide_eq_true rfl]; rfl)] at henv
    refine sv (v := .bool false) henv rfl (rn_pick henv rfl rfl) ?_
    clear henv a; intro a henv
    refine wpList_nil ?_
    refine th_n ?_
    refine if_f henv rfl (rfl) ?_
    refine wp_skip ?_
    refine bl_n (th_n ?_)
    refine region_seq ?_
    revert a
    refine sA (v := .int .i64 (j + 1 : Nat)) rfl (fun _ henv => rn_add henv rfl rfl (by rw [IntWalk.i64_in _ (by omega)]; omega)) ?_
    refine mA rfl rfl ?_
    intro a henv
    refine wpList_nil ?_
    exact th_n ⟨_, (by omega), ⟨j + 1, rfl, henv.sub ⟨rfl, rfl, rfl, rfl, trivial⟩, hst.pick [] [2] (by decide), (by omega)⟩⟩
  · refine wp_exit ?_
    refine th_x (th_x (bl_x (th_n ?_)))
    refine wp_seq ?_
    refine region_seq ?_
    refine sv (v := .func (.func 94) #[] #[]) henv rfl (rn_move henv rfl) ?_
    clear henv a; intro a henv
    refine seq_step rfl (op_callc (vs := #[.string ⟨#[45, 51, 47, 50]⟩]) henv rfl Tryd.call94 rfl rfl (calls_app (by simp) (qk_of (s := [45, 51, 47, 50]) (r := mkRat (-3) 2) (by decide +kernel) (by decide))) ?_)
    rintro e w379 ⟨_, rfl, ⟨A380, c381, B382, d383, rfl, hz384, hz385⟩, hb⟩
    refine ⟨_, rfl, ?_⟩
    clear henv a; intro a henv
    replace hst := ((hst.call hb).addZ hz384 trivial).addZ hz385 trivial
    clear hz384 hz385
    clear hb
    refine seq_step rfl (op_call henv rfl Tryd.call92 rfl (text_q (x := mkRat (-3) 2) (show ZIn _ A380 c381 (qn (mkRat (-3) 2)) from hst.pat (k := 1) rfl) (show ZIn _ B382 d383 (ql (mkRat (-3) 2)) from hst.pat (k := 0) rfl) qs_w (by omega)) ?_)
    rintro e w386 ⟨rfl, hb⟩
    refine ⟨_, rfl, ?_⟩
    clear henv a; intro a henv
    replace hst := hst.call hb
    clear hb
    refine sv (v := .bool (decide ((textQ (mkRat (-3) 2)) = [45, 51, 47, 50]))) henv rfl (rn_eqls (s := (textQ (mkRat (-3) 2))) (t := [45, 51, 47, 50]) henv rfl rfl) ?_
    clear henv a; intro a henv
    rw [show (decide ((textQ (mkRat (-3) 2)) = [45, 51, 47, 50])) = true from (by decide +kernel)] at henv
    revert a
    refine mA rfl rfl ?_
    refine gA (v := .func (.func 94) #[] #[]) rfl rfl rfl rfl (fun _ henv => rn_move henv rfl) ?_
    intro a henv
    refine seq_g rfl henv rfl rfl (op_callc (vs := #[.string ⟨#[52]⟩]) henv rfl Tryd.call94 rfl rfl (calls_app (by simp) (qk_of (s := [52]) (r := ((4 : Int) : Rat)) (by decide +kernel) (by decide))) ?_)
    rintro e w387 ⟨_, rfl, ⟨A388, c389, B390, d391, rfl, hz392, hz393⟩, hb⟩
    refine ⟨_, rfl, ?_⟩
    clear henv a; intro a henv
    replace hst := ((hst.call hb).addZ hz392 trivial).addZ hz393 trivial
    clear hz392 hz393
    clear hb
    refine seq_g rfl henv rfl rfl (op_call henv rfl Tryd.call92 rfl (text_q (x := ((4 : Int) : Rat)) (show ZIn _ A388 c389 (qn ((4 : Int) : Rat)) from hst.pat (k := 1) rfl) (show ZIn _ B390 d391 (ql ((4 : Int) : Rat)) from hst.pat (k := 0) rfl) qk_4 (by omega)) ?_)
    rintro e w394 ⟨rfl, hb⟩
    refine ⟨_, rfl, ?_⟩
    clear henv a; intro a henv
    replace hst := hst.call hb
    clear hb
    refine seq_g rfl henv rfl rfl (op_val (v := .bool (decide ((textQ ((4 : Int) : Rat)) = [52]))) henv rfl (rn_eqls (s := (textQ ((4 : Int) : Rat))) (t := [52]) henv rfl rfl) ?_)
    clear henv a; intro a henv
    rw [show (decide ((textQ ((4 : Int) : Rat)) = [52])) = true from (by decide +kernel)] at henv
    revert a
    refine sA (v := .bool true) rfl (fun _ henv => rn_pick henv rfl rfl) ?_
    refine aA rfl rfl ?_
    intro a henv
    refine wpList_nil ?_
    refine th_n ?_
    refine wp_ret ?_
    refine leave henv (res1 Tryd.results15 (RV.tmp henv rfl)) ?_
    exact ⟨rfl, hst.below⟩
end Go.Proofs.YtegglooojlheoaaDoor.W
