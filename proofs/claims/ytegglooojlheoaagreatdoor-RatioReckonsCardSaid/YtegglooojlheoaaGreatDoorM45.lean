/- RatioMakes, RatioReckons: the laws' walks. Printed by pv/gen_qlaw2.py. No condition. -/
import Derived.Test.YtegglooojlheoaaGreatDoorM44
import Derived.Test.YtegglooojlheoaaGreatDoorM13

namespace Go.Proofs.YtegglooojlheoaaGreatDoor.W
open Go.RowKit Anv Go.Lib
def RatAs (s t : List UInt8) (x : Rat) : Prop := ∀ w0 : World,
    Calls Tryz.prog 25 #[.agg #[.string ⟨s.toArray⟩, .string ⟨t.toArray⟩]] w0 fun e w' => (∃ v u, e = .returned (.tuple #[v, u, .bool true]) ∧ QAt w' v x ∧ YAt w' u x) ∧ Below w0.heap.size w0 w'
def RatNo (s t : List UInt8) : Prop := ∀ w0 : World,
    Calls Tryz.prog 25 #[.agg #[.string ⟨s.toArray⟩, .string ⟨t.toArray⟩]] w0 fun e w' => e = .returned (.tuple #[.agg #[.bool (neg (qn 0)), .slice none (zl (qn 0)) 0, .bool (neg (ql 0)), .slice none (zl (ql 0)) 0], .agg #[.bool (neg 0), .slice none (dl 0) 0, .bool (neg 0), .slice none (dl 0) 0], .bool false]) ∧ Below w0.heap.size w0 w'
theorem rat_cases {s t : List UInt8} (hl : ¬ Lg (s, t)) : RatNo s t ∨ ∃ x, RatAs s t x ∧ Qs 400 x := by
  have h1 : s.length ≤ 300 := Nat.not_lt.1 fun h => hl (.inl h)
  have h2 : t.length ≤ 300 := Nat.not_lt.1 fun h => hl (.inr h)
  obtain ⟨z, ps, qs, bs, hs, bz⟩ := reads_as s (by omega)
  obtain ⟨y, pt, qt, bt, ht, by_⟩ := reads_as t (by omega)
  have bz : zl z ≤ 400 := by omega
  have by_ : zl y ≤ 400 := by omega
  by_cases g : bs < 0 ∧ bt < 0
  · by_cases hy0 : y = 0
    · exact .inl fun w0 => (rat_zero hs ht g.1 g.2 hy0)
    · exact .inr ⟨_, fun w0 => (rat_ok hs ht g.1 g.2 hy0 bz by_).mono fun _ _ ⟨v, u, he, h1, h2, hB⟩ => ⟨⟨v, u, he, h1, h2⟩, hB⟩, qs_make bz by_ hy0⟩
  · exact .inl fun w0 => (rat_no hs ht g)
set_option maxRecDepth 100000 in
set_option maxHeartbeats 8000000 in
theorem qreck_long {s t s2 t2 : List UInt8} {w0 : World} (hl : Lg (s, t) ∨ Lg (s2, t2)) :
    Calls Tryz.prog 4 #[.agg #[.string ⟨s.toArray⟩, .string ⟨t.toArray⟩], .agg #[.string ⟨s2.toArray⟩, .string ⟨t2.toArray⟩]] w0 fun e w' => e = .returned (.bool true) ∧ Below w0.heap.size w0 w' := by
  refine enter Tryz.func4 rfl Tryz.ntmps4 rfl ?_
  intro a henv hst
  refine wp_seq ?_
  refine region_seq ?_
  refine seq_step rfl (op_box (c := #[.string ⟨s.toArray⟩, .string ⟨t.toArray⟩]) henv hst rfl rfl rfl ?_)
  clear henv hst a; intro a w2 g1 henv hst
  refine seq_step rfl (op_box (c := #[.string ⟨s2.toArray⟩, .string ⟨t2.toArray⟩]) henv hst rfl rfl rfl ?_)
  clear henv hst a; intro a w4 g3 henv hst
  refine sv (v := .bool false) henv rfl (rn_assign henv rfl) ?_
  clear henv a; intro a henv
  refine wpList_nil ?_
  refine th_n ?_
  refine wp_seq ?_
  refine wp_seq ?_
  refine region_seq ?_
  refine seq_step rfl (op_call henv rfl Tryz.call5 rfl (qworks) ?_)
  rintro e w5 ⟨rfl, hb⟩
  refine ⟨_, rfl, ?_⟩
  clear henv a; intro a henv
  replace hst := hst.call hb
  clear hb
  refine sv (v := .bool false) henv rfl (rn_un henv rfl rfl) ?_
  clear henv a; intro a henv
  refine wpList_nil ?_
  refine th_n ?_
  refine if_f henv rfl (rfl) ?_
  refine wp_skip ?_
  refine th_n ?_
  refine wp_seq ?_
  refine wp_seq ?_
  refine region_seq ?_
  revert a
  refine sA (v := .agg #[.string ⟨s.toArray⟩, .string ⟨t.toArray⟩]) rfl (fun _ henv => rn_load0 henv ty_anvil_anvillaw03_Frac rfl (hst.oat (k := 1) rfl) rfl) ?_
  refine sA (v := .agg #[.string ⟨s2.toArray⟩, .string ⟨t2.toArray⟩]) rfl (fun _ henv => rn_load0 henv ty_anvil_anvillaw03_Frac rfl (hst.oat (k := 0) rfl) rfl) ?_
  intro a henv
  refine seq_step rfl (op_buildSlice (z := 2) (pv := #[(0, .agg #[.string ⟨s.toArray⟩, .string ⟨t.toArray⟩]), (1, .agg #[.string ⟨s2.toArray⟩, .string ⟨t2.toArray⟩])]) (c := #[.string ⟨s.toArray⟩, .string ⟨t.toArray⟩, .string ⟨s2.toArray⟩, .string ⟨t2.toArray⟩]) henv hst rfl Tryz.underlying66 (ty_anvil_anvillaw03_Frac.size) zero_anvil_anvillaw03_Frac (by decide) (by decide) rfl (by kernel_rfl) ?_)
  clear henv hst a; intro a w7 g6 henv hst
  replace hst := hst.giveBk (f := fF) (F := FF) (k := 0) (n := 2) (es := [(s, t), (s2, t2)]) rfl rfl fF_len rfl (by decide) (esT_P (fun _ => rfl) _ _) (fun _ _ _ _ => esT_foot (fun _ => rfl))
  refine seq_step rfl (op_call henv rfl Tryz.call6 rfl (qlong_yes (hst.pat (k := 0) rfl) (by rcases hl with hl | hl; exact ⟨_, List.mem_cons_self .., hl⟩; exact ⟨_, List.mem_cons_of_mem _ (List.mem_cons_self ..), hl⟩)) ?_)
  rintro e w8 ⟨rfl, hb⟩
  refine ⟨_, rfl, ?_⟩
  clear henv a; intro a henv
  replace hst := hst.call hb
  clear hb
  refine wpList_nil ?_
  refine th_n ?_
  refine if_t henv rfl (rfl) ?_
  refine wp_seq ?_
  refine region_seq ?_
  refine sv (v := .bool true) henv rfl (rn_assign henv rfl) ?_
  clear henv a; intro a henv
  refine wpList_nil ?_
  refine th_n ?_
  refine wp_ret ?_
  refine th_r ?_
  refine leave henv (res1 Tryz.results4 (RV.tmp henv rfl)) ?_
  exact ⟨rfl, hst.below⟩
set_option maxRecDepth 100000 in
set_option maxHeartbeats 8000000 in
theorem qreck_zero {x y : Rat} {s t s2 t2 : List UInt8} {w0 : World} (l1 : ¬ Lg (s, t)) (l2 : ¬ Lg (s2, t2)) (f1 : RatAs s t x) (f2 : RatAs s2 t2 y) (sx : Qs 400 x) (sy : Qs 400 y) (hy0 : y = 0) :
    Calls Tryz.prog 4 #[.agg #[.string ⟨s.toArray⟩, .string ⟨t.toArray⟩], .agg #[.string ⟨s2.toArray⟩, .string ⟨t2.toArray⟩]] w0 fun e w' => e = .returned (.bool true) ∧ Below w0.heap.size w0 w' := by
  refine enter Tryz.func4 rfl Tryz.ntmps4 rfl ?_
  intro a henv hst
  refine wp_seq ?_
  refine region_seq ?_
  refine seq_step rfl (op_box (c := #[.string ⟨s.toArray⟩, .string ⟨t.toArray⟩]) henv hst rfl rfl rfl ?_)
  clear henv hst a; intro a w2 g1 henv hst
  refine seq_step rfl (op_box (c := #[.string ⟨s2.toArray⟩, .string ⟨t2.toArray⟩]) henv hst rfl rfl rfl ?_)
  clear henv hst a; intro a w4 g3 henv hst
  refine sv (v := .bool false) henv rfl (rn_assign henv rfl) ?_
  clear henv a; intro a henv
  refine wpList_nil ?_
  refine th_n ?_
  refine wp_seq ?_
  refine wp_seq ?_
  refine region_seq ?_
  refine seq_step rfl (op_call henv rfl Tryz.call5 rfl (qworks) ?_)
  rintro e w5 ⟨rfl, hb⟩
  refine ⟨_, rfl, ?_⟩
  clear henv a; intro a henv
  replace hst := hst.call hb
  clear hb
  refine sv (v := .bool false) henv rfl (rn_un henv rfl rfl) ?_
  clear henv a; intro a henv
  refine wpList_nil ?_
  refine th_n ?_
  refine if_f henv rfl (rfl) ?_
  refine wp_skip ?_
  refine th_n ?_
  refine wp_seq ?_
  refine wp_seq ?_
  refine region_seq ?_
  revert a
  refine sA (v := .agg #[.string ⟨s.toArray⟩, .string ⟨t.toArray⟩]) rfl (fun _ henv => rn_load0 henv ty_anvil_anvillaw03_Frac rfl (hst.oat (k := 1) rfl) rfl) ?_
  refine sA (v := .agg #[.string ⟨s2.toArray⟩, .string ⟨t2.toArray⟩]) rfl (fun _ henv => rn_load0 henv ty_anvil_anvillaw03_Frac rfl (hst.oat (k := 0) rfl) rfl) ?_
  intro a henv
  refine seq_step rfl (op_buildSlice (z := 2) (pv := #[(0, .agg #[.string ⟨s.toArray⟩, .string ⟨t.toArray⟩]), (1, .agg #[.string ⟨s2.toArray⟩, .string ⟨t2.toArray⟩])]) (c := #[.string ⟨s.toArray⟩, .string ⟨t.toArray⟩, .string ⟨s2.toArray⟩, .string ⟨t2.toArray⟩]) henv hst rfl Tryz.underlying66 (ty_anvil_anvillaw03_Frac.size) zero_anvil_anvillaw03_Frac (by decide) (by decide) rfl (by kernel_rfl) ?_)
  clear henv hst a; intro a w7 g6 henv hst
  replace hst := hst.giveBk (f := fF) (F := FF) (k := 0) (n := 2) (es := [(s, t), (s2, t2)]) rfl rfl fF_len rfl (by decide) (esT_P (fun _ => rfl) _ _) (fun _ _ _ _ => esT_foot (fun _ => rfl))
  refine seq_step rfl (op_call henv rfl Tryz.call6 rfl (qlong_no (hst.pat (k := 0) rfl) (by decide) (by intro e he; simp at he; rcases he with rfl | rfl; exact l1; exact l2)) ?_)
  rintro e w8 ⟨rfl, hb⟩
  refine ⟨_, rfl, ?_⟩
  clear henv a; intro a henv
  replace hst := hst.call hb
  clear hb
  refine wpList_nil ?_
  refine th_n ?_
  refine if_f henv rfl (rfl) ?_
  refine wp_skip ?_
  refine th_n ?_
  refine wp_seq ?_
  refine region_seq ?_
  refine sv (v := .agg #[.string ⟨s.toArray⟩, .string ⟨t.toArray⟩]) henv rfl (rn_load0 henv ty_anvil_anvillaw03_Frac rfl (hst.oat (k := 1) rfl) rfl) ?_
  clear henv a; intro a henv
  refine seq_step rfl (op_call henv rfl Tryz.call25 rfl (f1 _) ?_)
  rintro e w21 ⟨⟨_, _, rfl, ⟨A9, c10, B11, d12, rfl, hz13, hz14⟩, ⟨A15, c16, B17, d18, rfl, hz19, hz20⟩⟩, hb⟩
  refine ⟨_, rfl, ?_⟩
  clear henv a; intro a henv
  replace hst := ((((hst.call hb).addZ hz13 ⟨nou_bk rfl, nou_bk rfl, trivial⟩).addZ hz14 ⟨nou_bk rfl, nou_bk rfl, trivial⟩).addR hz19 ⟨nou_bk rfl, nou_bk rfl, trivial⟩).addR hz20 ⟨nou_bk rfl, nou_bk rfl, trivial⟩
  clear hz13 hz14 hz19 hz20
  clear hb
  revert a
  refine mA rfl rfl ?_
  refine sA (v := .agg #[.bool (neg (qn x)), .slice A9 (zl (qn x)) c10, .bool (neg (ql x)), .slice B11 (zl (ql x)) d12]) rfl (fun _ henv => rn_extract henv rfl rfl) ?_
  refine sA (v := .agg #[.bool (neg (qn x)), .slice A15 (dl (qn x)) c16, .bool (neg (qd x)), .slice B17 (dl (qd x)) d18]) rfl (fun _ henv => rn_extract henv rfl rfl) ?_
  refine sA (v := .bool true) rfl (fun _ henv => rn_extract henv rfl rfl) ?_
  intro a henv
  refine seq_step rfl (op_alloc (c := #[.bool (neg (qn 0)), .slice none (zl (qn 0)) 0, .bool (neg (ql 0)), .slice none (zl (ql 0)) 0]) henv hst rfl zero_anvil_ratio_Rat qcells ?_)
  clear henv hst a; intro a w23 g22 henv hst
  refine seq_step rfl (op_alloc (c := #[.bool false, .slice none 0 0, .bool false, .slice none 0 0]) henv hst rfl zero_anvil_anvilref03_Rat rfl ?_)
  clear henv hst a; intro a w25 g24 henv hst
  refine seq_step rfl (op_store (k := 1) (c' := #[.bool (neg (qn x)), .slice A9 (zl (qn x)) c10, .bool (neg (ql x)), .slice B11 (zl (ql x)) d12]) henv hst (ty_anvil_ratio_Rat.size) rfl rfl rfl rfl (by simp) rfl rfl ?_)
  clear henv hst a; intro a w26 henv hst
  refine seq_step rfl (op_store (k := 0) (c' := #[.bool (neg (qn x)), .slice A15 (dl (qn x)) c16, .bool (neg (qd x)), .slice B17 (dl (qd x)) d18]) henv hst (ty_anvil_anvilref03_Rat.size) rfl rfl rfl rfl (by simp) rfl rfl ?_)
  clear henv hst a; intro a w27 henv hst
  refine sv (v := .bool true) henv rfl (rn_assign henv rfl) ?_
  clear henv a; intro a henv
  refine wpList_nil ?_
  refine th_n ?_
  refine wp_seq ?_
  refine region_seq ?_
  refine sv (v := .agg #[.string ⟨s2.toArray⟩, .string ⟨t2.toArray⟩]) henv rfl (rn_load0 henv ty_anvil_anvillaw03_Frac rfl (hst.oat (k := 2) rfl) rfl) ?_
  clear henv a; intro a henv
  refine seq_step rfl (op_call henv rfl Tryz.call25 rfl (f2 _) ?_)
  rintro e w40 ⟨⟨_, _, rfl, ⟨A28, c29, B30, d31, rfl, hz32, hz33⟩, ⟨A34, c35, B36, d37, rfl, hz38, hz39⟩⟩, hb⟩
  refine ⟨_, rfl, ?_⟩
  clear henv a; intro a henv
  replace hst := ((((hst.call hb).addZ hz32 ⟨nou_bk rfl, nou_bk rfl, nou_bk rfl, nou_bk rfl, trivial⟩).addZ hz33 ⟨nou_bk rfl, nou_bk rfl, nou_bk rfl, nou_bk rfl, trivial⟩).addR hz38 ⟨nou_bk rfl, nou_bk rfl, nou_bk rfl, nou_bk rfl, trivial⟩).addR hz39 ⟨nou_bk rfl, nou_bk rfl, nou_bk rfl, nou_bk rfl, trivial⟩
  clear hz32 hz33 hz38 hz39
  clear hb
  revert a
  refine mA rfl rfl ?_
  refine sA (v := .agg #[.bool (neg (qn y)), .slice A28 (zl (qn y)) c29, .bool (neg (ql y)), .slice B30 (zl (ql y)) d31]) rfl (fun _ henv => rn_extract henv rfl rfl) ?_
  refine sA (v := .agg #[.bool (neg (qn y)), .slice A34 (dl (qn y)) c35, .bool (neg (qd y)), .slice B36 (dl (qd y)) d37]) rfl (fun _ henv => rn_extract henv rfl rfl) ?_
  refine sA (v := .bool true) rfl (fun _ henv => rn_extract henv rfl rfl) ?_
  intro a henv
  refine seq_step rfl (op_alloc (c := #[.bool (neg (qn 0)), .slice none (zl (qn 0)) 0, .bool (neg (ql 0)), .slice none (zl (ql 0)) 0]) henv hst rfl zero_anvil_ratio_Rat qcells ?_)
  clear henv hst a; intro a w42 g41 henv hst
  refine seq_step rfl (op_alloc (c := #[.bool false, .slice none 0 0, .bool false, .slice none 0 0]) henv hst rfl zero_anvil_anvilref03_Rat rfl ?_)
  clear henv hst a; intro a w44 g43 henv hst
  refine seq_step rfl (op_store (k := 1) (c' := #[.bool (neg (qn y)), .slice A28 (zl (qn y)) c29, .bool (neg (ql y)), .slice B30 (zl (ql y)) d31]) henv hst (ty_anvil_ratio_Rat.size) rfl rfl rfl rfl (by simp) rfl rfl ?_)
  clear henv hst a; intro a w45 henv hst
  refine seq_step rfl (op_store (k := 0) (c' := #[.bool (neg (qn y)), .slice A34 (dl (qn y)) c35, .bool (neg (qd y)), .slice B36 (dl (qd y)) d37]) henv hst (ty_anvil_anvilref03_Rat.size) rfl rfl rfl rfl (by simp) rfl rfl ?_)
  clear henv hst a; intro a w46 henv hst
  refine sv (v := .bool true) henv rfl (rn_assign henv rfl) ?_
  clear henv a; intro a henv
  refine wpList_nil ?_
  refine th_n ?_
  refine wp_seq ?_
  refine wp_seq ?_
  refine region_seq ?_
  revert a
  refine mA rfl rfl ?_
  refine sA (v := .bool false) rfl (fun _ henv => rn_un henv rfl rfl) ?_
  refine mA rfl rfl ?_
  refine gA (v := .bool true) rfl rfl rfl rfl (fun _ henv => rn_move henv rfl) ?_
  refine gA (v := .bool false) rfl rfl rfl rfl (fun _ henv => rn_un henv rfl rfl) ?_
  refine sA (v := .bool false) rfl (fun _ henv => rn_pick henv rfl rfl) ?_
  intro a henv
  refine wpList_nil ?_
  refine th_n ?_
  refine if_f henv rfl (rfl) ?_
  refine wp_skip ?_
  refine th_n ?_
  refine wp_seq ?_
  refine wp_seq ?_
  refine region_any (n := 57) (Sk [bk g43 #[.bool (neg (qn y)), .slice A34 (dl (qn y)) c35, .bool (neg (qd y)), .slice B36 (dl (qd y)) d37] 41, bk g41 #[.bool (neg (qn y)), .slice A28 (zl (qn y)) c29, .bool (neg (ql y)), .slice B30 (zl (ql y)) d31] 34, bk g24 #[.bool (neg (qn x)), .slice A15 (dl (qn x)) c16, .bool (neg (qd x)), .slice B17 (dl (qd x)) d18] 41, bk g22 #[.bool (neg (qn x)), .slice A9 (zl (qn x)) c10, .bool (neg (ql x)), .slice B11 (zl (ql x)) d12] 34, bk g3 #[.string ⟨s2.toArray⟩, .string ⟨t2.toArray⟩] 23, bk g1 #[.string ⟨s.toArray⟩, .string ⟨t.toArray⟩] 23] [pfR B36 d37 (qd y), pfR A34 c35 (qn y), pfZ B30 d31 (ql y), pfZ A28 c29 (qn y), pfR B17 d18 (qd x), pfR A15 c16 (qn x), pfZ B11 d12 (ql x), pfZ A9 c10 (qn x), pfRow fF FF 2 (some ⟨g6, 0, none⟩) 2 2 ([(s, t), (s2, t2)]), pfRd 2 (some ⟨g6, 0, none⟩) 2 2 (fl fF [(s, t), (s2, t2)])] [] []) mixed rfl henv hst ?_
  clear henv hst; intro w47 henv hst
  refine tL (i := 0) 3 3 [2, 5, 6, 7, 8, 9, 10, 11, 12, 13, 14, 15, 16, 17, 18, 19, 20, 21, 22, 23, 24, 25, 26, 27, 28, 29, 30, 31, 32, 33, 34, 35, 36, 37, 38, 39, 40, 41, 42, 43, 44, 45, 46, 47, 48, 49, 50, 51, 52, 53, 54, 55, 56] rfl (by kernel_rfl) (fun _ _ _ h => h) henv rfl ty_anvil_ratio_Rat rfl hst rfl rfl rfl ?_
  clear henv a; intro a henv
  refine tL (i := 1) 1 1 [2, 5, 6, 7, 8, 9, 10, 11, 12, 13, 14, 15, 16, 17, 18, 19, 20, 21, 22, 23, 24, 25, 26, 27, 28, 29, 30, 31, 32, 33, 34, 35, 36, 37, 38, 39, 40, 41, 42, 43, 44, 45, 46, 47, 48, 49, 50, 51, 52, 53, 54, 55, 56] rfl (by kernel_rfl) (fun _ _ _ h => h) henv rfl ty_anvil_ratio_Rat rfl hst rfl rfl rfl ?_
  clear henv a; intro a henv
  refine tL (i := 3) 2 2 (rg 5 52) rfl (by kernel_rfl) (fun _ _ _ h => h) henv rfl ty_anvil_anvilref03_Rat rfl hst rfl rfl rfl ?_
  clear henv a; intro a henv
  refine tL (i := 4) 0 0 (rg 5 52) rfl (by kernel_rfl) (fun _ _ _ h => h) henv rfl ty_anvil_anvilref03_Rat rfl hst rfl rfl rfl ?_
  clear henv a; intro a henv
  refine sAny_one (i := 2) (by kernel_rfl) rfl rfl (op_call henv rfl Tryz.call26 rfl (cmp_q (x := x) (y := y) (show ZIn _ A9 c10 (qn x) from hst.pat (k := 7) rfl) (show ZIn _ B11 d12 (ql x) from hst.pat (k := 6) rfl) (show ZIn _ A28 c29 (qn y) from hst.pat (k := 3) rfl) (show ZIn _ B30 d31 (ql y) from hst.pat (k := 2) rfl) sx sy (by omega)) ?_)
  rintro e w48 ⟨rfl, hb⟩
  refine ⟨_, rfl, ?_⟩
  clear henv a; intro a henv
  replace hst := hst.call hb
  clear hb
  refine ⟨.inr ⟨hst.kn.pick (rg 0 6) (rg 0 10), .inr (hst.kn.pick [] [])⟩, ?_⟩
  refine sAny_one (i := 5) (by kernel_rfl) rfl rfl (op_call henv rfl Tryz.call27 rfl (cmp_y (x := x) (y := y) (show RIn _ A15 c16 (qn x) from hst.pat (k := 5) rfl) (show RIn _ B17 d18 (qd x) from hst.pat (k := 4) rfl) (show RIn _ A34 c35 (qn y) from hst.pat (k := 1) rfl) (show RIn _ B36 d37 (qd y) from hst.pat (k := 0) rfl) sx sy (by omega)) ?_)
  rintro e w49 ⟨rfl, hb⟩
  refine ⟨_, rfl, ?_⟩
  clear henv a; intro a henv
  replace hst := hst.call hb
  clear hb
  refine ⟨.inr ⟨hst.kn.pick (rg 0 6) (rg 0 10), .inr (hst.kn.pick [] [])⟩, ?_⟩
  refine tA (i := 6) (rg 7 50) (v := .bool ((cmpQ x y) != (cmpQ x y))) rfl (by kernel_rfl) (fun _ _ _ h => h) henv rfl (fun _ => rn_bin henv rfl rfl rfl) ?_
  clear henv a; intro a henv
  rw [show ((cmpQ x y) != (cmpQ x y)) = false from (bne_self_eq_false _)] at henv
  refine tM (i := 7) (rg 8 49) rfl (by kernel_rfl) (fun _ _ _ h => h) henv rfl rfl ?_
  clear henv a; intro a henv
  refine tLg (i := 8) 3 3 [9, 11, 12, 13, 14, 15, 16, 17, 18, 19, 20, 21, 22, 23, 24, 25, 26, 27, 28, 29, 30, 31, 32, 33, 34, 35, 36, 37, 38, 39, 40, 41, 42, 43, 44, 45, 46, 47, 48, 49, 50, 51, 52, 53, 54, 55, 56] rfl (by kernel_rfl) (fun _ _ _ h => h) henv rfl rfl rfl rfl ty_anvil_ratio_Rat rfl hst rfl rfl rfl ?_
  clear henv a; intro a henv
  refine tLg (i := 10) 2 2 (rg 11 46) rfl (by kernel_rfl) (fun _ _ _ h => h) henv rfl rfl rfl rfl ty_anvil_anvilref03_Rat rfl hst rfl rfl rfl ?_
  clear henv a; intro a henv
  have hq56 : Qs 400 (-x) := by have h := sx.neg; exact h
  refine sAny_oneg (i := 9) (by kernel_rfl) rfl rfl henv rfl rfl rfl (op_call henv rfl Tryz.call28 rfl (neg_q (x := x) (show ZIn _ A9 c10 (qn x) from hst.pat (k := 7) rfl) (show ZIn _ B11 d12 (ql x) from hst.pat (k := 6) rfl)) ?_)
  rintro e w57 ⟨_, rfl, ⟨A50, c51, B52, d53, rfl, hz54, hz55⟩, hb⟩
  refine ⟨_, rfl, ?_⟩
  clear henv a; intro a henv
  replace hst := ((hst.call hb).addZ hz54 ⟨nou_bk rfl, nou_bk rfl, nou_bk rfl, nou_bk rfl, nou_bk rfl, nou_bk rfl, trivial⟩).addZ hz55 ⟨nou_bk rfl, nou_bk rfl, nou_bk rfl, nou_bk rfl, nou_bk rfl, nou_bk rfl, trivial⟩
  clear hz54 hz55
  clear hb
  refine ⟨.inr ⟨hst.kn.pick (rg 0 6) (rg 2 10), .inr (hst.kn.pick [] [])⟩, ?_⟩
  refine sAny_oneg (i := 11) (by kernel_rfl) rfl rfl henv rfl rfl rfl (op_call henv rfl Tryz.call29 rfl (neg_y (x := x) (show RIn _ A15 c16 (qn x) from hst.pat (k := 7) rfl) (show RIn _ B17 d18 (qd x) from hst.pat (k := 6) rfl)) ?_)
  rintro e w64 ⟨_, rfl, ⟨A58, c59, B60, d61, rfl, hz62, hz63⟩, hb⟩
  refine ⟨_, rfl, ?_⟩
  clear henv a; intro a henv
  replace hst := ((hst.call hb).addR hz62 ⟨nou_bk rfl, nou_bk rfl, nou_bk rfl, nou_bk rfl, nou_bk rfl, nou_bk rfl, trivial⟩).addR hz63 ⟨nou_bk rfl, nou_bk rfl, nou_bk rfl, nou_bk rfl, nou_bk rfl, nou_bk rfl, trivial⟩
  clear hz62 hz63
  clear hb
  refine ⟨.inr ⟨hst.kn.pick (rg 0 6) (rg 4 10), .inr (hst.kn.pick [] [])⟩, ?_⟩
  refine sAny_oneg (i := 12) (by kernel_rfl) rfl rfl henv rfl rfl rfl (op_call henv rfl Tryz.call9 rfl (is_qy (r := -x) (show ZIn _ A50 c51 (qn (-x)) from hst.pat (k := 3) rfl) (show ZIn _ B52 d53 (ql (-x)) from hst.pat (k := 2) rfl) (show RIn _ A58 c59 (qn (-x)) from hst.pat (k := 1) rfl) (show RIn _ B60 d61 (qd (-x)) from hst.pat (k := 0) rfl) hq56 (by omega)) ?_)
  rintro e w65 ⟨rfl, hb⟩
  refine ⟨_, rfl, ?_⟩
  clear henv a; intro a henv
  replace hst := hst.call hb
  clear hb
  refine ⟨.inr ⟨hst.kn.pick (rg 0 6) (rg 4 10), .inr (hst.kn.pick [] [])⟩, ?_⟩
  refine tAg (i := 13) (rg 14 43) (v := .bool false) rfl (by kernel_rfl) (fun _ _ _ h => h) henv rfl rfl rfl rfl (fun _ => rn_un henv rfl rfl) ?_
  clear henv a; intro a henv
  refine tA (i := 14) (rg 15 42) (v := .bool false) rfl (by kernel_rfl) (fun _ _ _ h => h) henv rfl (fun _ => rn_pick henv rfl rfl) ?_
  clear henv a; intro a henv
  refine tM (i := 15) (rg 16 41) rfl (by kernel_rfl) (fun _ _ _ h => h) henv rfl rfl ?_
  clear henv a; intro a henv
  refine tLg (i := 16) 3 3 [18, 21, 22, 23, 24, 25, 26, 27, 28, 29, 30, 31, 32, 33, 34, 35, 36, 37, 38, 39, 40, 41, 42, 43, 44, 45, 46, 47, 48, 49, 50, 51, 52, 53, 54, 55, 56] rfl (by kernel_rfl) (fun _ _ _ h => h) henv rfl rfl rfl rfl ty_anvil_ratio_Rat rfl hst rfl rfl rfl ?_
  clear henv a; intro a henv
  refine tLg (i := 17) 1 1 [18, 21, 22, 23, 24, 25, 26, 27, 28, 29, 30, 31, 32, 33, 34, 35, 36, 37, 38, 39, 40, 41, 42, 43, 44, 45, 46, 47, 48, 49, 50, 51, 52, 53, 54, 55, 56] rfl (by kernel_rfl) (fun _ _ _ h => h) henv rfl rfl rfl rfl ty_anvil_ratio_Rat rfl hst rfl rfl rfl ?_
  clear henv a; intro a henv
  refine tLg (i := 19) 2 2 (rg 21 36) rfl (by kernel_rfl) (fun _ _ _ h => h) henv rfl rfl rfl rfl ty_anvil_anvilref03_Rat rfl hst rfl rfl rfl ?_
  clear henv a; intro a henv
  refine tLg (i := 20) 0 0 (rg 21 36) rfl (by kernel_rfl) (fun _ _ _ h => h) henv rfl rfl rfl rfl ty_anvil_anvilref03_Rat rfl hst rfl rfl rfl ?_
  clear henv a; intro a henv
  have hq72 : Qs 801 (x + y) := by have h := sx.add sy; exact h
  refine sAny_oneg (i := 18) (by kernel_rfl) rfl rfl henv rfl rfl rfl (op_call henv rfl Tryz.call30 rfl (add_q (x := x) (y := y) (show ZIn _ A9 c10 (qn x) from hst.pat (k := 11) rfl) (show ZIn _ B11 d12 (ql x) from hst.pat (k := 10) rfl) (show ZIn _ A28 c29 (qn y) from hst.pat (k := 7) rfl) (show ZIn _ B30 d31 (ql y) from hst.pat (k := 6) rfl) sx sy (by omega)) ?_)
  rintro e w73 ⟨_, rfl, ⟨A66, c67, B68, d69, rfl, hz70, hz71⟩, hb⟩
  refine ⟨_, rfl, ?_⟩
  clear henv a; intro a henv
  replace hst := ((hst.call hb).addZ hz70 ⟨nou_bk rfl, nou_bk rfl, nou_bk rfl, nou_bk rfl, nou_bk rfl, nou_bk rfl, trivial⟩).addZ hz71 ⟨nou_bk rfl, nou_bk rfl, nou_bk rfl, nou_bk rfl, nou_bk rfl, nou_bk rfl, trivial⟩
  clear hz70 hz71
  clear hb
  refine ⟨.inr ⟨hst.kn.pick (rg 0 6) (rg 6 10), .inr (hst.kn.pick [] [])⟩, ?_⟩
  refine sAny_oneg (i := 21) (by kernel_rfl) rfl rfl henv rfl rfl rfl (op_call henv rfl Tryz.call31 rfl (add_y (x := x) (y := y) (show RIn _ A15 c16 (qn x) from hst.pat (k := 11) rfl) (show RIn _ B17 d18 (qd x) from hst.pat (k := 10) rfl) (show RIn _ A34 c35 (qn y) from hst.pat (k := 7) rfl) (show RIn _ B36 d37 (qd y) from hst.pat (k := 6) rfl) sx sy (by omega)) ?_)
  rintro e w80 ⟨_, rfl, ⟨A74, c75, B76, d77, rfl, hz78, hz79⟩, hb⟩
  refine ⟨_, rfl, ?_⟩
  clear henv a; intro a henv
  replace hst := ((hst.call hb).addR hz78 ⟨nou_bk rfl, nou_bk rfl, nou_bk rfl, nou_bk rfl, nou_bk rfl, nou_bk rfl, trivial⟩).addR hz79 ⟨nou_bk rfl, nou_bk rfl, nou_bk rfl, nou_bk rfl, nou_bk rfl, nou_bk rfl, trivial⟩
  clear hz78 hz79
  clear hb
  refine ⟨.inr ⟨hst.kn.pick (rg 0 6) (rg 8 10), .inr (hst.kn.pick [] [])⟩, ?_⟩
  refine sAny_oneg (i := 22) (by kernel_rfl) rfl rfl henv rfl rfl rfl (op_call henv rfl Tryz.call9 rfl (is_qy (r := x + y) (show ZIn _ A66 c67 (qn (x + y)) from hst.pat (k := 3) rfl) (show ZIn _ B68 d69 (ql (x + y)) from hst.pat (k := 2) rfl) (show RIn _ A74 c75 (qn (x + y)) from hst.pat (k := 1) rfl) (show RIn _ B76 d77 (qd (x + y)) from hst.pat (k := 0) rfl) hq72 (by omega)) ?_)
  rintro e w81 ⟨rfl, hb⟩
  refine ⟨_, rfl, ?_⟩
  clear henv a; intro a henv
  replace hst := hst.call hb
  clear hb
  refine ⟨.inr ⟨hst.kn.pick (rg 0 6) (rg 8 10), .inr (hst.kn.pick [] [])⟩, ?_⟩
  refine tAg (i := 23) (rg 24 33) (v := .bool false) rfl (by kernel_rfl) (fun _ _ _ h => h) henv rfl rfl rfl rfl (fun _ => rn_un henv rfl rfl) ?_
  clear henv a; intro a henv
  refine tA (i := 24) (rg 25 32) (v := .bool false) rfl (by kernel_rfl) (fun _ _ _ h => h) henv rfl (fun _ => rn_pick henv rfl rfl) ?_
  clear henv a; intro a henv
  refine tM (i := 25) (rg 26 31) rfl (by kernel_rfl) (fun _ _ _ h => h) henv rfl rfl ?_
  clear henv a; intro a henv
  refine tLg (i := 26) 3 3 [28, 31, 32, 33, 34, 35, 36, 37, 38, 39, 40, 41, 42, 43, 44, 45, 46, 47, 48, 49, 50, 51, 52, 53, 54, 55, 56] rfl (by kernel_rfl) (fun _ _ _ h => h) henv rfl rfl rfl rfl ty_anvil_ratio_Rat rfl hst rfl rfl rfl ?_
  clear henv a; intro a henv
  refine tLg (i := 27) 1 1 [28, 31, 32, 33, 34, 35, 36, 37, 38, 39, 40, 41, 42, 43, 44, 45, 46, 47, 48, 49, 50, 51, 52, 53, 54, 55, 56] rfl (by kernel_rfl) (fun _ _ _ h => h) henv rfl rfl rfl rfl ty_anvil_ratio_Rat rfl hst rfl rfl rfl ?_
  clear henv a; intro a henv
  refine tLg (i := 29) 2 2 (rg 31 26) rfl (by kernel_rfl) (fun _ _ _ h => h) henv rfl rfl rfl rfl ty_anvil_anvilref03_Rat rfl hst rfl rfl rfl ?_
  clear henv a; intro a henv
  refine tLg (i := 30) 0 0 (rg 31 26) rfl (by kernel_rfl) (fun _ _ _ h => h) henv rfl rfl rfl rfl ty_anvil_anvilref03_Rat rfl hst rfl rfl rfl ?_
  clear henv a; intro a henv
  have hq88 : Qs 801 (x - y) := by have h := sx.sub sy; exact h
  refine sAny_oneg (i := 28) (by kernel_rfl) rfl rfl henv rfl rfl rfl (op_call henv rfl Tryz.call32 rfl (sub_q (x := x) (y := y) (show ZIn _ A9 c10 (qn x) from hst.pat (k := 15) rfl) (show ZIn _ B11 d12 (ql x) from hst.pat (k := 14) rfl) (show ZIn _ A28 c29 (qn y) from hst.pat (k := 11) rfl) (show ZIn _ B30 d31 (ql y) from hst.pat (k := 10) rfl) sx sy (by omega)) ?_)
  rintro e w89 ⟨_, rfl, ⟨A82, c83, B84, d85, rfl, hz86, hz87⟩, hb⟩
  refine ⟨_, rfl, ?_⟩
  clear henv a; intro a henv
  replace hst := ((hst.call hb).addZ hz86 ⟨nou_bk rfl, nou_bk rfl, nou_bk rfl, nou_bk rfl, nou_bk rfl, nou_bk rfl, trivial⟩).addZ hz87 ⟨nou_bk rfl, nou_bk rfl, nou_bk rfl, nou_bk rfl, nou_bk rfl, nou_bk rfl, trivial⟩
  clear hz86 hz87
  clear hb
  refine ⟨.inr ⟨hst.kn.pick (rg 0 6) (rg 10 10), .inr (hst.kn.pick [] [])⟩, ?_⟩
  refine sAny_oneg (i := 31) (by kernel_rfl) rfl rfl henv rfl rfl rfl (op_call henv rfl Tryz.call33 rfl (sub_y (x := x) (y := y) (show RIn _ A15 c16 (qn x) from hst.pat (k := 15) rfl) (show RIn _ B17 d18 (qd x) from hst.pat (k := 14) rfl) (show RIn _ A34 c35 (qn y) from hst.pat (k := 11) rfl) (show RIn _ B36 d37 (qd y) from hst.pat (k := 10) rfl) sx sy (by omega)) ?_)
  rintro e w96 ⟨_, rfl, ⟨A90, c91, B92, d93, rfl, hz94, hz95⟩, hb⟩
  refine ⟨_, rfl, ?_⟩
  clear henv a; intro a henv
  replace hst := ((hst.call hb).addR hz94 ⟨nou_bk rfl, nou_bk rfl, nou_bk rfl, nou_bk rfl, nou_bk rfl, nou_bk rfl, trivial⟩).addR hz95 ⟨nou_bk rfl, nou_bk rfl, nou_bk rfl, nou_bk rfl, nou_bk rfl, nou_bk rfl, trivial⟩
  clear hz94 hz95
  clear hb
  refine ⟨.inr ⟨hst.kn.pick (rg 0 6) (rg 12 10), .inr (hst.kn.pick [] [])⟩, ?_⟩
  refine sAny_oneg (i := 32) (by kernel_rfl) rfl rfl henv rfl rfl rfl (op_call henv rfl Tryz.call9 rfl (is_qy (r := x - y) (show ZIn _ A82 c83 (qn (x - y)) from hst.pat (k := 3) rfl) (show ZIn _ B84 d85 (ql (x - y)) from hst.pat (k := 2) rfl) (show RIn _ A90 c91 (qn (x - y)) from hst.pat (k := 1) rfl) (show RIn _ B92 d93 (qd (x - y)) from hst.pat (k := 0) rfl) hq88 (by omega)) ?_)
  rintro e w97 ⟨rfl, hb⟩
  refine ⟨_, rfl, ?_⟩
  clear henv a; intro a henv
  replace hst := hst.call hb
  clear hb
  refine ⟨.inr ⟨hst.kn.pick (rg 0 6) (rg 12 10), .inr (hst.kn.pick [] [])⟩, ?_⟩
  refine tAg (i := 33) (rg 34 23) (v := .bool false) rfl (by kernel_rfl) (fun _ _ _ h => h) henv rfl rfl rfl rfl (fun _ => rn_un henv rfl rfl) ?_
  clear henv a; intro a henv
  refine tA (i := 34) (rg 35 22) (v := .bool false) rfl (by kernel_rfl) (fun _ _ _ h => h) henv rfl (fun _ => rn_pick henv rfl rfl) ?_
  clear henv a; intro a henv
  refine tM (i := 35) (rg 36 21) rfl (by kernel_rfl) (fun _ _ _ h => h) henv rfl rfl ?_
  clear henv a; intro a henv
  refine tLg (i := 36) 3 3 [38, 41, 42, 43, 44, 45, 46, 47, 48, 49, 50, 51, 52, 53, 54, 55, 56] rfl (by kernel_rfl) (fun _ _ _ h => h) henv rfl rfl rfl rfl ty_anvil_ratio_Rat rfl hst rfl rfl rfl ?_
  clear henv a; intro a henv
  refine tLg (i := 37) 1 1 [38, 41, 42, 43, 44, 45, 46, 47, 48, 49, 50, 51, 52, 53, 54, 55, 56] rfl (by kernel_rfl) (fun _ _ _ h => h) henv rfl rfl rfl rfl ty_anvil_ratio_Rat rfl hst rfl rfl rfl ?_
  clear henv a; intro a henv
  refine tLg (i := 39) 2 2 (rg 41 16) rfl (by kernel_rfl) (fun _ _ _ h => h) henv rfl rfl rfl rfl ty_anvil_anvilref03_Rat rfl hst rfl rfl rfl ?_
  clear henv a; intro a henv
  refine tLg (i := 40) 0 0 (rg 41 16) rfl (by kernel_rfl) (fun _ _ _ h => h) henv rfl rfl rfl rfl ty_anvil_anvilref03_Rat rfl hst rfl rfl rfl ?_
  clear henv a; intro a henv
  have hq104 : Qs 800 (x * y) := by have h := sx.mul sy; exact h
  refine sAny_oneg (i := 38) (by kernel_rfl) rfl rfl henv rfl rfl rfl (op_call henv rfl Tryz.call34 rfl (mul_q (x := x) (y := y) (show ZIn _ A9 c10 (qn x) from hst.pat (k := 19) rfl) (show ZIn _ B11 d12 (ql x) from hst.pat (k := 18) rfl) (show ZIn _ A28 c29 (qn y) from hst.pat (k := 15) rfl) (show ZIn _ B30 d31 (ql y) from hst.pat (k := 14) rfl) sx sy (by omega)) ?_)
  rintro e w105 ⟨_, rfl, ⟨A98, c99, B100, d101, rfl, hz102, hz103⟩, hb⟩
  refine ⟨_, rfl, ?_⟩
  clear henv a; intro a henv
  replace hst := ((hst.call hb).addZ hz102 ⟨nou_bk rfl, nou_bk rfl, nou_bk rfl, nou_bk rfl, nou_bk rfl, nou_bk rfl, trivial⟩).addZ hz103 ⟨nou_bk rfl, nou_bk rfl, nou_bk rfl, nou_bk rfl, nou_bk rfl, nou_bk rfl, trivial⟩
  clear hz102 hz103
  clear hb
  refine ⟨.inr ⟨hst.kn.pick (rg 0 6) (rg 14 10), .inr (hst.kn.pick [] [])⟩, ?_⟩
  refine sAny_oneg (i := 41) (by kernel_rfl) rfl rfl henv rfl rfl rfl (op_call henv rfl Tryz.call35 rfl (mul_y (x := x) (y := y) (show RIn _ A15 c16 (qn x) from hst.pat (k := 19) rfl) (show RIn _ B17 d18 (qd x) from hst.pat (k := 18) rfl) (show RIn _ A34 c35 (qn y) from hst.pat (k := 15) rfl) (show RIn _ B36 d37 (qd y) from hst.pat (k := 14) rfl) sx sy (by omega)) ?_)
  rintro e w112 ⟨_, rfl, ⟨A106, c107, B108, d109, rfl, hz110, hz111⟩, hb⟩
  refine ⟨_, rfl, ?_⟩
  clear henv a; intro a henv
  replace hst := ((hst.call hb).addR hz110 ⟨nou_bk rfl, nou_bk rfl, nou_bk rfl, nou_bk rfl, nou_bk rfl, nou_bk rfl, trivial⟩).addR hz111 ⟨nou_bk rfl, nou_bk rfl, nou_bk rfl, nou_bk rfl, nou_bk rfl, nou_bk rfl, trivial⟩
  clear hz110 hz111
  clear hb
  refine ⟨.inr ⟨hst.kn.pick (rg 0 6) (rg 16 10), .inr (hst.kn.pick [] [])⟩, ?_⟩
  refine sAny_oneg (i := 42) (by kernel_rfl) rfl rfl henv rfl rfl rfl (op_call henv rfl Tryz.call9 rfl (is_qy (r := x * y) (show ZIn _ A98 c99 (qn (x * y)) from hst.pat (k := 3) rfl) (show ZIn _ B100 d101 (ql (x * y)) from hst.pat (k := 2) rfl) (show RIn _ A106 c107 (qn (x * y)) from hst.pat (k := 1) rfl) (show RIn _ B108 d109 (qd (x * y)) from hst.pat (k := 0) rfl) hq104 (by omega)) ?_)
  rintro e w113 ⟨rfl, hb⟩
  refine ⟨_, rfl, ?_⟩
  clear henv a; intro a henv
  replace hst := hst.call hb
  clear hb
  refine ⟨.inr ⟨hst.kn.pick (rg 0 6) (rg 16 10), .inr (hst.kn.pick [] [])⟩, ?_⟩
  refine tAg (i := 43) (rg 44 13) (v := .bool false) rfl (by kernel_rfl) (fun _ _ _ h => h) henv rfl rfl rfl rfl (fun _ => rn_un henv rfl rfl) ?_
  clear henv a; intro a henv
  refine tA (i := 44) (rg 45 12) (v := .bool false) rfl (by kernel_rfl) (fun _ _ _ h => h) henv rfl (fun _ => rn_pick henv rfl rfl) ?_
  clear henv a; intro a henv
  refine tM (i := 45) (rg 46 11) rfl (by kernel_rfl) (fun _ _ _ h => h) henv rfl rfl ?_
  clear henv a; intro a henv
  refine tLg (i := 46) 3 3 (rg 48 9) rfl (by kernel_rfl) (fun _ _ _ h => h) henv rfl rfl rfl rfl ty_anvil_ratio_Rat rfl hst rfl rfl rfl ?_
  clear henv a; intro a henv
  refine tLg (i := 47) 2 2 (rg 48 9) rfl (by kernel_rfl) (fun _ _ _ h => h) henv rfl rfl rfl rfl ty_anvil_anvilref03_Rat rfl hst rfl rfl rfl ?_
  clear henv a; intro a henv
  refine sAny_oneg (i := 48) (by kernel_rfl) rfl rfl henv rfl rfl rfl (op_call henv rfl Tryz.call9 rfl (is_qy (r := x) (show ZIn _ A9 c10 (qn x) from hst.pat (k := 23) rfl) (show ZIn _ B11 d12 (ql x) from hst.pat (k := 22) rfl) (show RIn _ A15 c16 (qn x) from hst.pat (k := 21) rfl) (show RIn _ B17 d18 (qd x) from hst.pat (k := 20) rfl) sx (by omega)) ?_)
  rintro e w114 ⟨rfl, hb⟩
  refine ⟨_, rfl, ?_⟩
  clear henv a; intro a henv
  replace hst := hst.call hb
  clear hb
  refine ⟨.inr ⟨hst.kn.pick (rg 0 6) (rg 16 10), .inr (hst.kn.pick [] [])⟩, ?_⟩
  refine tAg (i := 49) (rg 50 7) (v := .bool false) rfl (by kernel_rfl) (fun _ _ _ h => h) henv rfl rfl rfl rfl (fun _ => rn_un henv rfl rfl) ?_
  clear henv a; intro a henv
  refine tA (i := 50) (rg 51 6) (v := .bool false) rfl (by kernel_rfl) (fun _ _ _ h => h) henv rfl (fun _ => rn_pick henv rfl rfl) ?_
  clear henv a; intro a henv
  refine tM (i := 51) (rg 52 5) rfl (by kernel_rfl) (fun _ _ _ h => h) henv rfl rfl ?_
  clear henv a; intro a henv
  refine tLg (i := 52) 1 1 [54, 55, 56] rfl (by kernel_rfl) (fun _ _ _ h => h) henv rfl rfl rfl rfl ty_anvil_ratio_Rat rfl hst rfl rfl rfl ?_
  clear henv a; intro a henv
  refine tLg (i := 53) 0 0 [54, 55, 56] rfl (by kernel_rfl) (fun _ _ _ h => h) henv rfl rfl rfl rfl ty_anvil_anvilref03_Rat rfl hst rfl rfl rfl ?_
  clear henv a; intro a henv
  refine sAny_oneg (i := 54) (by kernel_rfl) rfl rfl henv rfl rfl rfl (op_call henv rfl Tryz.call9 rfl (is_qy (r := y) (show ZIn _ A28 c29 (qn y) from hst.pat (k := 19) rfl) (show ZIn _ B30 d31 (ql y) from hst.pat (k := 18) rfl) (show RIn _ A34 c35 (qn y) from hst.pat (k := 17) rfl) (show RIn _ B36 d37 (qd y) from hst.pat (k := 16) rfl) sy (by omega)) ?_)
  rintro e w115 ⟨rfl, hb⟩
  refine ⟨_, rfl, ?_⟩
  clear henv a; intro a henv
  replace hst := hst.call hb
  clear hb
  refine ⟨.inr ⟨hst.kn.pick (rg 0 6) (rg 16 10), .inr (hst.kn.pick [] [])⟩, ?_⟩
  refine tAg (i := 55) [56] (v := .bool false) rfl (by kernel_rfl) (fun _ _ _ h => h) henv rfl rfl rfl rfl (fun _ => rn_un henv rfl rfl) ?_
  clear henv a; intro a henv
  refine tA (i := 56) [] (v := .bool false) rfl (by kernel_rfl) (fun _ _ _ h => h) henv rfl (fun _ => rn_pick henv rfl rfl) ?_
  clear henv a; intro a henv
  refine sAny_done (by kernel_rfl) ?_ _
  refine th_n ?_
  refine if_f henv rfl (rfl) ?_
  refine wp_skip ?_
  refine th_n ?_
  refine wp_seq ?_
  refine region_seq ?_
  revert a
  refine sA (v := .agg #[.bool (neg (qn x)), .slice A9 (zl (qn x)) c10, .bool (neg (ql x)), .slice B11 (zl (ql x)) d12]) rfl (fun _ henv => rn_load0 henv ty_anvil_ratio_Rat rfl (hst.oat (k := 3) rfl) rfl) ?_
  refine sA (v := .agg #[.bool (neg (qn y)), .slice A28 (zl (qn y)) c29, .bool (neg (ql y)), .slice B30 (zl (ql y)) d31]) rfl (fun _ henv => rn_load0 henv ty_anvil_ratio_Rat rfl (hst.oat (k := 1) rfl) rfl) ?_
  intro a henv
  refine seq_step rfl (op_call henv rfl Tryz.call36 rfl (over_qz (x := x) (y := y) (show ZIn _ A9 c10 (qn x) from hst.pat (k := 23) rfl) (show ZIn _ B11 d12 (ql x) from hst.pat (k := 22) rfl) (show ZIn _ A28 c29 (qn y) from hst.pat (k := 19) rfl) (show ZIn _ B30 d31 (ql y) from hst.pat (k := 18) rfl) sx (by omega) hy0) ?_)
  rintro e w116 ⟨rfl, hb⟩
  refine ⟨_, rfl, ?_⟩
  clear henv a; intro a henv
  replace hst := hst.call hb
  replace hst := (hst.addZ (show ZIn _ none 0 (qn 0) from zin_none _) ⟨nou_bk rfl, nou_bk rfl, nou_bk rfl, nou_bk rfl, nou_bk rfl, nou_bk rfl, trivial⟩).addZ (show ZIn _ none 0 (ql 0) from zin_none _) ⟨nou_bk rfl, nou_bk rfl, nou_bk rfl, nou_bk rfl, nou_bk rfl, nou_bk rfl, trivial⟩
  clear hb
  revert a
  refine mA rfl rfl ?_
  refine sA (v := .agg #[.bool (neg (qn 0)), .slice none (zl (qn 0)) 0, .bool (neg (ql 0)), .slice none (zl (ql 0)) 0]) rfl (fun _ henv => rn_extract henv rfl rfl) ?_
  refine sA (v := .int .i64 2) rfl (fun _ henv => rn_extract henv rfl rfl) ?_
  intro a henv
  refine seq_step rfl (op_alloc (c := #[.bool (neg (qn 0)), .slice none (zl (qn 0)) 0, .bool (neg (ql 0)), .slice none (zl (ql 0)) 0]) henv hst rfl zero_anvil_ratio_Rat qcells ?_)
  clear henv hst a; intro a w118 g117 henv hst
  refine seq_step rfl (op_store (k := 0) (c' := #[.bool (neg (qn 0)), .slice none (zl (qn 0)) 0, .bool (neg (ql 0)), .slice none (zl (ql 0)) 0]) henv hst (ty_anvil_ratio_Rat.size) rfl rfl rfl rfl (by simp) rfl rfl ?_)
  clear henv hst a; intro a w119 henv hst
  refine sv (v := .int .i64 2) henv rfl (rn_assign henv rfl) ?_
  clear henv a; intro a henv
  refine wpList_nil ?_
  refine th_n ?_
  refine wp_seq ?_
  refine wp_seq ?_
  refine region_seq ?_
  refine sv (v := .agg #[.bool (neg (qn y)), .slice A34 (dl (qn y)) c35, .bool (neg (qd y)), .slice B36 (dl (qd y)) d37]) henv rfl (rn_load0 henv ty_anvil_anvilref03_Rat rfl (hst.oat (k := 1) rfl) rfl) ?_
  clear henv a; intro a henv
  refine seq_step rfl (op_call henv rfl Tryz.call16 rfl (sign_y (x := y) (show RIn _ A34 c35 (qn y) from hst.pat (k := 19) rfl) (show RIn _ B36 d37 (qd y) from hst.pat (k := 18) rfl)) ?_)
  rintro e w120 ⟨rfl, hb⟩
  refine ⟨_, rfl, ?_⟩
  clear henv a; intro a henv
  replace hst := hst.call hb
  clear hb
  refine sv (v := .bool ((qn y).sign == (0 : Int))) henv rfl (rn_bin henv rfl rfl rfl) ?_
  clear henv a; intro a henv
  rw [show ((qn y).sign == (0 : Int)) = true from (by rw [hy0]; rfl)] at henv
  refine wpList_nil ?_
  refine th_n ?_
  refine if_t henv rfl (rfl) ?_
  refine wp_seq ?_
  refine region_any (n := 8) (Sk [bk g117 #[.bool (neg (qn 0)), .slice none (zl (qn 0)) 0, .bool (neg (ql 0)), .slice none (zl (ql 0)) 0] 34, bk g43 #[.bool (neg (qn y)), .slice A34 (dl (qn y)) c35, .bool (neg (qd y)), .slice B36 (dl (qd y)) d37] 41, bk g41 #[.bool (neg (qn y)), .slice A28 (zl (qn y)) c29, .bool (neg (ql y)), .slice B30 (zl (ql y)) d31] 34, bk g24 #[.bool (neg (qn x)), .slice A15 (dl (qn x)) c16, .bool (neg (qd x)), .slice B17 (dl (qd x)) d18] 41, bk g22 #[.bool (neg (qn x)), .slice A9 (zl (qn x)) c10, .bool (neg (ql x)), .slice B11 (zl (ql x)) d12] 34, bk g3 #[.string ⟨s2.toArray⟩, .string ⟨t2.toArray⟩] 23, bk g1 #[.string ⟨s.toArray⟩, .string ⟨t.toArray⟩] 23] [pfZ none 0 (ql 0), pfZ none 0 (qn 0), pfR B108 d109 (qd (x * y)), pfR A106 c107 (qn (x * y)), pfZ B100 d101 (ql (x * y)), pfZ A98 c99 (qn (x * y)), pfR B92 d93 (qd (x - y)), pfR A90 c91 (qn (x - y)), pfZ B84 d85 (ql (x - y)), pfZ A82 c83 (qn (x - y)), pfR B76 d77 (qd (x + y)), pfR A74 c75 (qn (x + y)), pfZ B68 d69 (ql (x + y)), pfZ A66 c67 (qn (x + y)), pfR B60 d61 (qd (-x)), pfR A58 c59 (qn (-x)), pfZ B52 d53 (ql (-x)), pfZ A50 c51 (qn (-x)), pfR B36 d37 (qd y), pfR A34 c35 (qn y), pfZ B30 d31 (ql y), pfZ A28 c29 (qn y), pfR B17 d18 (qd x), pfR A15 c16 (qn x), pfZ B11 d12 (ql x), pfZ A9 c10 (qn x), pfRow fF FF 2 (some ⟨g6, 0, none⟩) 2 2 ([(s, t), (s2, t2)]), pfRd 2 (some ⟨g6, 0, none⟩) 2 2 (fl fF [(s, t), (s2, t2)])] [] []) mixed rfl henv hst ?_
  clear henv hst; intro w121 henv hst
  refine tM (i := 0) (rg 1 7) rfl (by kernel_rfl) (fun _ _ _ h => h) henv rfl rfl ?_
  clear henv a; intro a henv
  refine tA (i := 1) (rg 2 6) (v := .bool true) rfl (by kernel_rfl) (fun _ _ _ h => h) henv rfl (fun _ => rn_bin henv rfl rfl rfl) ?_
  clear henv a; intro a henv
  refine tM (i := 2) (rg 3 5) rfl (by kernel_rfl) (fun _ _ _ h => h) henv rfl rfl ?_
  clear henv a; intro a henv
  refine tLg (i := 3) 0 0 [5, 6, 7] rfl (by kernel_rfl) (fun _ _ _ h => h) henv rfl rfl rfl rfl ty_anvil_ratio_Rat rfl hst rfl rfl rfl ?_
  clear henv a; intro a henv
  refine sAny_oneg (i := 4) (by kernel_rfl) rfl rfl henv rfl rfl rfl (op_call henv rfl Tryz.call13 rfl (zero_y) ?_)
  rintro e w128 ⟨_, rfl, ⟨A122, c123, B124, d125, rfl, hz126, hz127⟩, hb⟩
  refine ⟨_, rfl, ?_⟩
  clear henv a; intro a henv
  replace hst := ((hst.call hb).addR hz126 ⟨nou_bk rfl, nou_bk rfl, nou_bk rfl, nou_bk rfl, nou_bk rfl, nou_bk rfl, nou_bk rfl, trivial⟩).addR hz127 ⟨nou_bk rfl, nou_bk rfl, nou_bk rfl, nou_bk rfl, nou_bk rfl, nou_bk rfl, nou_bk rfl, trivial⟩
  clear hz126 hz127
  clear hb
  refine ⟨.inr ⟨hst.kn.pick (rg 0 7) (rg 2 28), .inr (hst.kn.pick [] [])⟩, ?_⟩
  refine sAny_oneg (i := 5) (by kernel_rfl) rfl rfl henv rfl rfl rfl (op_call henv rfl Tryz.call9 rfl (is_qy (r := 0) (show ZIn _ none 0 (qn 0) from hst.pat (k := 3) rfl) (show ZIn _ none 0 (ql 0) from hst.pat (k := 2) rfl) (show RIn _ A122 c123 (qn 0) from hst.pat (k := 1) rfl) (show RIn _ B124 d125 (qd 0) from hst.pat (k := 0) rfl) qs_zero (by omega)) ?_)
  rintro e w129 ⟨rfl, hb⟩
  refine ⟨_, rfl, ?_⟩
  clear henv a; intro a henv
  replace hst := hst.call hb
  clear hb
  refine ⟨.inr ⟨hst.kn.pick (rg 0 7) (rg 2 28), .inr (hst.kn.pick [] [])⟩, ?_⟩
  refine tA (i := 6) [7] (v := .bool true) rfl (by kernel_rfl) (fun _ _ _ h => h) henv rfl (fun _ => rn_pick henv rfl rfl) ?_
  clear henv a; intro a henv
  refine tA (i := 7) [] (v := .bool true) rfl (by kernel_rfl) (fun _ _ _ h => h) henv rfl (fun _ => rn_assign henv rfl) ?_
  clear henv a; intro a henv
  refine sAny_done (by kernel_rfl) ?_ _
  refine th_n ?_
  refine wp_ret ?_
  refine th_r ?_
  refine leave henv (res1 Tryz.results4 (RV.tmp henv rfl)) ?_
  exact ⟨rfl, hst.below⟩
set_option maxRecDepth 100000 in
set_option maxHeartbeats 8000000 in
theorem qreck_ok {x y : Rat} {s t s2 t2 : List UInt8} {w0 : World} (l1 : ¬ Lg (s, t)) (l2 : ¬ Lg (s2, t2)) (f1 : RatAs s t x) (f2 : RatAs s2 t2 y) (sx : Qs 400 x) (sy : Qs 400 y) (hy0 : y ≠ 0) :
    Calls Tryz.prog 4 #[.agg #[.string ⟨s.toArray⟩, .string ⟨t.toArray⟩], .agg #[.string ⟨s2.toArray⟩, .string ⟨t2.toArray⟩]] w0 fun e w' => e = .returned (.bool true) ∧ Below w0.heap.size w0 w' := by
  refine enter Tryz.func4 rfl Tryz.ntmps4 rfl ?_
  intro a henv hst
  refine wp_seq ?_
  refine region_seq ?_
  refine seq_step rfl (op_box (c := #[.string ⟨s.toArray⟩, .string ⟨t.toArray⟩]) henv hst rfl rfl rfl ?_)
  clear henv hst a; intro a w2 g1 henv hst
  refine seq_step rfl (op_box (c := #[.string ⟨s2.toArray⟩, .string ⟨t2.toArray⟩]) henv hst rfl rfl rfl ?_)
  clear henv hst a; intro a w4 g3 henv hst
  refine sv (v := .bool false) henv rfl (rn_assign henv rfl) ?_
  clear henv a; intro a henv
  refine wpList_nil ?_
  refine th_n ?_
  refine wp_seq ?_
  refine wp_seq ?_
  refine region_seq ?_
  refine seq_step rfl (op_call henv rfl Tryz.call5 rfl (qworks) ?_)
  rintro e w5 ⟨rfl, hb⟩
  refine ⟨_, rfl, ?_⟩
  clear henv a; intro a henv
  replace hst := hst.call hb
  clear hb
  refine sv (v := .bool false) henv rfl (rn_un henv rfl rfl) ?_
  clear henv a; intro a henv
  refine wpList_nil ?_
  refine th_n ?_
  refine if_f henv rfl (rfl) ?_
  refine wp_skip ?_
  refine th_n ?_
  refine wp_seq ?_
  refine wp_seq ?_
  refine region_seq ?_
  revert a
  refine sA (v := .agg #[.string ⟨s.toArray⟩, .string ⟨t.toArray⟩]) rfl (fun _ henv => rn_load0 henv ty_anvil_anvillaw03_Frac rfl (hst.oat (k := 1) rfl) rfl) ?_
  refine sA (v := .agg #[.string ⟨s2.toArray⟩, .string ⟨t2.toArray⟩]) rfl (fun _ henv => rn_load0 henv ty_anvil_anvillaw03_Frac rfl (hst.oat (k := 0) rfl) rfl) ?_
  intro a henv
  refine seq_step rfl (op_buildSlice (z := 2) (pv := #[(0, .agg #[.string ⟨s.toArray⟩, .string ⟨t.toArray⟩]), (1, .agg #[.string ⟨s2.toArray⟩, .string ⟨t2.toArray⟩])]) (c := #[.string ⟨s.toArray⟩, .string ⟨t.toArray⟩, .string ⟨s2.toArray⟩, .string ⟨t2.toArray⟩]) henv hst rfl Tryz.underlying66 (ty_anvil_anvillaw03_Frac.size) zero_anvil_anvillaw03_Frac (by decide) (by decide) rfl (by kernel_rfl) ?_)
  clear henv hst a; intro a w7 g6 henv hst
  replace hst := hst.giveBk (f := fF) (F := FF) (k := 0) (n := 2) (es := [(s, t), (s2, t2)]) rfl rfl fF_len rfl (by decide) (esT_P (fun _ => rfl) _ _) (fun _ _ _ _ => esT_foot (fun _ => rfl))
  refine seq_step rfl (op_call henv rfl Tryz.call6 rfl (qlong_no (hst.pat (k := 0) rfl) (by decide) (by intro e he; simp at he; rcases he with rfl | rfl; exact l1; exact l2)) ?_)
  rintro e w8 ⟨rfl, hb⟩
  refine ⟨_, rfl, ?_⟩
  clear henv a; intro a henv
  replace hst := hst.call hb
  clear hb
  refine wpList_nil ?_
  refine th_n ?_
  refine if_f henv rfl (rfl) ?_
  refine wp_skip ?_
  refine th_n ?_
  refine wp_seq ?_
  refine region_seq ?_
  refine sv (v := .agg #[.string ⟨s.toArray⟩, .string ⟨t.toArray⟩]) henv rfl (rn_load0 henv ty_anvil_anvillaw03_Frac rfl (hst.oat (k := 1) rfl) rfl) ?_
  clear henv a; intro a henv
  refine seq_step rfl (op_call henv rfl Tryz.call25 rfl (f1 _) ?_)
  rintro e w21 ⟨⟨_, _, rfl, ⟨A9, c10, B11, d12, rfl, hz13, hz14⟩, ⟨A15, c16, B17, d18, rfl, hz19, hz20⟩⟩, hb⟩
  refine ⟨_, rfl, ?_⟩
  clear henv a; intro a henv
  replace hst := ((((hst.call hb).addZ hz13 ⟨nou_bk rfl, nou_bk rfl, trivial⟩).addZ hz14 ⟨nou_bk rfl, nou_bk rfl, trivial⟩).addR hz19 ⟨nou_bk rfl, nou_bk rfl, trivial⟩).addR hz20 ⟨nou_bk rfl, nou_bk rfl, trivial⟩
  clear hz13 hz14 hz19 hz20
  clear hb
  revert a
  refine mA rfl rfl ?_
  refine sA (v := .agg #[.bool (neg (qn x)), .slice A9 (zl (qn x)) c10, .bool (neg (ql x)), .slice B11 (zl (ql x)) d12]) rfl (fun _ henv => rn_extract henv rfl rfl) ?_
  refine sA (v := .agg #[.bool (neg (qn x)), .slice A15 (dl (qn x)) c16, .bool (neg (qd x)), .slice B17 (dl (qd x)) d18]) rfl (fun _ henv => rn_extract henv rfl rfl) ?_
  refine sA (v := .bool true) rfl (fun _ henv => rn_extract henv rfl rfl) ?_
  intro a henv
  refine seq_step rfl (op_alloc (c := #[.bool (neg (qn 0)), .slice none (zl (qn 0)) 0, .bool (neg (ql 0)), .slice none (zl (ql 0)) 0]) henv hst rfl zero_anvil_ratio_Rat qcells ?_)
  clear henv hst a; intro a w23 g22 henv hst
  refine seq_step rfl (op_alloc (c := #[.bool false, .slice none 0 0, .bool false, .slice none 0 0]) henv hst rfl zero_anvil_anvilref03_Rat rfl ?_)
  clear henv hst a; intro a w25 g24 henv hst
  refine seq_step rfl (op_store (k := 1) (c' := #[.bool (neg (qn x)), .slice A9 (zl (qn x)) c10, .bool (neg (ql x)), .slice B11 (zl (ql x)) d12]) henv hst (ty_anvil_ratio_Rat.size) rfl rfl rfl rfl (by simp) rfl rfl ?_)
  clear henv hst a; intro a w26 henv hst
  refine seq_step rfl (op_store (k := 0) (c' := #[.bool (neg (qn x)), .slice A15 (dl (qn x)) c16, .bool (neg (qd x)), .slice B17 (dl (qd x)) d18]) henv hst (ty_anvil_anvilref03_Rat.size) rfl rfl rfl rfl (by simp) rfl rfl ?_)
  clear henv hst a; intro a w27 henv hst
  refine sv (v := .bool true) henv rfl (rn_assign henv rfl) ?_
  clear henv a; intro a henv
  refine wpList_nil ?_
  refine th_n ?_
  refine wp_seq ?_
  refine region_seq ?_
  refine sv (v := .agg #[.string ⟨s2.toArray⟩, .string ⟨t2.toArray⟩]) henv rfl (rn_load0 henv ty_anvil_anvillaw03_Frac rfl (hst.oat (k := 2) rfl) rfl) ?_
  clear henv a; intro a henv
  refine seq_step rfl (op_call henv rfl Tryz.call25 rfl (f2 _) ?_)
  rintro e w40 ⟨⟨_, _, rfl, ⟨A28, c29, B30, d31, rfl, hz32, hz33⟩, ⟨A34, c35, B36, d37, rfl, hz38, hz39⟩⟩, hb⟩
  refine ⟨_, rfl, ?_⟩
  clear henv a; intro a henv
  replace hst := ((((hst.call hb).addZ hz32 ⟨nou_bk rfl, nou_bk rfl, nou_bk rfl, nou_bk rfl, trivial⟩).addZ hz33 ⟨nou_bk rfl, nou_bk rfl, nou_bk rfl, nou_bk rfl, trivial⟩).addR hz38 ⟨nou_bk rfl, nou_bk rfl, nou_bk rfl, nou_bk rfl, trivial⟩).addR hz39 ⟨nou_bk rfl, nou_bk rfl, nou_bk rfl, nou_bk rfl, trivial⟩
  clear hz32 hz33 hz38 hz39
  clear hb
  revert a
  refine mA rfl rfl ?_
  refine sA (v := .agg #[.bool (neg (qn y)), .slice A28 (zl (qn y)) c29, .bool (neg (ql y)), .slice B30 (zl (ql y)) d31]) rfl (fun _ henv => rn_extract henv rfl rfl) ?_
  refine sA (v := .agg #[.bool (neg (qn y)), .slice A34 (dl (qn y)) c35, .bool (neg (qd y)), .slice B36 (dl (qd y)) d37]) rfl (fun _ henv => rn_extract henv rfl rfl) ?_
  refine sA (v := .bool true) rfl (fun _ henv => rn_extract henv rfl rfl) ?_
  intro a henv
  refine seq_step rfl (op_alloc (c := #[.bool (neg (qn 0)), .slice none (zl (qn 0)) 0, .bool (neg (ql 0)), .slice none (zl (ql 0)) 0]) henv hst rfl zero_anvil_ratio_Rat qcells ?_)
  clear henv hst a; intro a w42 g41 henv hst
  refine seq_step rfl (op_alloc (c := #[.bool false, .slice none 0 0, .bool false, .slice none 0 0]) henv hst rfl zero_anvil_anvilref03_Rat rfl ?_)
  clear henv hst a; intro a w44 g43 henv hst
  refine seq_step rfl (op_store (k := 1) (c' := #[.bool (neg (qn y)), .slice A28 (zl (qn y)) c29, .bool (neg (ql y)), .slice B30 (zl (ql y)) d31]) henv hst (ty_anvil_ratio_Rat.size) rfl rfl rfl rfl (by simp) rfl rfl ?_)
  clear henv hst a; intro a w45 henv hst
  refine seq_step rfl (op_store (k := 0) (c' := #[.bool (neg (qn y)), .slice A34 (dl (qn y)) c35, .bool (neg (qd y)), .slice B36 (dl (qd y)) d37]) henv hst (ty_anvil_anvilref03_Rat.size) rfl rfl rfl rfl (by simp) rfl rfl ?_)
  clear henv hst a; intro a w46 henv hst
  refine sv (v := .bool true) henv rfl (rn_assign henv rfl) ?_
  clear henv a; intro a henv
  refine wpList_nil ?_
  refine th_n ?_
  refine wp_seq ?_
  refine wp_seq ?_
  refine region_seq ?_
  revert a
  refine mA rfl rfl ?_
  refine sA (v := .bool false) rfl (fun _ henv => rn_un henv rfl rfl) ?_
  refine mA rfl rfl ?_
  refine gA (v := .bool true) rfl rfl rfl rfl (fun _ henv => rn_move henv rfl) ?_
  refine gA (v := .bool false) rfl rfl rfl rfl (fun _ henv => rn_un henv rfl rfl) ?_
  refine sA (v := .bool false) rfl (fun _ henv => rn_pick henv rfl rfl) ?_
  intro a henv
  refine wpList_nil ?_
  refine th_n ?_
  refine if_f henv rfl (rfl) ?_
  refine wp_skip ?_
  refine th_n ?_
  refine wp_seq ?_
  refine wp_seq ?_
  refine region_any (n := 57) (Sk [bk g43 #[.bool (neg (qn y)), .slice A34 (dl (qn y)) c35, .bool (neg (qd y)), .slice B36 (dl (qd y)) d37] 41, bk g41 #[.bool (neg (qn y)), .slice A28 (zl (qn y)) c29, .bool (neg (ql y)), .slice B30 (zl (ql y)) d31] 34, bk g24 #[.bool (neg (qn x)), .slice A15 (dl (qn x)) c16, .bool (neg (qd x)), .slice B17 (dl (qd x)) d18] 41, bk g22 #[.bool (neg (qn x)), .slice A9 (zl (qn x)) c10, .bool (neg (ql x)), .slice B11 (zl (ql x)) d12] 34, bk g3 #[.string ⟨s2.toArray⟩, .string ⟨t2.toArray⟩] 23, bk g1 #[.string ⟨s.toArray⟩, .string ⟨t.toArray⟩] 23] [pfR B36 d37 (qd y), pfR A34 c35 (qn y), pfZ B30 d31 (ql y), pfZ A28 c29 (qn y), pfR B17 d18 (qd x), pfR A15 c16 (qn x), pfZ B11 d12 (ql x), pfZ A9 c10 (qn x), pfRow fF FF 2 (some ⟨g6, 0, none⟩) 2 2 ([(s, t), (s2, t2)]), pfRd 2 (some ⟨g6, 0, none⟩) 2 2 (fl fF [(s, t), (s2, t2)])] [] []) mixed rfl henv hst ?_
  clear henv hst; intro w47 henv hst
  refine tL (i := 0) 3 3 [2, 5, 6, 7, 8, 9, 10, 11, 12, 13, 14, 15, 16, 17, 18, 19, 20, 21, 22, 23, 24, 25, 26, 27, 28, 29, 30, 31, 32, 33, 34, 35, 36, 37, 38, 39, 40, 41, 42, 43, 44, 45, 46, 47, 48, 49, 50, 51, 52, 53, 54, 55, 56] rfl (by kernel_rfl) (fun _ _ _ h => h) henv rfl ty_anvil_ratio_Rat rfl hst rfl rfl rfl ?_
  clear henv a; intro a henv
  refine tL (i := 1) 1 1 [2, 5, 6, 7, 8, 9, 10, 11, 12, 13, 14, 15, 16, 17, 18, 19, 20, 21, 22, 23, 24, 25, 26, 27, 28, 29, 30, 31, 32, 33, 34, 35, 36, 37, 38, 39, 40, 41, 42, 43, 44, 45, 46, 47, 48, 49, 50, 51, 52, 53, 54, 55, 56] rfl (by kernel_rfl) (fun _ _ _ h => h) henv rfl ty_anvil_ratio_Rat rfl hst rfl rfl rfl ?_
  clear henv a; intro a henv
  refine tL (i := 3) 2 2 (rg 5 52) rfl (by kernel_rfl) (fun _ _ _ h => h) henv rfl ty_anvil_anvilref03_Rat rfl hst rfl rfl rfl ?_
  clear henv a; intro a henv
  refine tL (i := 4) 0 0 (rg 5 52) rfl (by kernel_rfl) (fun _ _ _ h => h) henv rfl ty_anvil_anvilref03_Rat rfl hst rfl rfl rfl ?_
  clear henv a; intro a henv
  refine sAny_one (i := 2) (by kernel_rfl) rfl rfl (op_call henv rfl Tryz.call26 rfl (cmp_q (x := x) (y := y) (show ZIn _ A9 c10 (qn x) from hst.pat (k := 7) rfl) (show ZIn _ B11 d12 (ql x) from hst.pat (k := 6) rfl) (show ZIn _ A28 c29 (qn y) from hst.pat (k := 3) rfl) (show ZIn _ B30 d31 (ql y) from hst.pat (k := 2) rfl) sx sy (by omega)) ?_)
  rintro e w48 ⟨rfl, hb⟩
  refine ⟨_, rfl, ?_⟩
  clear henv a; intro a henv
  replace hst := hst.call hb
  clear hb
  refine ⟨.inr ⟨hst.kn.pick (rg 0 6) (rg 0 10), .inr (hst.kn.pick [] [])⟩, ?_⟩
  refine sAny_one (i := 5) (by kernel_rfl) rfl rfl (op_call henv rfl Tryz.call27 rfl (cmp_y (x := x) (y := y) (show RIn _ A15 c16 (qn x) from hst.pat (k := 5) rfl) (show RIn _ B17 d18 (qd x) from hst.pat (k := 4) rfl) (show RIn _ A34 c35 (qn y) from hst.pat (k := 1) rfl) (show RIn _ B36 d37 (qd y) from hst.pat (k := 0) rfl) sx sy (by omega)) ?_)
  rintro e w49 ⟨rfl, hb⟩
  refine ⟨_, rfl, ?_⟩
  clear henv a; intro a henv
  replace hst := hst.call hb
  clear hb
  refine ⟨.inr ⟨hst.kn.pick (rg 0 6) (rg 0 10), .inr (hst.kn.pick [] [])⟩, ?_⟩
  refine tA (i := 6) (rg 7 50) (v := .bool ((cmpQ x y) != (cmpQ x y))) rfl (by kernel_rfl) (fun _ _ _ h => h) henv rfl (fun _ => rn_bin henv rfl rfl rfl) ?_
  clear henv a; intro a henv
  rw [show ((cmpQ x y) != (cmpQ x y)) = false from (bne_self_eq_false _)] at henv
  refine tM (i := 7) (rg 8 49) rfl (by kernel_rfl) (fun _ _ _ h => h) henv rfl rfl ?_
  clear henv a; intro a henv
  refine tLg (i := 8) 3 3 [9, 11, 12, 13, 14, 15, 16, 17, 18, 19, 20, 21, 22, 23, 24, 25, 26, 27, 28, 29, 30, 31, 32, 33, 34, 35, 36, 37, 38, 39, 40, 41, 42, 43, 44, 45, 46, 47, 48, 49, 50, 51, 52, 53, 54, 55, 56] rfl (by kernel_rfl) (fun _ _ _ h => h) henv rfl rfl rfl rfl ty_anvil_ratio_Rat rfl hst rfl rfl rfl ?_
  clear henv a; intro a henv
  refine tLg (i := 10) 2 2 (rg 11 46) rfl (by kernel_rfl) (fun _ _ _ h => h) henv rfl rfl rfl rfl ty_anvil_anvilref03_Rat rfl hst rfl rfl rfl ?_
  clear henv a; intro a henv
  have hq56 : Qs 400 (-x) := by have h := sx.neg; exact h
  refine sAny_oneg (i := 9) (by kernel_rfl) rfl rfl henv rfl rfl rfl (op_call henv rfl Tryz.call28 rfl (neg_q (x := x) (show ZIn _ A9 c10 (qn x) from hst.pat (k := 7) rfl) (show ZIn _ B11 d12 (ql x) from hst.pat (k := 6) rfl)) ?_)
  rintro e w57 ⟨_, rfl, ⟨A50, c51, B52, d53, rfl, hz54, hz55⟩, hb⟩
  refine ⟨_, rfl, ?_⟩
  clear henv a; intro a henv
  replace hst := ((hst.call hb).addZ hz54 ⟨nou_bk rfl, nou_bk rfl, nou_bk rfl, nou_bk rfl, nou_bk rfl, nou_bk rfl, trivial⟩).addZ hz55 ⟨nou_bk rfl, nou_bk rfl, nou_bk rfl, nou_bk rfl, nou_bk rfl, nou_bk rfl, trivial⟩
  clear hz54 hz55
  clear hb
  refine ⟨.inr ⟨hst.kn.pick (rg 0 6) (rg 2 10), .inr (hst.kn.pick [] [])⟩, ?_⟩
  refine sAny_oneg (i := 11) (by kernel_rfl) rfl rfl henv rfl rfl rfl (op_call henv rfl Tryz.call29 rfl (neg_y (x := x) (show RIn _ A15 c16 (qn x) from hst.pat (k := 7) rfl) (show RIn _ B17 d18 (qd x) from hst.pat (k := 6) rfl)) ?_)
  rintro e w64 ⟨_, rfl, ⟨A58, c59, B60, d61, rfl, hz62, hz63⟩, hb⟩
  refine ⟨_, rfl, ?_⟩
  clear henv a; intro a henv
  replace hst := ((hst.call hb).addR hz62 ⟨nou_bk rfl, nou_bk rfl, nou_bk rfl, nou_bk rfl, nou_bk rfl, nou_bk rfl, trivial⟩).addR hz63 ⟨nou_bk rfl, nou_bk rfl, nou_bk rfl, nou_bk rfl, nou_bk rfl, nou_bk rfl, trivial⟩
  clear hz62 hz63
  clear hb
  refine ⟨.inr ⟨hst.kn.pick (rg 0 6) (rg 4 10), .inr (hst.kn.pick [] [])⟩, ?_⟩
  refine sAny_oneg (i := 12) (by kernel_rfl) rfl rfl henv rfl rfl rfl (op_call henv rfl Tryz.call9 rfl (is_qy (r := -x) (show ZIn _ A50 c51 (qn (-x)) from hst.pat (k := 3) rfl) (show ZIn _ B52 d53 (ql (-x)) from hst.pat (k := 2) rfl) (show RIn _ A58 c59 (qn (-x)) from hst.pat (k := 1) rfl) (show RIn _ B60 d61 (qd (-x)) from hst.pat (k := 0) rfl) hq56 (by omega)) ?_)
  rintro e w65 ⟨rfl, hb⟩
  refine ⟨_, rfl, ?_⟩
  clear henv a; intro a henv
  replace hst := hst.call hb
  clear hb
  refine ⟨.inr ⟨hst.kn.pick (rg 0 6) (rg 4 10), .inr (hst.kn.pick [] [])⟩, ?_⟩
  refine tAg (i := 13) (rg 14 43) (v := .bool false) rfl (by kernel_rfl) (fun _ _ _ h => h) henv rfl rfl rfl rfl (fun _ => rn_un henv rfl rfl) ?_
  clear henv a; intro a henv
  refine tA (i := 14) (rg 15 42) (v := .bool false) rfl (by kernel_rfl) (fun _ _ _ h => h) henv rfl (fun _ => rn_pick henv rfl rfl) ?_
  clear henv a; intro a henv
  refine tM (i := 15) (rg 16 41) rfl (by kernel_rfl) (fun _ _ _ h => h) henv rfl rfl ?_
  clear henv a; intro a henv
  refine tLg (i := 16) 3 3 [18, 21, 22, 23, 24, 25, 26, 27, 28, 29, 30, 31, 32, 33, 34, 35, 36, 37, 38, 39, 40, 41, 42, 43, 44, 45, 46, 47, 48, 49, 50, 51, 52, 53, 54, 55, 56] rfl (by kernel_rfl) (fun _ _ _ h => h) henv rfl rfl rfl rfl ty_anvil_ratio_Rat rfl hst rfl rfl rfl ?_
  clear henv a; intro a henv
  refine tLg (i := 17) 1 1 [18, 21, 22, 23, 24, 25, 26, 27, 28, 29, 30, 31, 32, 33, 34, 35, 36, 37, 38, 39, 40, 41, 42, 43, 44, 45, 46, 47, 48, 49, 50, 51, 52, 53, 54, 55, 56] rfl (by kernel_rfl) (fun _ _ _ h => h) henv rfl rfl rfl rfl ty_anvil_ratio_Rat rfl hst rfl rfl rfl ?_
  clear henv a; intro a henv
  refine tLg (i := 19) 2 2 (rg 21 36) rfl (by kernel_rfl) (fun _ _ _ h => h) henv rfl rfl rfl rfl ty_anvil_anvilref03_Rat rfl hst rfl rfl rfl ?_
  clear henv a; intro a henv
  refine tLg (i := 20) 0 0 (rg 21 36) rfl (by kernel_rfl) (fun _ _ _ h => h) henv rfl rfl rfl rfl ty_anvil_anvilref03_Rat rfl hst rfl rfl rfl ?_
  clear henv a; intro a henv
  have hq72 : Qs 801 (x + y) := by have h := sx.add sy; exact h
  refine sAny_oneg (i := 18) (by kernel_rfl) rfl rfl henv rfl rfl rfl (op_call henv rfl Tryz.call30 rfl (add_q (x := x) (y := y) (show ZIn _ A9 c10 (qn x) from hst.pat (k := 11) rfl) (show ZIn _ B11 d12 (ql x) from hst.pat (k := 10) rfl) (show ZIn _ A28 c29 (qn y) from hst.pat (k := 7) rfl) (show ZIn _ B30 d31 (ql y) from hst.pat (k := 6) rfl) sx sy (by omega)) ?_)
  rintro e w73 ⟨_, rfl, ⟨A66, c67, B68, d69, rfl, hz70, hz71⟩, hb⟩
  refine ⟨_, rfl, ?_⟩
  clear henv a; intro a henv
  replace hst := ((hst.call hb).addZ hz70 ⟨nou_bk rfl, nou_bk rfl, nou_bk rfl, nou_bk rfl, nou_bk rfl, nou_bk rfl, trivial⟩).addZ hz71 ⟨nou_bk rfl, nou_bk rfl, nou_bk rfl, nou_bk rfl, nou_bk rfl, nou_bk rfl, trivial⟩
  clear hz70 hz71
  clear hb
  refine ⟨.inr ⟨hst.kn.pick (rg 0 6) (rg 6 10), .inr (hst.kn.pick [] [])⟩, ?_⟩
  refine sAny_oneg (i := 21) (by kernel_rfl) rfl rfl henv rfl rfl rfl (op_call henv rfl Tryz.call31 rfl (add_y (x := x) (y := y) (show RIn _ A15 c16 (qn x) from hst.pat (k := 11) rfl) (show RIn _ B17 d18 (qd x) from hst.pat (k := 10) rfl) (show RIn _ A34 c35 (qn y) from hst.pat (k := 7) rfl) (show RIn _ B36 d37 (qd y) from hst.pat (k := 6) rfl) sx sy (by omega)) ?_)
  rintro e w80 ⟨_, rfl, ⟨A74, c75, B76, d77, rfl, hz78, hz79⟩, hb⟩
  refine ⟨_, rfl, ?_⟩
  clear henv a; intro a henv
  replace hst := ((hst.call hb).addR hz78 ⟨nou_bk rfl, nou_bk rfl, nou_bk rfl, nou_bk rfl, nou_bk rfl, nou_bk rfl, trivial⟩).addR hz79 ⟨nou_bk rfl, nou_bk rfl, nou_bk rfl, nou_bk rfl, nou_bk rfl, nou_bk rfl, trivial⟩
  clear hz78 hz79
  clear hb
  refine ⟨.inr ⟨hst.kn.pick (rg 0 6) (rg 8 10), .inr (hst.kn.pick [] [])⟩, ?_⟩
  refine sAny_oneg (i := 22) (by kernel_rfl) rfl rfl henv rfl rfl rfl (op_call henv rfl Tryz.call9 rfl (is_qy (r := x + y) (show ZIn _ A66 c67 (qn (x + y)) from hst.pat (k := 3) rfl) (show ZIn _ B68 d69 (ql (x + y)) from hst.pat (k := 2) rfl) (show RIn _ A74 c75 (qn (x + y)) from hst.pat (k := 1) rfl) (show RIn _ B76 d77 (qd (x + y)) from hst.pat (k := 0) rfl) hq72 (by omega)) ?_)
  rintro e w81 ⟨rfl, hb⟩
  refine ⟨_, rfl, ?_⟩
  clear henv a; intro a henv
  replace hst := hst.call hb
  clear hb
  refine ⟨.inr ⟨hst.kn.pick (rg 0 6) (rg 8 10), .inr (hst.kn.pick [] [])⟩, ?_⟩
  refine tAg (i := 23) (rg 24 33) (v := .bool false) rfl (by kernel_rfl) (fun _ _ _ h => h) henv rfl rfl rfl rfl (fun _ => rn_un henv rfl rfl) ?_
  clear henv a; intro a henv
  refine tA (i := 24) (rg 25 32) (v := .bool false) rfl (by kernel_rfl) (fun _ _ _ h => h) henv rfl (fun _ => rn_pick henv rfl rfl) ?_
  clear henv a; intro a henv
  refine tM (i := 25) (rg 26 31) rfl (by kernel_rfl) (fun _ _ _ h => h) henv rfl rfl ?_
  clear henv a; intro a henv
  refine tLg (i := 26) 3 3 [28, 31, 32, 33, 34, 35, 36, 37, 38, 39, 40, 41, 42, 43, 44, 45, 46, 47, 48, 49, 50, 51, 52, 53, 54, 55, 56] rfl (by kernel_rfl) (fun _ _ _ h => h) henv rfl rfl rfl rfl ty_anvil_ratio_Rat rfl hst rfl rfl rfl ?_
  clear henv a; intro a henv
  refine tLg (i := 27) 1 1 [28, 31, 32, 33, 34, 35, 36, 37, 38, 39, 40, 41, 42, 43, 44, 45, 46, 47, 48, 49, 50, 51, 52, 53, 54, 55, 56] rfl (by kernel_rfl) (fun _ _ _ h => h) henv rfl rfl rfl rfl ty_anvil_ratio_Rat rfl hst rfl rfl rfl ?_
  clear henv a; intro a henv
  refine tLg (i := 29) 2 2 (rg 31 26) rfl (by kernel_rfl) (fun _ _ _ h => h) henv rfl rfl rfl rfl ty_anvil_anvilref03_Rat rfl hst rfl rfl rfl ?_
  clear henv a; intro a henv
  refine tLg (i := 30) 0 0 (rg 31 26) rfl (by kernel_rfl) (fun _ _ _ h => h) henv rfl rfl rfl rfl ty_anvil_anvilref03_Rat rfl hst rfl rfl rfl ?_
  clear henv a; intro a henv
  have hq88 : Qs 801 (x - y) := by have h := sx.sub sy; exact h
  refine sAny_oneg (i := 28) (by kernel_rfl) rfl rfl henv rfl rfl rfl (op_call henv rfl Tryz.call32 rfl (sub_q (x := x) (y := y) (show ZIn _ A9 c10 (qn x) from hst.pat (k := 15) rfl) (show ZIn _ B11 d12 (ql x) from hst.pat (k := 14) rfl) (show ZIn _ A28 c29 (qn y) from hst.pat (k := 11) rfl) (show ZIn _ B30 d31 (ql y) from hst.pat (k := 10) rfl) sx sy (by omega)) ?_)
  rintro e w89 ⟨_, rfl, ⟨A82, c83, B84, d85, rfl, hz86, hz87⟩, hb⟩
  refine ⟨_, rfl, ?_⟩
  clear henv a; intro a henv
  replace hst := ((hst.call hb).addZ hz86 ⟨nou_bk rfl, nou_bk rfl, nou_bk rfl, nou_bk rfl, nou_bk rfl, nou_bk rfl, trivial⟩).addZ hz87 ⟨nou_bk rfl, nou_bk rfl, nou_bk rfl, nou_bk rfl, nou_bk rfl, nou_bk rfl, trivial⟩
  clear hz86 hz87
  clear hb
  refine ⟨.inr ⟨hst.kn.pick (rg 0 6) (rg 10 10), .inr (hst.kn.pick [] [])⟩, ?_⟩
  refine sAny_oneg (i := 31) (by kernel_rfl) rfl rfl henv rfl rfl rfl (op_call henv rfl Tryz.call33 rfl (sub_y (x := x) (y := y) (show RIn _ A15 c16 (qn x) from hst.pat (k := 15) rfl) (show RIn _ B17 d18 (qd x) from hst.pat (k := 14) rfl) (show RIn _ A34 c35 (qn y) from hst.pat (k := 11) rfl) (show RIn _ B36 d37 (qd y) from hst.pat (k := 10) rfl) sx sy (by omega)) ?_)
  rintro e w96 ⟨_, rfl, ⟨A90, c91, B92, d93, rfl, hz94, hz95⟩, hb⟩
  refine ⟨_, rfl, ?_⟩
  clear henv a; intro a henv
  replace hst := ((hst.call hb).addR hz94 ⟨nou_bk rfl, nou_bk rfl, nou_bk rfl, nou_bk rfl, nou_bk rfl, nou_bk rfl, trivial⟩).addR hz95 ⟨nou_bk rfl, nou_bk rfl, nou_bk rfl, nou_bk rfl, nou_bk rfl, nou_bk rfl, trivial⟩
  clear hz94 hz95
  clear hb
  refine ⟨.inr ⟨hst.kn.pick (rg 0 6) (rg 12 10), .inr (hst.kn.pick [] [])⟩, ?_⟩
  refine sAny_oneg (i := 32) (by kernel_rfl) rfl rfl henv rfl rfl rfl (op_call henv rfl Tryz.call9 rfl (is_qy (r := x - y) (show ZIn _ A82 c83 (qn (x - y)) from hst.pat (k := 3) rfl) (show ZIn _ B84 d85 (ql (x - y)) from hst.pat (k := 2) rfl) (show RIn _ A90 c91 (qn (x - y)) from hst.pat (k := 1) rfl) (show RIn _ B92 d93 (qd (x - y)) from hst.pat (k := 0) rfl) hq88 (by omega)) ?_)
  rintro e w97 ⟨rfl, hb⟩
  refine ⟨_, rfl, ?_⟩
  clear henv a; intro a henv
  replace hst := hst.call hb
  clear hb
  refine ⟨.inr ⟨hst.kn.pick (rg 0 6) (rg 12 10), .inr (hst.kn.pick [] [])⟩, ?_⟩
  refine tAg (i := 33) (rg 34 23) (v := .bool false) rfl (by kernel_rfl) (fun _ _ _ h => h) henv rfl rfl rfl rfl (fun _ => rn_un henv rfl rfl) ?_
  clear henv a; intro a henv
  refine tA (i := 34) (rg 35 22) (v := .bool false) rfl (by kernel_rfl) (fun _ _ _ h => h) henv rfl (fun _ => rn_pick henv rfl rfl) ?_
  clear henv a; intro a henv
  refine tM (i := 35) (rg 36 21) rfl (by kernel_rfl) (fun _ _ _ h => h) henv rfl rfl ?_
  clear henv a; intro a henv
  refine tLg (i := 36) 3 3 [38, 41, 42, 43, 44, 45, 46, 47, 48, 49, 50, 51, 52, 53, 54, 55, 56] rfl (by kernel_rfl) (fun _ _ _ h => h) henv rfl rfl rfl rfl ty_anvil_ratio_Rat rfl hst rfl rfl rfl ?_
  clear henv a; intro a henv
  refine tLg (i := 37) 1 1 [38, 41, 42, 43, 44, 45, 46, 47, 48, 49, 50, 51, 52, 53, 54, 55, 56] rfl (by kernel_rfl) (fun _ _ _ h => h) henv rfl rfl rfl rfl ty_anvil_ratio_Rat rfl hst rfl rfl rfl ?_
  clear henv a; intro a henv
  refine tLg (i := 39) 2 2 (rg 41 16) rfl (by kernel_rfl) (fun _ _ _ h => h) henv rfl rfl rfl rfl ty_anvil_anvilref03_Rat rfl hst rfl rfl rfl ?_
  clear henv a; intro a henv
  refine tLg (i := 40) 0 0 (rg 41 16) rfl (by kernel_rfl) (fun _ _ _ h => h) henv rfl rfl rfl rfl ty_anvil_anvilref03_Rat rfl hst rfl rfl rfl ?_
  clear henv a; intro a henv
  have hq104 : Qs 800 (x * y) := by have h := sx.mul sy; exact h
  refine sAny_oneg (i := 38) (by kernel_rfl) rfl rfl henv rfl rfl rfl (op_call henv rfl Tryz.call34 rfl (mul_q (x := x) (y := y) (show ZIn _ A9 c10 (qn x) from hst.pat (k := 19) rfl) (show ZIn _ B11 d12 (ql x) from hst.pat (k := 18) rfl) (show ZIn _ A28 c29 (qn y) from hst.pat (k := 15) rfl) (show ZIn _ B30 d31 (ql y) from hst.pat (k := 14) rfl) sx sy (by omega)) ?_)
  rintro e w105 ⟨_, rfl, ⟨A98, c99, B100, d101, rfl, hz102, hz103⟩, hb⟩
  refine ⟨_, rfl, ?_⟩
  clear henv a; intro a henv
  replace hst := ((hst.call hb).addZ hz102 ⟨nou_bk rfl, nou_bk rfl, nou_bk rfl, nou_bk rfl, nou_bk rfl, nou_bk rfl, trivial⟩).addZ hz103 ⟨nou_bk rfl, nou_bk rfl, nou_bk rfl, nou_bk rfl, nou_bk rfl, nou_bk rfl, trivial⟩
  clear hz102 hz103
  clear hb
  refine ⟨.inr ⟨hst.kn.pick (rg 0 6) (rg 14 10), .inr (hst.kn.pick [] [])⟩, ?_⟩
  refine sAny_oneg (i := 41) (by kernel_rfl) rfl rfl henv rfl rfl rfl (op_call henv rfl Tryz.call35 rfl (mul_y (x := x) (y := y) (show RIn _ A15 c16 (qn x) from hst.pat (k := 19) rfl) (show RIn _ B17 d18 (qd x) from hst.pat (k := 18) rfl) (show RIn _ A34 c35 (qn y) from hst.pat (k := 15) rfl) (show RIn _ B36 d37 (qd y) from hst.pat (k := 14) rfl) sx sy (by omega)) ?_)
  rintro e w112 ⟨_, rfl, ⟨A106, c107, B108, d109, rfl, hz110, hz111⟩, hb⟩
  refine ⟨_, rfl, ?_⟩
  clear henv a; intro a henv
  replace hst := ((hst.call hb).addR hz110 ⟨nou_bk rfl, nou_bk rfl, nou_bk rfl, nou_bk rfl, nou_bk rfl, nou_bk rfl, trivial⟩).addR hz111 ⟨nou_bk rfl, nou_bk rfl, nou_bk rfl, nou_bk rfl, nou_bk rfl, nou_bk rfl, trivial⟩
  clear hz110 hz111
  clear hb
  refine ⟨.inr ⟨hst.kn.pick (rg 0 6) (rg 16 10), .inr (hst.kn.pick [] [])⟩, ?_⟩
  refine sAny_oneg (i := 42) (by kernel_rfl) rfl rfl henv rfl rfl rfl (op_call henv rfl Tryz.call9 rfl (is_qy (r := x * y) (show ZIn _ A98 c99 (qn (x * y)) from hst.pat (k := 3) rfl) (show ZIn _ B100 d101 (ql (x * y)) from hst.pat (k := 2) rfl) (show RIn _ A106 c107 (qn (x * y)) from hst.pat (k := 1) rfl) (show RIn _ B108 d109 (qd (x * y)) from hst.pat (k := 0) rfl) hq104 (by omega)) ?_)
  rintro e w113 ⟨rfl, hb⟩
  refine ⟨_, rfl, ?_⟩
  clear henv a; intro a henv
  replace hst := hst.call hb
  clear hb
  refine ⟨.inr ⟨hst.kn.pick (rg 0 6) (rg 16 10), .inr (hst.kn.pick [] [])⟩, ?_⟩
  refine tAg (i := 43) (rg 44 13) (v := .bool false) rfl (by kernel_rfl) (fun _ _ _ h => h) henv rfl rfl rfl rfl (fun _ => rn_un henv rfl rfl) ?_
  clear henv a; intro a henv
  refine tA (i := 44) (rg 45 12) (v := .bool false) rfl (by kernel_rfl) (fun _ _ _ h => h) henv rfl (fun _ => rn_pick henv rfl rfl) ?_
  clear henv a; intro a henv
  refine tM (i := 45) (rg 46 11) rfl (by kernel_rfl) (fun _ _ _ h => h) henv rfl rfl ?_
  clear henv a; intro a henv
  refine tLg (i := 46) 3 3 (rg 48 9) rfl (by kernel_rfl) (fun _ _ _ h => h) henv rfl rfl rfl rfl ty_anvil_ratio_Rat rfl hst rfl rfl rfl ?_
  clear henv a; intro a henv
  refine tLg (i := 47) 2 2 (rg 48 9) rfl (by kernel_rfl) (fun _ _ _ h => h) henv rfl rfl rfl rfl ty_anvil_anvilref03_Rat rfl hst rfl rfl rfl ?_
  clear henv a; intro a henv
  refine sAny_oneg (i := 48) (by kernel_rfl) rfl rfl henv rfl rfl rfl (op_call henv rfl Tryz.call9 rfl (is_qy (r := x) (show ZIn _ A9 c10 (qn x) from hst.pat (k := 23) rfl) (show ZIn _ B11 d12 (ql x) from hst.pat (k := 22) rfl) (show RIn _ A15 c16 (qn x) from hst.pat (k := 21) rfl) (show RIn _ B17 d18 (qd x) from hst.pat (k := 20) rfl) sx (by omega)) ?_)
  rintro e w114 ⟨rfl, hb⟩
  refine ⟨_, rfl, ?_⟩
  clear henv a; intro a henv
  replace hst := hst.call hb
  clear hb
  refine ⟨.inr ⟨hst.kn.pick (rg 0 6) (rg 16 10), .inr (hst.kn.pick [] [])⟩, ?_⟩
  refine tAg (i := 49) (rg 50 7) (v := .bool false) rfl (by kernel_rfl) (fun _ _ _ h => h) henv rfl rfl rfl rfl (fun _ => rn_un henv rfl rfl) ?_
  clear henv a; intro a henv
  refine tA (i := 50) (rg 51 6) (v := .bool false) rfl (by kernel_rfl) (fun _ _ _ h => h) henv rfl (fun _ => rn_pick henv rfl rfl) ?_
  clear henv a; intro a henv
  refine tM (i := 51) (rg 52 5) rfl (by kernel_rfl) (fun _ _ _ h => h) henv rfl rfl ?_
  clear henv a; intro a henv
  refine tLg (i := 52) 1 1 [54, 55, 56] rfl (by kernel_rfl) (fun _ _ _ h => h) henv rfl rfl rfl rfl ty_anvil_ratio_Rat rfl hst rfl rfl rfl ?_
  clear henv a; intro a henv
  refine tLg (i := 53) 0 0 [54, 55, 56] rfl (by kernel_rfl) (fun _ _ _ h => h) henv rfl rfl rfl rfl ty_anvil_anvilref03_Rat rfl hst rfl rfl rfl ?_
  clear henv a; intro a henv
  refine sAny_oneg (i := 54) (by kernel_rfl) rfl rfl henv rfl rfl rfl (op_call henv rfl Tryz.call9 rfl (is_qy (r := y) (show ZIn _ A28 c29 (qn y) from hst.pat (k := 19) rfl) (show ZIn _ B30 d31 (ql y) from hst.pat (k := 18) rfl) (show RIn _ A34 c35 (qn y) from hst.pat (k := 17) rfl) (show RIn _ B36 d37 (qd y) from hst.pat (k := 16) rfl) sy (by omega)) ?_)
  rintro e w115 ⟨rfl, hb⟩
  refine ⟨_, rfl, ?_⟩
  clear henv a; intro a henv
  replace hst := hst.call hb
  clear hb
  refine ⟨.inr ⟨hst.kn.pick (rg 0 6) (rg 16 10), .inr (hst.kn.pick [] [])⟩, ?_⟩
  refine tAg (i := 55) [56] (v := .bool false) rfl (by kernel_rfl) (fun _ _ _ h => h) henv rfl rfl rfl rfl (fun _ => rn_un henv rfl rfl) ?_
  clear henv a; intro a henv
  refine tA (i := 56) [] (v := .bool false) rfl (by kernel_rfl) (fun _ _ _ h => h) henv rfl (fun _ => rn_pick henv rfl rfl) ?_
  clear henv a; intro a henv
  refine sAny_done (by kernel_rfl) ?_ _
  refine th_n ?_
  refine if_f henv rfl (rfl) ?_
  refine wp_skip ?_
  refine th_n ?_
  refine wp_seq ?_
  refine region_seq ?_
  revert a
  refine sA (v := .agg #[.bool (neg (qn x)), .slice A9 (zl (qn x)) c10, .bool (neg (ql x)), .slice B11 (zl (ql x)) d12]) rfl (fun _ henv => rn_load0 henv ty_anvil_ratio_Rat rfl (hst.oat (k := 3) rfl) rfl) ?_
  refine sA (v := .agg #[.bool (neg (qn y)), .slice A28 (zl (qn y)) c29, .bool (neg (ql y)), .slice B30 (zl (ql y)) d31]) rfl (fun _ henv => rn_load0 henv ty_anvil_ratio_Rat rfl (hst.oat (k := 1) rfl) rfl) ?_
  intro a henv
  have hq122 : Qs 800 (x / y) := by have h := sx.over sy hy0; exact h
  refine seq_step rfl (op_call henv rfl Tryz.call36 rfl (over_q (x := x) (y := y) (show ZIn _ A9 c10 (qn x) from hst.pat (k := 23) rfl) (show ZIn _ B11 d12 (ql x) from hst.pat (k := 22) rfl) (show ZIn _ A28 c29 (qn y) from hst.pat (k := 19) rfl) (show ZIn _ B30 d31 (ql y) from hst.pat (k := 18) rfl) sx sy (by omega) hy0) ?_)
  rintro e w123 ⟨_, rfl, ⟨A116, c117, B118, d119, rfl, hz120, hz121⟩, hb⟩
  refine ⟨_, rfl, ?_⟩
  clear henv a; intro a henv
  replace hst := ((hst.call hb).addZ hz120 ⟨nou_bk rfl, nou_bk rfl, nou_bk rfl, nou_bk rfl, nou_bk rfl, nou_bk rfl, trivial⟩).addZ hz121 ⟨nou_bk rfl, nou_bk rfl, nou_bk rfl, nou_bk rfl, nou_bk rfl, nou_bk rfl, trivial⟩
  clear hz120 hz121
  clear hb
  revert a
  refine mA rfl rfl ?_
  refine sA (v := .agg #[.bool (neg (qn (x / y))), .slice A116 (zl (qn (x / y))) c117, .bool (neg (ql (x / y))), .slice B118 (zl (ql (x / y))) d119]) rfl (fun _ henv => rn_extract henv rfl rfl) ?_
  refine sA (v := .int .i64 0) rfl (fun _ henv => rn_extract henv rfl rfl) ?_
  intro a henv
  refine seq_step rfl (op_alloc (c := #[.bool (neg (qn 0)), .slice none (zl (qn 0)) 0, .bool (neg (ql 0)), .slice none (zl (ql 0)) 0]) henv hst rfl zero_anvil_ratio_Rat qcells ?_)
  clear henv hst a; intro a w125 g124 henv hst
  refine seq_step rfl (op_store (k := 0) (c' := #[.bool (neg (qn (x / y))), .slice A116 (zl (qn (x / y))) c117, .bool (neg (ql (x / y))), .slice B118 (zl (ql (x / y))) d119]) henv hst (ty_anvil_ratio_Rat.size) rfl rfl rfl rfl (by simp) rfl rfl ?_)
  clear henv hst a; intro a w126 henv hst
  refine sv (v := .int .i64 0) henv rfl (rn_assign henv rfl) ?_
  clear henv a; intro a henv
  refine wpList_nil ?_
  refine th_n ?_
  refine wp_seq ?_
  refine wp_seq ?_
  refine region_seq ?_
  refine sv (v := .agg #[.bool (neg (qn y)), .slice A34 (dl (qn y)) c35, .bool (neg (qd y)), .slice B36 (dl (qd y)) d37]) henv rfl (rn_load0 henv ty_anvil_anvilref03_Rat rfl (hst.oat (k := 1) rfl) rfl) ?_
  clear henv a; intro a henv
  refine seq_step rfl (op_call henv rfl Tryz.call16 rfl (sign_y (x := y) (show RIn _ A34 c35 (qn y) from hst.pat (k := 19) rfl) (show RIn _ B36 d37 (qd y) from hst.pat (k := 18) rfl)) ?_)
  rintro e w127 ⟨rfl, hb⟩
  refine ⟨_, rfl, ?_⟩
  clear henv a; intro a henv
  replace hst := hst.call hb
  clear hb
  refine sv (v := .bool ((qn y).sign == (0 : Int))) henv rfl (rn_bin henv rfl rfl rfl) ?_
  clear henv a; intro a henv
  rw [show ((qn y).sign == (0 : Int)) = false from (beq_eq_false_iff_ne.2 fun e => hy0 (qn_eq0.1 (Int.sign_eq_zero_iff_zero.1 e)))] at henv
  refine wpList_nil ?_
  refine th_n ?_
  refine if_f henv rfl (rfl) ?_
  refine wp_skip ?_
  refine th_n ?_
  refine wp_seq ?_
  refine region_any (n := 10) (Sk [bk g124 #[.bool (neg (qn (x / y))), .slice A116 (zl (qn (x / y))) c117, .bool (neg (ql (x / y))), .slice B118 (zl (ql (x / y))) d119] 34, bk g43 #[.bool (neg (qn y)), .slice A34 (dl (qn y)) c35, .bool (neg (qd y)), .slice B36 (dl (qd y)) d37] 41, bk g41 #[.bool (neg (qn y)), .slice A28 (zl (qn y)) c29, .bool (neg (ql y)), .slice B30 (zl (ql y)) d31] 34, bk g24 #[.bool (neg (qn x)), .slice A15 (dl (qn x)) c16, .bool (neg (qd x)), .slice B17 (dl (qd x)) d18] 41, bk g22 #[.bool (neg (qn x)), .slice A9 (zl (qn x)) c10, .bool (neg (ql x)), .slice B11 (zl (ql x)) d12] 34, bk g3 #[.string ⟨s2.toArray⟩, .string ⟨t2.toArray⟩] 23, bk g1 #[.string ⟨s.toArray⟩, .string ⟨t.toArray⟩] 23] [pfZ B118 d119 (ql (x / y)), pfZ A116 c117 (qn (x / y)), pfR B108 d109 (qd (x * y)), pfR A106 c107 (qn (x * y)), pfZ B100 d101 (ql (x * y)), pfZ A98 c99 (qn (x * y)), pfR B92 d93 (qd (x - y)), pfR A90 c91 (qn (x - y)), pfZ B84 d85 (ql (x - y)), pfZ A82 c83 (qn (x - y)), pfR B76 d77 (qd (x + y)), pfR A74 c75 (qn (x + y)), pfZ B68 d69 (ql (x + y)), pfZ A66 c67 (qn (x + y)), pfR B60 d61 (qd (-x)), pfR A58 c59 (qn (-x)), pfZ B52 d53 (ql (-x)), pfZ A50 c51 (qn (-x)), pfR B36 d37 (qd y), pfR A34 c35 (qn y), pfZ B30 d31 (ql y), pfZ A28 c29 (qn y), pfR B17 d18 (qd x), pfR A15 c16 (qn x), pfZ B11 d12 (ql x), pfZ A9 c10 (qn x), pfRow fF FF 2 (some ⟨g6, 0, none⟩) 2 2 ([(s, t), (s2, t2)]), pfRd 2 (some ⟨g6, 0, none⟩) 2 2 (fl fF [(s, t), (s2, t2)])] [] []) mixed rfl henv hst ?_
  clear henv hst; intro w128 henv hst
  refine tM (i := 0) (rg 1 9) rfl (by kernel_rfl) (fun _ _ _ h => h) henv rfl rfl ?_
  clear henv a; intro a henv
  refine tA (i := 1) (rg 2 8) (v := .bool true) rfl (by kernel_rfl) (fun _ _ _ h => h) henv rfl (fun _ => rn_bin henv rfl rfl rfl) ?_
  clear henv a; intro a henv
  refine tM (i := 2) (rg 3 7) rfl (by kernel_rfl) (fun _ _ _ h => h) henv rfl rfl ?_
  clear henv a; intro a henv
  refine tLg (i := 3) 0 0 [7, 8, 9] rfl (by kernel_rfl) (fun _ _ _ h => h) henv rfl rfl rfl rfl ty_anvil_ratio_Rat rfl hst rfl rfl rfl ?_
  clear henv a; intro a henv
  refine tLg (i := 4) 3 3 (rg 6 4) rfl (by kernel_rfl) (fun _ _ _ h => h) henv rfl rfl rfl rfl ty_anvil_anvilref03_Rat rfl hst rfl rfl rfl ?_
  clear henv a; intro a henv
  refine tLg (i := 5) 1 1 (rg 6 4) rfl (by kernel_rfl) (fun _ _ _ h => h) henv rfl rfl rfl rfl ty_anvil_anvilref03_Rat rfl hst rfl rfl rfl ?_
  clear henv a; intro a henv
  refine sAny_oneg (i := 6) (by kernel_rfl) rfl rfl henv rfl rfl rfl (op_call henv rfl Tryz.call37 rfl (over_y (x := x) (y := y) (show RIn _ A15 c16 (qn x) from hst.pat (k := 23) rfl) (show RIn _ B17 d18 (qd x) from hst.pat (k := 22) rfl) (show RIn _ A34 c35 (qn y) from hst.pat (k := 19) rfl) (show RIn _ B36 d37 (qd y) from hst.pat (k := 18) rfl) sx sy (by omega) hy0) ?_)
  rintro e w135 ⟨_, rfl, ⟨A129, c130, B131, d132, rfl, hz133, hz134⟩, hb⟩
  refine ⟨_, rfl, ?_⟩
  clear henv a; intro a henv
  replace hst := ((hst.call hb).addR hz133 ⟨nou_bk rfl, nou_bk rfl, nou_bk rfl, nou_bk rfl, nou_bk rfl, nou_bk rfl, nou_bk rfl, trivial⟩).addR hz134 ⟨nou_bk rfl, nou_bk rfl, nou_bk rfl, nou_bk rfl, nou_bk rfl, nou_bk rfl, nou_bk rfl, trivial⟩
  clear hz133 hz134
  clear hb
  refine ⟨.inr ⟨hst.kn.pick (rg 0 7) (rg 2 28), .inr (hst.kn.pick [] [])⟩, ?_⟩
  refine sAny_oneg (i := 7) (by kernel_rfl) rfl rfl henv rfl rfl rfl (op_call henv rfl Tryz.call9 rfl (is_qy (r := x / y) (show ZIn _ A116 c117 (qn (x / y)) from hst.pat (k := 3) rfl) (show ZIn _ B118 d119 (ql (x / y)) from hst.pat (k := 2) rfl) (show RIn _ A129 c130 (qn (x / y)) from hst.pat (k := 1) rfl) (show RIn _ B131 d132 (qd (x / y)) from hst.pat (k := 0) rfl) hq122 (by omega)) ?_)
  rintro e w136 ⟨rfl, hb⟩
  refine ⟨_, rfl, ?_⟩
  clear henv a; intro a henv
  replace hst := hst.call hb
  clear hb
  refine ⟨.inr ⟨hst.kn.pick (rg 0 7) (rg 2 28), .inr (hst.kn.pick [] [])⟩, ?_⟩
  refine tA (i := 8) [9] (v := .bool true) rfl (by kernel_rfl) (fun _ _ _ h => h) henv rfl (fun _ => rn_pick henv rfl rfl) ?_
  clear henv a; intro a henv
  refine tA (i := 9) [] (v := .bool true) rfl (by kernel_rfl) (fun _ _ _ h => h) henv rfl (fun _ => rn_assign henv rfl) ?_
  clear henv a; intro a henv
  refine sAny_done (by kernel_rfl) ?_ _
  refine th_n ?_
  refine wp_ret ?_
  refine leave henv (res1 Tryz.results4 (RV.tmp henv rfl)) ?_
  exact ⟨rfl, hst.below⟩
set_option maxRecDepth 100000 in
set_option maxHeartbeats 8000000 in
theorem qreck_nn {s t s2 t2 : List UInt8} {w0 : World} (l1 : ¬ Lg (s, t)) (l2 : ¬ Lg (s2, t2)) (f1 : RatNo s t) (f2 : RatNo s2 t2) :
    Calls Tryz.prog 4 #[.agg #[.string ⟨s.toArray⟩, .string ⟨t.toArray⟩], .agg #[.string ⟨s2.toArray⟩, .string ⟨t2.toArray⟩]] w0 fun e w' => e = .returned (.bool true) ∧ Below w0.heap.size w0 w' := by
  refine enter Tryz.func4 rfl Tryz.ntmps4 rfl ?_
  intro a henv hst
  refine wp_seq ?_
  refine region_seq ?_
  refine seq_step rfl (op_box (c := #[.string ⟨s.toArray⟩, .string ⟨t.toArray⟩]) henv hst rfl rfl rfl ?_)
  clear henv hst a; intro a w2 g1 henv hst
  refine seq_step rfl (op_box (c := #[.string ⟨s2.toArray⟩, .string ⟨t2.toArray⟩]) henv hst rfl rfl rfl ?_)
  clear henv hst a; intro a w4 g3 henv hst
  refine sv (v := .bool false) henv rfl (rn_assign henv rfl) ?_
  clear henv a; intro a henv
  refine wpList_nil ?_
  refine th_n ?_
  refine wp_seq ?_
  refine wp_seq ?_
  refine region_seq ?_
  refine seq_step rfl (op_call henv rfl Tryz.call5 rfl (qworks) ?_)
  rintro e w5 ⟨rfl, hb⟩
  refine ⟨_, rfl, ?_⟩
  clear henv a; intro a henv
  replace hst := hst.call hb
  clear hb
  refine sv (v := .bool false) henv rfl (rn_un henv rfl rfl) ?_
  clear henv a; intro a henv
  refine wpList_nil ?_
  refine th_n ?_
  refine if_f henv rfl (rfl) ?_
  refine wp_skip ?_
  refine th_n ?_
  refine wp_seq ?_
  refine wp_seq ?_
  refine region_seq ?_
  revert a
  refine sA (v := .agg #[.string ⟨s.toArray⟩, .string ⟨t.toArray⟩]) rfl (fun _ henv => rn_load0 henv ty_anvil_anvillaw03_Frac rfl (hst.oat (k := 1) rfl) rfl) ?_
  refine sA (v := .agg #[.string ⟨s2.toArray⟩, .string ⟨t2.toArray⟩]) rfl (fun _ henv => rn_load0 henv ty_anvil_anvillaw03_Frac rfl (hst.oat (k := 0) rfl) rfl) ?_
  intro a henv
  refine seq_step rfl (op_buildSlice (z := 2) (pv := #[(0, .agg #[.string ⟨s.toArray⟩, .string ⟨t.toArray⟩]), (1, .agg #[.string ⟨s2.toArray⟩, .string ⟨t2.toArray⟩])]) (c := #[.string ⟨s.toArray⟩, .string ⟨t.toArray⟩, .string ⟨s2.toArray⟩, .string ⟨t2.toArray⟩]) henv hst rfl Tryz.underlying66 (ty_anvil_anvillaw03_Frac.size) zero_anvil_anvillaw03_Frac (by decide) (by decide) rfl (by kernel_rfl) ?_)
  clear henv hst a; intro a w7 g6 henv hst
  replace hst := hst.giveBk (f := fF) (F := FF) (k := 0) (n := 2) (es := [(s, t), (s2, t2)]) rfl rfl fF_len rfl (by decide) (esT_P (fun _ => rfl) _ _) (fun _ _ _ _ => esT_foot (fun _ => rfl))
  refine seq_step rfl (op_call henv rfl Tryz.call6 rfl (qlong_no (hst.pat (k := 0) rfl) (by decide) (by intro e he; simp at he; rcases he with rfl | rfl; exact l1; exact l2)) ?_)
  rintro e w8 ⟨rfl, hb⟩
  refine ⟨_, rfl, ?_⟩
  clear henv a; intro a henv
  replace hst := hst.call hb
  clear hb
  refine wpList_nil ?_
  refine th_n ?_
  refine if_f henv rfl (rfl) ?_
  refine wp_skip ?_
  refine th_n ?_
  refine wp_seq ?_
  refine region_seq ?_
  refine sv (v := .agg #[.string ⟨s.toArray⟩, .string ⟨t.toArray⟩]) henv rfl (rn_load0 henv ty_anvil_anvillaw03_Frac rfl (hst.oat (k := 1) rfl) rfl) ?_
  clear henv a; intro a henv
  refine seq_step rfl (op_call henv rfl Tryz.call25 rfl (f1 _) ?_)
  rintro e w9 ⟨rfl, hb⟩
  refine ⟨_, rfl, ?_⟩
  clear henv a; intro a henv
  replace hst := hst.call hb
  clear hb
  revert a
  refine mA rfl rfl ?_
  refine sA (v := .agg #[.bool (neg (qn 0)), .slice none (zl (qn 0)) 0, .bool (neg (ql 0)), .slice none (zl (ql 0)) 0]) rfl (fun _ henv => rn_extract henv rfl rfl) ?_
  refine sA (v := .agg #[.bool (neg 0), .slice none (dl 0) 0, .bool (neg 0), .slice none (dl 0) 0]) rfl (fun _ henv => rn_extract henv rfl rfl) ?_
  refine sA (v := .bool false) rfl (fun _ henv => rn_extract henv rfl rfl) ?_
  intro a henv
  refine seq_step rfl (op_alloc (c := #[.bool (neg (qn 0)), .slice none (zl (qn 0)) 0, .bool (neg (ql 0)), .slice none (zl (ql 0)) 0]) henv hst rfl zero_anvil_ratio_Rat qcells ?_)
  clear henv hst a; intro a w11 g10 henv hst
  refine seq_step rfl (op_alloc (c := #[.bool false, .slice none 0 0, .bool false, .slice none 0 0]) henv hst rfl zero_anvil_anvilref03_Rat rfl ?_)
  clear henv hst a; intro a w13 g12 henv hst
  refine seq_step rfl (op_store (k := 1) (c' := #[.bool (neg (qn 0)), .slice none (zl (qn 0)) 0, .bool (neg (ql 0)), .slice none (zl (ql 0)) 0]) henv hst (ty_anvil_ratio_Rat.size) rfl rfl rfl rfl (by simp) rfl rfl ?_)
  clear henv hst a; intro a w14 henv hst
  refine seq_step rfl (op_store (k := 0) (c' := #[.bool (neg 0), .slice none (dl 0) 0, .bool (neg 0), .slice none (dl 0) 0]) henv hst (ty_anvil_anvilref03_Rat.size) rfl rfl rfl rfl (by simp) rfl rfl ?_)
  clear henv hst a; intro a w15 henv hst
  refine sv (v := .bool false) henv rfl (rn_assign henv rfl) ?_
  clear henv a; intro a henv
  refine wpList_nil ?_
  refine th_n ?_
  refine wp_seq ?_
  refine region_seq ?_
  refine sv (v := .agg #[.string ⟨s2.toArray⟩, .string ⟨t2.toArray⟩]) henv rfl (rn_load0 henv ty_anvil_anvillaw03_Frac rfl (hst.oat (k := 2) rfl) rfl) ?_
  clear henv a; intro a henv
  refine seq_step rfl (op_call henv rfl Tryz.call25 rfl (f2 _) ?_)
  rintro e w16 ⟨rfl, hb⟩
  refine ⟨_, rfl, ?_⟩
  clear henv a; intro a henv
  replace hst := hst.call hb
  clear hb
  revert a
  refine mA rfl rfl ?_
  refine sA (v := .agg #[.bool (neg (qn 0)), .slice none (zl (qn 0)) 0, .bool (neg (ql 0)), .slice none (zl (ql 0)) 0]) rfl (fun _ henv => rn_extract henv rfl rfl) ?_
  refine sA (v := .agg #[.bool (neg 0), .slice none (dl 0) 0, .bool (neg 0), .slice none (dl 0) 0]) rfl (fun _ henv => rn_extract henv rfl rfl) ?_
  refine sA (v := .bool false) rfl (fun _ henv => rn_extract henv rfl rfl) ?_
  intro a henv
  refine seq_step rfl (op_alloc (c := #[.bool (neg (qn 0)), .slice none (zl (qn 0)) 0, .bool (neg (ql 0)), .slice none (zl (ql 0)) 0]) henv hst rfl zero_anvil_ratio_Rat qcells ?_)
  clear henv hst a; intro a w18 g17 henv hst
  refine seq_step rfl (op_alloc (c := #[.bool false, .slice none 0 0, .bool false, .slice none 0 0]) henv hst rfl zero_anvil_anvilref03_Rat rfl ?_)
  clear henv hst a; intro a w20 g19 henv hst
  refine seq_step rfl (op_store (k := 1) (c' := #[.bool (neg (qn 0)), .slice none (zl (qn 0)) 0, .bool (neg (ql 0)), .slice none (zl (ql 0)) 0]) henv hst (ty_anvil_ratio_Rat.size) rfl rfl rfl rfl (by simp) rfl rfl ?_)
  clear henv hst a; intro a w21 henv hst
  refine seq_step rfl (op_store (k := 0) (c' := #[.bool (neg 0), .slice none (dl 0) 0, .bool (neg 0), .slice none (dl 0) 0]) henv hst (ty_anvil_anvilref03_Rat.size) rfl rfl rfl rfl (by simp) rfl rfl ?_)
  clear henv hst a; intro a w22 henv hst
  refine sv (v := .bool false) henv rfl (rn_assign henv rfl) ?_
  clear henv a; intro a henv
  refine wpList_nil ?_
  refine th_n ?_
  refine wp_seq ?_
  refine wp_seq ?_
  refine region_seq ?_
  revert a
  refine mA rfl rfl ?_
  refine sA (v := .bool true) rfl (fun _ henv => rn_un henv rfl rfl) ?_
  refine mA rfl rfl ?_
  refine kA rfl rfl rfl rfl rfl ?_
  refine kA rfl rfl rfl rfl rfl ?_
  refine sA (v := .bool true) rfl (fun _ henv => rn_pick henv rfl rfl) ?_
  intro a henv
  refine wpList_nil ?_
  refine th_n ?_
  refine if_t henv rfl (rfl) ?_
  refine wp_seq ?_
  refine region_seq ?_
  refine sv (v := .bool true) henv rfl (rn_assign henv rfl) ?_
  clear henv a; intro a henv
  refine wpList_nil ?_
  refine th_n ?_
  refine wp_ret ?_
  refine th_r ?_
  refine leave henv (res1 Tryz.results4 (RV.tmp henv rfl)) ?_
  exact ⟨rfl, hst.below⟩
set_option maxRecDepth 100000 in
set_option maxHeartbeats 8000000 in
theorem qreck_no {y : Rat} {s t s2 t2 : List UInt8} {w0 : World} (l1 : ¬ Lg (s, t)) (l2 : ¬ Lg (s2, t2)) (f1 : RatNo s t) (f2 : RatAs s2 t2 y) :
    Calls Tryz.prog 4 #[.agg #[.string ⟨s.toArray⟩, .string ⟨t.toArray⟩], .agg #[.string ⟨s2.toArray⟩, .string ⟨t2.toArray⟩]] w0 fun e w' => e = .returned (.bool true) ∧ Below w0.heap.size w0 w' := by
  refine enter Tryz.func4 rfl Tryz.ntmps4 rfl ?_
  intro a henv hst
  refine wp_seq ?_
  refine region_seq ?_
  refine seq_step rfl (op_box (c := #[.string ⟨s.toArray⟩, .string ⟨t.toArray⟩]) henv hst rfl rfl rfl ?_)
  clear henv hst a; intro a w2 g1 henv hst
  refine seq_step rfl (op_box (c := #[.string ⟨s2.toArray⟩, .string ⟨t2.toArray⟩]) henv hst rfl rfl rfl ?_)
  clear henv hst a; intro a w4 g3 henv hst
  refine sv (v := .bool false) henv rfl (rn_assign henv rfl) ?_
  clear henv a; intro a henv
  refine wpList_nil ?_
  refine th_n ?_
  refine wp_seq ?_
  refine wp_seq ?_
  refine region_seq ?_
  refine seq_step rfl (op_call henv rfl Tryz.call5 rfl (qworks) ?_)
  rintro e w5 ⟨rfl, hb⟩
  refine ⟨_, rfl, ?_⟩
  clear henv a; intro a henv
  replace hst := hst.call hb
  clear hb
  refine sv (v := .bool false) henv rfl (rn_un henv rfl rfl) ?_
  clear henv a; intro a henv
  refine wpList_nil ?_
  refine th_n ?_
  refine if_f henv rfl (rfl) ?_
  refine wp_skip ?_
  refine th_n ?_
  refine wp_seq ?_
  refine wp_seq ?_
  refine region_seq ?_
  revert a
  refine sA (v := .agg #[.string ⟨s.toArray⟩, .string ⟨t.toArray⟩]) rfl (fun _ henv => rn_load0 henv ty_anvil_anvillaw03_Frac rfl (hst.oat (k := 1) rfl) rfl) ?_
  refine sA (v := .agg #[.string ⟨s2.toArray⟩, .string ⟨t2.toArray⟩]) rfl (fun _ henv => rn_load0 henv ty_anvil_anvillaw03_Frac rfl (hst.oat (k := 0) rfl) rfl) ?_
  intro a henv
  refine seq_step rfl (op_buildSlice (z := 2) (pv := #[(0, .agg #[.string ⟨s.toArray⟩, .string ⟨t.toArray⟩]), (1, .agg #[.string ⟨s2.toArray⟩, .string ⟨t2.toArray⟩])]) (c := #[.string ⟨s.toArray⟩, .string ⟨t.toArray⟩, .string ⟨s2.toArray⟩, .string ⟨t2.toArray⟩]) henv hst rfl Tryz.underlying66 (ty_anvil_anvillaw03_Frac.size) zero_anvil_anvillaw03_Frac (by decide) (by decide) rfl (by kernel_rfl) ?_)
  clear henv hst a; intro a w7 g6 henv hst
  replace hst := hst.giveBk (f := fF) (F := FF) (k := 0) (n := 2) (es := [(s, t), (s2, t2)]) rfl rfl fF_len rfl (by decide) (esT_P (fun _ => rfl) _ _) (fun _ _ _ _ => esT_foot (fun _ => rfl))
  refine seq_step rfl (op_call henv rfl Tryz.call6 rfl (qlong_no (hst.pat (k := 0) rfl) (by decide) (by intro e he; simp at he; rcases he with rfl | rfl; exact l1; exact l2)) ?_)
  rintro e w8 ⟨rfl, hb⟩
  refine ⟨_, rfl, ?_⟩
  clear henv a; intro a henv
  replace hst := hst.call hb
  clear hb
  refine wpList_nil ?_
  refine th_n ?_
  refine if_f henv rfl (rfl) ?_
  refine wp_skip ?_
  refine th_n ?_
  refine wp_seq ?_
  refine region_seq ?_
  refine sv (v := .agg #[.string ⟨s.toArray⟩, .string ⟨t.toArray⟩]) henv rfl (rn_load0 henv ty_anvil_anvillaw03_Frac rfl (hst.oat (k := 1) rfl) rfl) ?_
  clear henv a; intro a henv
  refine seq_step rfl (op_call henv rfl Tryz.call25 rfl (f1 _) ?_)
  rintro e w9 ⟨rfl, hb⟩
  refine ⟨_, rfl, ?_⟩
  clear henv a; intro a henv
  replace hst := hst.call hb
  clear hb
  revert a
  refine mA rfl rfl ?_
  refine sA (v := .agg #[.bool (neg (qn 0)), .slice none (zl (qn 0)) 0, .bool (neg (ql 0)), .slice none (zl (ql 0)) 0]) rfl (fun _ henv => rn_extract henv rfl rfl) ?_
  refine sA (v := .agg #[.bool (neg 0), .slice none (dl 0) 0, .bool (neg 0), .slice none (dl 0) 0]) rfl (fun _ henv => rn_extract henv rfl rfl) ?_
  refine sA (v := .bool false) rfl (fun _ henv => rn_extract henv rfl rfl) ?_
  intro a henv
  refine seq_step rfl (op_alloc (c := #[.bool (neg (qn 0)), .slice none (zl (qn 0)) 0, .bool (neg (ql 0)), .slice none (zl (ql 0)) 0]) henv hst rfl zero_anvil_ratio_Rat qcells ?_)
  clear henv hst a; intro a w11 g10 henv hst
  refine seq_step rfl (op_alloc (c := #[.bool false, .slice none 0 0, .bool false, .slice none 0 0]) henv hst rfl zero_anvil_anvilref03_Rat rfl ?_)
  clear henv hst a; intro a w13 g12 henv hst
  refine seq_step rfl (op_store (k := 1) (c' := #[.bool (neg (qn 0)), .slice none (zl (qn 0)) 0, .bool (neg (ql 0)), .slice none (zl (ql 0)) 0]) henv hst (ty_anvil_ratio_Rat.size) rfl rfl rfl rfl (by simp) rfl rfl ?_)
  clear henv hst a; intro a w14 henv hst
  refine seq_step rfl (op_store (k := 0) (c' := #[.bool (neg 0), .slice none (dl 0) 0, .bool (neg 0), .slice none (dl 0) 0]) henv hst (ty_anvil_anvilref03_Rat.size) rfl rfl rfl rfl (by simp) rfl rfl ?_)
  clear henv hst a; intro a w15 henv hst
  refine sv (v := .bool false) henv rfl (rn_assign henv rfl) ?_
  clear henv a; intro a henv
  refine wpList_nil ?_
  refine th_n ?_
  refine wp_seq ?_
  refine region_seq ?_
  refine sv (v := .agg #[.string ⟨s2.toArray⟩, .string ⟨t2.toArray⟩]) henv rfl (rn_load0 henv ty_anvil_anvillaw03_Frac rfl (hst.oat (k := 2) rfl) rfl) ?_
  clear henv a; intro a henv
  refine seq_step rfl (op_call henv rfl Tryz.call25 rfl (f2 _) ?_)
  rintro e w28 ⟨⟨_, _, rfl, ⟨A16, c17, B18, d19, rfl, hz20, hz21⟩, ⟨A22, c23, B24, d25, rfl, hz26, hz27⟩⟩, hb⟩
  refine ⟨_, rfl, ?_⟩
  clear henv a; intro a henv
  replace hst := ((((hst.call hb).addZ hz20 ⟨nou_bk rfl, nou_bk rfl, nou_bk rfl, nou_bk rfl, trivial⟩).addZ hz21 ⟨nou_bk rfl, nou_bk rfl, nou_bk rfl, nou_bk rfl, trivial⟩).addR hz26 ⟨nou_bk rfl, nou_bk rfl, nou_bk rfl, nou_bk rfl, trivial⟩).addR hz27 ⟨nou_bk rfl, nou_bk rfl, nou_bk rfl, nou_bk rfl, trivial⟩
  clear hz20 hz21 hz26 hz27
  clear hb
  revert a
  refine mA rfl rfl ?_
  refine sA (v := .agg #[.bool (neg (qn y)), .slice A16 (zl (qn y)) c17, .bool (neg (ql y)), .slice B18 (zl (ql y)) d19]) rfl (fun _ henv => rn_extract henv rfl rfl) ?_
  refine sA (v := .agg #[.bool (neg (qn y)), .slice A22 (dl (qn y)) c23, .bool (neg (qd y)), .slice B24 (dl (qd y)) d25]) rfl (fun _ henv => rn_extract henv rfl rfl) ?_
  refine sA (v := .bool true) rfl (fun _ henv => rn_extract henv rfl rfl) ?_
  intro a henv
  refine seq_step rfl (op_alloc (c := #[.bool (neg (qn 0)), .slice none (zl (qn 0)) 0, .bool (neg (ql 0)), .slice none (zl (ql 0)) 0]) henv hst rfl zero_anvil_ratio_Rat qcells ?_)
  clear henv hst a; intro a w30 g29 henv hst
  refine seq_step rfl (op_alloc (c := #[.bool false, .slice none 0 0, .bool false, .slice none 0 0]) henv hst rfl zero_anvil_anvilref03_Rat rfl ?_)
  clear henv hst a; intro a w32 g31 henv hst
  refine seq_step rfl (op_store (k := 1) (c' := #[.bool (neg (qn y)), .slice A16 (zl (qn y)) c17, .bool (neg (ql y)), .slice B18 (zl (ql y)) d19]) henv hst (ty_anvil_ratio_Rat.size) rfl rfl rfl rfl (by simp) rfl rfl ?_)
  clear henv hst a; intro a w33 henv hst
  refine seq_step rfl (op_store (k := 0) (c' := #[.bool (neg (qn y)), .slice A22 (dl (qn y)) c23, .bool (neg (qd y)), .slice B24 (dl (qd y)) d25]) henv hst (ty_anvil_anvilref03_Rat.size) rfl rfl rfl rfl (by simp) rfl rfl ?_)
  clear henv hst a; intro a w34 henv hst
  refine sv (v := .bool true) henv rfl (rn_assign henv rfl) ?_
  clear henv a; intro a henv
  refine wpList_nil ?_
  refine th_n ?_
  refine wp_seq ?_
  refine wp_seq ?_
  refine region_seq ?_
  revert a
  refine mA rfl rfl ?_
  refine sA (v := .bool true) rfl (fun _ henv => rn_un henv rfl rfl) ?_
  refine mA rfl rfl ?_
  refine kA rfl rfl rfl rfl rfl ?_
  refine kA rfl rfl rfl rfl rfl ?_
  refine sA (v := .bool true) rfl (fun _ henv => rn_pick henv rfl rfl) ?_
  intro a henv
  refine wpList_nil ?_
  refine th_n ?_
  refine if_t henv rfl (rfl) ?_
  refine wp_seq ?_
  refine region_seq ?_
  refine sv (v := .bool true) henv rfl (rn_assign henv rfl) ?_
  clear henv a; intro a henv
  refine wpList_nil ?_
  refine th_n ?_
  refine wp_ret ?_
  refine th_r ?_
  refine leave henv (res1 Tryz.results4 (RV.tmp henv rfl)) ?_
  exact ⟨rfl, hst.below⟩
set_option maxRecDepth 100000 in
set_option maxHeartbeats 8000000 in
theorem qreck_on {x : Rat} {s t s2 t2 : List UInt8} {w0 : World} (l1 : ¬ Lg (s, t)) (l2 : ¬ Lg (s2, t2)) (f1 : RatAs s t x) (f2 : RatNo s2 t2) :
    Calls Tryz.prog 4 #[.agg #[.string ⟨s.toArray⟩, .string ⟨t.toArray⟩], .agg #[.string ⟨s2.toArray⟩, .string ⟨t2.toArray⟩]] w0 fun e w' => e = .returned (.bool true) ∧ Below w0.heap.size w0 w' := by
  refine enter Tryz.func4 rfl Tryz.ntmps4 rfl ?_
  intro a henv hst
  refine wp_seq ?_
  refine region_seq ?_
  refine seq_step rfl (op_box (c := #[.string ⟨s.toArray⟩, .string ⟨t.toArray⟩]) henv hst rfl rfl rfl ?_)
  clear henv hst a; intro a w2 g1 henv hst
  refine seq_step rfl (op_box (c := #[.string ⟨s2.toArray⟩, .string ⟨t2.toArray⟩]) henv hst rfl rfl rfl ?_)
  clear henv hst a; intro a w4 g3 henv hst
  refine sv (v := .bool false) henv rfl (rn_assign henv rfl) ?_
  clear henv a; intro a henv
  refine wpList_nil ?_
  refine th_n ?_
  refine wp_seq ?_
  refine wp_seq ?_
  refine region_seq ?_
  refine seq_step rfl (op_call henv rfl Tryz.call5 rfl (qworks) ?_)
  rintro e w5 ⟨rfl, hb⟩
  refine ⟨_, rfl, ?_⟩
  clear henv a; intro a henv
  replace hst := hst.call hb
  clear hb
  refine sv (v := .bool false) henv rfl (rn_un henv rfl rfl) ?_
  clear henv a; intro a henv
  refine wpList_nil ?_
  refine th_n ?_
  refine if_f henv rfl (rfl) ?_
  refine wp_skip ?_
  refine th_n ?_
  refine wp_seq ?_
  refine wp_seq ?_
  refine region_seq ?_
  revert a
  refine sA (v := .agg #[.string ⟨s.toArray⟩, .string ⟨t.toArray⟩]) rfl (fun _ henv => rn_load0 henv ty_anvil_anvillaw03_Frac rfl (hst.oat (k := 1) rfl) rfl) ?_
  refine sA (v := .agg #[.string ⟨s2.toArray⟩, .string ⟨t2.toArray⟩]) rfl (fun _ henv => rn_load0 henv ty_anvil_anvillaw03_Frac rfl (hst.oat (k := 0) rfl) rfl) ?_
  intro a henv
  refine seq_step rfl (op_buildSlice (z := 2) (pv := #[(0, .agg #[.string ⟨s.toArray⟩, .string ⟨t.toArray⟩]), (1, .agg #[.string ⟨s2.toArray⟩, .string ⟨t2.toArray⟩])]) (c := #[.string ⟨s.toArray⟩, .string ⟨t.toArray⟩, .string ⟨s2.toArray⟩, .string ⟨t2.toArray⟩]) henv hst rfl Tryz.underlying66 (ty_anvil_anvillaw03_Frac.size) zero_anvil_anvillaw03_Frac (by decide) (by decide) rfl (by kernel_rfl) ?_)
  clear henv hst a; intro a w7 g6 henv hst
  replace hst := hst.giveBk (f := fF) (F := FF) (k := 0) (n := 2) (es := [(s, t), (s2, t2)]) rfl rfl fF_len rfl (by decide) (esT_P (fun _ => rfl) _ _) (fun _ _ _ _ => esT_foot (fun _ => rfl))
  refine seq_step rfl (op_call henv rfl Tryz.call6 rfl (qlong_no (hst.pat (k := 0) rfl) (by decide) (by intro e he; simp at he; rcases he with rfl | rfl; exact l1; exact l2)) ?_)
  rintro e w8 ⟨rfl, hb⟩
  refine ⟨_, rfl, ?_⟩
  clear henv a; intro a henv
  replace hst := hst.call hb
  clear hb
  refine wpList_nil ?_
  refine th_n ?_
  refine if_f henv rfl (rfl) ?_
  refine wp_skip ?_
  refine th_n ?_
  refine wp_seq ?_
  refine region_seq ?_
  refine sv (v := .agg #[.string ⟨s.toArray⟩, .string ⟨t.toArray⟩]) henv rfl (rn_load0 henv ty_anvil_anvillaw03_Frac rfl (hst.oat (k := 1) rfl) rfl) ?_
  clear henv a; intro a henv
  refine seq_step rfl (op_call henv rfl Tryz.call25 rfl (f1 _) ?_)
  rintro e w21 ⟨⟨_, _, rfl, ⟨A9, c10, B11, d12, rfl, hz13, hz14⟩, ⟨A15, c16, B17, d18, rfl, hz19, hz20⟩⟩, hb⟩
  refine ⟨_, rfl, ?_⟩
  clear henv a; intro a henv
  replace hst := ((((hst.call hb).addZ hz13 ⟨nou_bk rfl, nou_bk rfl, trivial⟩).addZ hz14 ⟨nou_bk rfl, nou_bk rfl, trivial⟩).addR hz19 ⟨nou_bk rfl, nou_bk rfl, trivial⟩).addR hz20 ⟨nou_bk rfl, nou_bk rfl, trivial⟩
  clear hz13 hz14 hz19 hz20
  clear hb
  revert a
  refine mA rfl rfl ?_
  refine sA (v := .agg #[.bool (neg (qn x)), .slice A9 (zl (qn x)) c10, .bool (neg (ql x)), .slice B11 (zl (ql x)) d12]) rfl (fun _ henv => rn_extract henv rfl rfl) ?_
  refine sA (v := .agg #[.bool (neg (qn x)), .slice A15 (dl (qn x)) c16, .bool (neg (qd x)), .slice B17 (dl (qd x)) d18]) rfl (fun _ henv => rn_extract henv rfl rfl) ?_
  refine sA (v := .bool true) rfl (fun _ henv => rn_extract henv rfl rfl) ?_
  intro a henv
  refine seq_step rfl (op_alloc (c := #[.bool (neg (qn 0)), .slice none (zl (qn 0)) 0, .bool (neg (ql 0)), .slice none (zl (ql 0)) 0]) henv hst rfl zero_anvil_ratio_Rat qcells ?_)
  clear henv hst a; intro a w23 g22 henv hst
  refine seq_step rfl (op_alloc (c := #[.bool false, .slice none 0 0, .bool false, .slice none 0 0]) henv hst rfl zero_anvil_anvilref03_Rat rfl ?_)
  clear henv hst a; intro a w25 g24 henv hst
  refine seq_step rfl (op_store (k := 1) (c' := #[.bool (neg (qn x)), .slice A9 (zl (qn x)) c10, .bool (neg (ql x)), .slice B11 (zl (ql x)) d12]) henv hst (ty_anvil_ratio_Rat.size) rfl rfl rfl rfl (by simp) rfl rfl ?_)
  clear henv hst a; intro a w26 henv hst
  refine seq_step rfl (op_store (k := 0) (c' := #[.bool (neg (qn x)), .slice A15 (dl (qn x)) c16, .bool (neg (qd x)), .slice B17 (dl (qd x)) d18]) henv hst (ty_anvil_anvilref03_Rat.size) rfl rfl rfl rfl (by simp) rfl rfl ?_)
  clear henv hst a; intro a w27 henv hst
  refine sv (v := .bool true) henv rfl (rn_assign henv rfl) ?_
  clear henv a; intro a henv
  refine wpList_nil ?_
  refine th_n ?_
  refine wp_seq ?_
  refine region_seq ?_
  refine sv (v := .agg #[.string ⟨s2.toArray⟩, .string ⟨t2.toArray⟩]) henv rfl (rn_load0 henv ty_anvil_anvillaw03_Frac rfl (hst.oat (k := 2) rfl) rfl) ?_
  clear henv a; intro a henv
  refine seq_step rfl (op_call henv rfl Tryz.call25 rfl (f2 _) ?_)
  rintro e w28 ⟨rfl, hb⟩
  refine ⟨_, rfl, ?_⟩
  clear henv a; intro a henv
  replace hst := hst.call hb
  clear hb
  revert a
  refine mA rfl rfl ?_
  refine sA (v := .agg #[.bool (neg (qn 0)), .slice none (zl (qn 0)) 0, .bool (neg (ql 0)), .slice none (zl (ql 0)) 0]) rfl (fun _ henv => rn_extract henv rfl rfl) ?_
  refine sA (v := .agg #[.bool (neg 0), .slice none (dl 0) 0, .bool (neg 0), .slice none (dl 0) 0]) rfl (fun _ henv => rn_extract henv rfl rfl) ?_
  refine sA (v := .bool false) rfl (fun _ henv => rn_extract henv rfl rfl) ?_
  intro a henv
  refine seq_step rfl (op_alloc (c := #[.bool (neg (qn 0)), .slice none (zl (qn 0)) 0, .bool (neg (ql 0)), .slice none (zl (ql 0)) 0]) henv hst rfl zero_anvil_ratio_Rat qcells ?_)
  clear henv hst a; intro a w30 g29 henv hst
  refine seq_step rfl (op_alloc (c := #[.bool false, .slice none 0 0, .bool false, .slice none 0 0]) henv hst rfl zero_anvil_anvilref03_Rat rfl ?_)
  clear henv hst a; intro a w32 g31 henv hst
  refine seq_step rfl (op_store (k := 1) (c' := #[.bool (neg (qn 0)), .slice none (zl (qn 0)) 0, .bool (neg (ql 0)), .slice none (zl (ql 0)) 0]) henv hst (ty_anvil_ratio_Rat.size) rfl rfl rfl rfl (by simp) rfl rfl ?_)
  clear henv hst a; intro a w33 henv hst
  refine seq_step rfl (op_store (k := 0) (c' := #[.bool (neg 0), .slice none (dl 0) 0, .bool (neg 0), .slice none (dl 0) 0]) henv hst (ty_anvil_anvilref03_Rat.size) rfl rfl rfl rfl (by simp) rfl rfl ?_)
  clear henv hst a; intro a w34 henv hst
  refine sv (v := .bool false) henv rfl (rn_assign henv rfl) ?_
  clear henv a; intro a henv
  refine wpList_nil ?_
  refine th_n ?_
  refine wp_seq ?_
  refine wp_seq ?_
  refine region_seq ?_
  revert a
  refine mA rfl rfl ?_
  refine sA (v := .bool false) rfl (fun _ henv => rn_un henv rfl rfl) ?_
  refine mA rfl rfl ?_
  refine gA (v := .bool false) rfl rfl rfl rfl (fun _ henv => rn_move henv rfl) ?_
  refine gA (v := .bool true) rfl rfl rfl rfl (fun _ henv => rn_un henv rfl rfl) ?_
  refine sA (v := .bool true) rfl (fun _ henv => rn_pick henv rfl rfl) ?_
  intro a henv
  refine wpList_nil ?_
  refine th_n ?_
  refine if_t henv rfl (rfl) ?_
  refine wp_seq ?_
  refine region_seq ?_
  refine sv (v := .bool true) henv rfl (rn_assign henv rfl) ?_
  clear henv a; intro a henv
  refine wpList_nil ?_
  refine th_n ?_
  refine wp_ret ?_
  refine th_r ?_
  refine leave henv (res1 Tryz.results4 (RV.tmp henv rfl)) ?_
  exact ⟨rfl, hst.below⟩
theorem qreckons {s t s2 t2 : List UInt8} {w0 : World} :
    Calls Tryz.prog 4 #[.agg #[.string ⟨s.toArray⟩, .string ⟨t.toArray⟩], .agg #[.string ⟨s2.toArray⟩, .string ⟨t2.toArray⟩]] w0 fun e w' => e = .returned (.bool true) ∧ Below w0.heap.size w0 w' := by
  by_cases l1 : Lg (s, t)
  · exact qreck_long (.inl l1)
  by_cases l2 : Lg (s2, t2)
  · exact qreck_long (.inr l2)
  rcases rat_cases l1 with f1 | ⟨x, f1, sx⟩ <;> rcases rat_cases l2 with f2 | ⟨y, f2, sy⟩
  · exact qreck_nn l1 l2 f1 f2
  · exact qreck_no l1 l2 f1 f2
  · exact qreck_on l1 l2 f1 f2
  · by_cases hy0 : y = 0
    · exact qreck_zero l1 l2 f1 f2 sx sy hy0
    · exact qreck_ok l1 l2 f1 f2 sx sy hy0
end Go.Proofs.YtegglooojlheoaaGreatDoor.W
