/- RowDivides: the law's walk. Printed by pv/gen_rowC.py. No condition. -/
import Derived.Test.YtegglooojlheoaaDoorM49
import Derived.Test.YtegglooojlheoaaDoorM15

namespace Go.Proofs.YtegglooojlheoaaDoor.W
open Go.RowKit Anv Go.Lib
theorem divs_mul (c : Int) (xs : List Int) : divs c (xs.map (c * ·)) := fun z hz => by
  obtain ⟨x, _, rfl⟩ := List.mem_map.1 hz
  exact Int.mul_emod_right c x
theorem map_mul_div {c : Int} (h : c ≠ 0) (xs : List Int) : (xs.map (c * ·)).map (· / c) = xs := by
  rw [List.map_map]
  conv => rhs; rw [← List.map_id xs]
  exact List.map_congr_left fun z _ => Int.mul_ediv_cancel_left z h
set_option maxRecDepth 100000 in
set_option maxHeartbeats 8000000 in
theorem rdivides_zero {A0 A2 : Option Addr} {n0 c0 n2 c2 : Nat} {es0 : List UE} {b2 : Bool} {xs2 : List Nat} {z2 : Int} {w0 : World} (h0 : (pfRow fU FU 2 A0 n0 c0 es0).P w0) (hn0 : n0 ≤ 35184372088832) (hs0 : Sz es0) (h2 : U32 w0 A2 n2 c2 xs2) (hn2 : n2 ≤ 35184372088832) (hv2 : sg b2 (val 4294967296 xs2) = z2) (hz20 : z2 = 0) :
    Calls Tryd.prog 12 #[.slice A0 n0 c0, .agg #[.bool b2, .slice A2 n2 c2]] w0 fun e w' => e = .returned (.bool true) ∧ Below w0.heap.size w0 w' := by
  refine enter Tryd.func12 rfl Tryd.ntmps12 rfl ?_
  intro a henv hst
  replace hst := (hst.argRow h0).addU h2 trivial
  clear h0 h2
  replace hst : St w0 _ [] [pfU A2 n2 c2 xs2, pfRow fU FU 2 A0 n0 c0 es0] := hst
  refine wp_seq ?_
  refine region_seq ?_
  refine seq_step rfl (op_box (c := #[.bool b2, .slice A2 n2 c2]) henv hst rfl rfl rfl ?_)
  clear henv hst a; intro a w52 g51 henv hst
  refine sv (v := .bool false) henv rfl (rn_assign henv rfl) ?_
  clear henv a; intro a henv
  refine wpList_nil ?_
  refine th_n ?_
  refine wp_seq ?_
  refine wp_seq ?_
  refine region_seq ?_
  refine seq_step rfl (op_call henv rfl Tryd.call16 rfl (row_live) ?_)
  rintro e w53 ⟨rfl, hb⟩
  refine ⟨_, rfl, ?_⟩
  clear henv a; intro a henv
  replace hst := hst.call hb
  clear hb
  refine sv (v := .bool false) henv rfl (rn_un henv rfl rfl) ?_
  clear henv a; intro a henv
  refine wpList_nil ?_
  refine th_n ?_
  refine if_f henv rfl (rfl) ?_
  refine wp_skip ?_
  refine th_n ?_
  refine wp_seq ?_
  refine wp_seq ?_
  refine region_seq ?_
  revert a
  refine mA rfl rfl ?_
  refine sA (v := .agg #[.bool b2, .slice A2 n2 c2]) rfl (fun _ henv => rn_load0 henv ty_anvil_anvillaw04_Num rfl (hst.oat (k := 0) rfl) rfl) ?_
  intro a henv
  refine seq_step rfl (op_buildSlice (z := 2) (pv := #[(0, .agg #[.bool b2, .slice A2 n2 c2])]) (c := #[.bool b2, .slice A2 n2 c2]) henv hst rfl Tryd.underlying22 (ty_anvil_anvillaw04_Num.size) zero_anvil_anvillaw04_Num (by decide) (by decide) rfl (by kernel_rfl) ?_)
  clear henv hst a; intro a w55 g54 henv hst
  refine seq_step rfl (op_buildSlice (z := 1) (pv := #[(0, .slice A0 n0 c0), (1, .slice (some ⟨g54, 0, none⟩) 1 1)]) (c := #[.slice A0 n0 c0, .slice (some ⟨g54, 0, none⟩) 1 1]) henv hst rfl Tryd.underlying139 (ty__anvillaw04_Num.size) zero__anvillaw04_Num (by decide) (by decide) rfl (by kernel_rfl) ?_)
  clear henv hst a; intro a w57 g56 henv hst
  refine seq_step rfl (op_call henv rfl Tryd.call17 rfl (row_long (pv2 (v0 := (A0, n0, c0, es0)) (v1 := (some ⟨g54, 0, none⟩, 1, 1, [(b2, A2, n2, c2, xs2)])) (hst.oat (k := 0) rfl) (hst.pat (k := 1) rfl) (pu1 (e0 := (b2, A2, n2, c2, xs2)) (hst.oat (k := 1) rfl) (show U32 _ A2 n2 c2 xs2 from hst.pat (k := 0) rfl))) (lg_cons hn0 hs0 (lg_cons (show 1 ≤ 35184372088832 by decide) (sz_cons hn2 sz_nil) lg_nil))) ?_)
  rintro e w58 ⟨bl, rfl, hbl, hb⟩
  refine ⟨_, rfl, ?_⟩
  clear henv a; intro a henv
  replace hst := hst.call hb
  clear hb
  refine wpList_nil ?_
  refine th_n ?_
  refine if_split henv rfl (fun hc59 => ?_) (fun hc59 => ?_)
  · refine wp_seq ?_
    refine region_seq ?_
    refine sv (v := .bool true) henv rfl (rn_assign henv rfl) ?_
    clear henv a; intro a henv
    refine wpList_nil ?_
    refine th_n ?_
    refine wp_ret ?_
    refine th_r ?_
    refine leave henv (res1 Tryd.results12 (RV.tmp henv rfl)) ?_
    exact ⟨rfl, hst.below⟩
  · obtain ⟨hx0, hx2, hx4⟩ := tv_twoN (hbl hc59)
    replace hx4 : n2 ≤ 300 := hx4
    have hkx : Zk 300 (es0.map vz) := Zk.vz (hst.pat (k := 1) rfl).2.2 hx2
    have hz2s : zl z2 ≤ 300 := by rw [← hv2]; exact zl_vze (show U32 _ A2 n2 c2 xs2 from hst.pat (k := 0) rfl) hx4
    have hkm : Zk 600 ((es0.map vz).map (z2 * ·)) := hkx.map fun z hz => Nat.le_trans (zl_mul _ _) (by omega)
    have hkq : Zk 300 ((es0.map vz).map (· / z2)) := hkx.map fun z hz => Nat.le_trans (zl_ediv _ _) hz
    have hkb : Zk 600 (((es0.map vz).map (z2 * ·)).map (· / z2)) := hkm.map fun z hz => Nat.le_trans (zl_ediv _ _) hz
    have hg1 := zl_gcdL hkx
    have hg2 := zl_primN hkx
    refine wp_skip ?_
    refine th_n ?_
    refine wp_seq ?_
    refine region_seq ?_
    refine sv (v := .slice A0 n0 c0) henv rfl (rn_move henv rfl) ?_
    clear henv a; intro a henv
    refine seq_step rfl (op_call henv rfl Tryd.call18 rfl (row_of2 (hst.pat (k := 1) rfl) (fun e he => Nat.le_trans (tl_mem he) (by omega)) (by omega)) ?_)
    rintro e w70 ⟨_, _, rfl, ⟨A60, c61, es62, rfl, hr, hl63, hz64⟩, ⟨A65, c66, es67, rfl, hr2, hl68, hz69⟩, hb⟩
    refine ⟨_, rfl, ?_⟩
    clear henv a; intro a henv
    replace hst := hst.fresh2 hb hr hl63 (ap_N hr.2.1 ⟨nou_bk rfl, nou_bk rfl, nou_bk rfl, trivial⟩) hr2 hl68 (ap_M hr2.2.1 ⟨nou_bk rfl, nou_bk rfl, nou_bk rfl, trivial⟩)
    clear hr
    clear hr2
    clear hb
    revert a
    refine mA rfl rfl ?_
    refine sA (v := .slice A60 n0 c61) rfl (fun _ henv => rn_extract henv rfl rfl) ?_
    refine sA (v := .slice A65 n0 c66) rfl (fun _ henv => rn_extract henv rfl rfl) ?_
    refine aA rfl rfl ?_
    refine aA rfl rfl ?_
    intro a henv
    refine wpList_nil ?_
    refine th_n ?_
    refine wp_seq ?_
    refine cut (fun a w => ∃ A72 : Option Addr, ∃ c73 : Nat, ∃ A76 : Option Addr, ∃ c77 : Nat, ∃ g80 : Nat, ∃ g82 : Nat, Env 143 a [(0, .slice A0 n0 c0), (1, .agg #[.bool b2, .slice A2 n2 c2]), (3, .pointer (some ⟨g51, 0, none⟩)), (4, .bool false), (20, .bool true), (21, .bool false), (22, .slice A0 n0 c0), (23, .agg #[.bool b2, .slice A2 n2 c2]), (24, .slice (some ⟨g54, 0, none⟩) 1 1), (25, .slice (some ⟨g56, 0, none⟩) 2 2), (26, .bool bl), (28, .slice A0 n0 c0), (29, .tuple #[.slice A60 n0 c61, .slice A65 n0 c66]), (27, .tuple #[.slice A60 n0 c61, .slice A65 n0 c66]), (30, .slice A60 n0 c61), (31, .slice A65 n0 c66), (5, .slice A60 n0 c61), (6, .slice A65 n0 c66), (7, .pointer (some ⟨g80, 0, none⟩)), (8, .pointer (some ⟨g82, 0, none⟩))] ∧ St w0 w [bk g82 #[.bool (neg z2), .slice A76 (dl z2) c77] 39, bk g80 #[.bool (neg z2), .slice A72 (zl z2) c73] 36, bk g56 #[.slice A0 n0 c0, .slice (some ⟨g54, 0, none⟩) 1 1] 22, bk g54 #[.bool b2, .slice A2 n2 c2] 25, bk g51 #[.bool b2, .slice A2 n2 c2] 25] [pfR A76 c77 z2, pfZ A72 c73 z2, pfRow fM FM 2 A65 n0 c66 es67, pfRow fN FN 2 A60 n0 c61 es62, pfU A2 n2 c2 xs2, pfRow fU FU 2 A0 n0 c0 es0]) ?_ ?_
    · refine region_any (n := 14) (Sk [bk g56 #[.slice A0 n0 c0, .slice (some ⟨g54, 0, none⟩) 1 1] 22, bk g54 #[.bool b2, .slice A2 n2 c2] 25, bk g51 #[.bool b2, .slice A2 n2 c2] 25] [pfRow fM FM 2 A65 n0 c66 es67, pfRow fN FN 2 A60 n0 c61 es62, pfU A2 n2 c2 xs2, pfRow fU FU 2 A0 n0 c0 es0] [12, 13] []) mixed rfl henv hst ?_
      clear henv hst; intro w71 henv hst
      refine tA (i := 0) [1, 4, 9, 12, 13] (v := .pointer (some ⟨g51, 0, none⟩)) rfl (by kernel_rfl) (fun _ _ _ h => h) henv rfl (fun _ => rn_fieldAddr henv fd_anvil_anvillaw04_Num_0 (ty_bool.size) (by decide) rfl) ?_
      clear henv a; intro a henv
      refine sAny_take (i := 1) [4, 9, 12, 13] (fun w' => w'.heap[g51]? = some (.cells #[.bool b2, .slice A2 n2 c2] 25 (0, 0))) (v := .bool b2) rfl (by kernel_rfl) (fun _ _ _ h => h) (fun _ _ _ hS => hS.1.oat (k := 2) rfl) henv rfl (hst.oat (k := 2) rfl) (fun w' hg => rn_load1 henv ty_bool rfl hg rfl) ?_
      clear henv a; intro a henv
      refine tA (i := 2) [3, 4, 9, 12, 13] (v := .pointer (some ⟨g51, 1, none⟩)) rfl (by kernel_rfl) (fun _ _ _ h => h) henv rfl (fun _ => rn_fieldAddr henv fd_anvil_anvillaw04_Num_1 (ty__uint32.size) (by decide) rfl) ?_
      clear henv a; intro a henv
      refine sAny_take (i := 3) [4, 9, 12, 13] (fun w' => w'.heap[g51]? = some (.cells #[.bool b2, .slice A2 n2 c2] 25 (0, 0))) (v := .slice A2 n2 c2) rfl (by kernel_rfl) (fun _ _ _ h => h) (fun _ _ _ hS => hS.1.oat (k := 2) rfl) henv rfl (hst.oat (k := 2) rfl) (fun w' hg => rn_load1 henv ty__uint32 rfl hg rfl) ?_
      clear henv a; intro a henv
      refine tA (i := 5) [6, 9, 12, 13] (v := .pointer (some ⟨g51, 0, none⟩)) rfl (by kernel_rfl) (fun _ _ _ h => h) henv rfl (fun _ => rn_fieldAddr henv fd_anvil_anvillaw04_Num_0 (ty_bool.size) (by decide) rfl) ?_
      clear henv a; intro a henv
      refine sAny_take (i := 6) [9, 12, 13] (fun w' => w'.heap[g51]? = some (.cells #[.bool b2, .slice A2 n2 c2] 25 (0, 0))) (v := .bool b2) rfl (by kernel_rfl) (fun _ _ _ h => h) (fun _ _ _ hS => hS.1.oat (k := 2) rfl) henv rfl (hst.oat (k := 2) rfl) (fun w' hg => rn_load1 henv ty_bool rfl hg rfl) ?_
      clear henv a; intro a henv
      refine tA (i := 7) [8, 9, 12, 13] (v := .pointer (some ⟨g51, 1, none⟩)) rfl (by kernel_rfl) (fun _ _ _ h => h) henv rfl (fun _ => rn_fieldAddr henv fd_anvil_anvillaw04_Num_1 (ty__uint32.size) (by decide) rfl) ?_
      clear henv a; intro a henv
      refine sAny_take (i := 8) [9, 12, 13] (fun w' => w'.heap[g51]? = some (.cells #[.bool b2, .slice A2 n2 c2] 25 (0, 0))) (v := .slice A2 n2 c2) rfl (by kernel_rfl) (fun _ _ _ h => h) (fun _ _ _ hS => hS.1.oat (k := 2) rfl) henv rfl (hst.oat (k := 2) rfl) (fun w' hg => rn_load1 henv ty__uint32 rfl hg rfl) ?_
      clear henv a; intro a henv
      refine sAny_all (rs := [4, 10, 11]) (by kernel_rfl) (by simp) ?_
      simp only [List.forall_mem_cons, List.not_mem_nil, false_implies, implies_true, and_true]
      refine ⟨?_, ?_, ?_⟩
      · refine ⟨_, rfl, rfl, op_call henv rfl Tryd.call19 rfl (make_zv (show U32 _ A2 n2 c2 xs2 from hst.pat (k := 2) rfl) hv2 (by omega)) ?_⟩
        rintro e w75 ⟨_, rfl, ⟨A72, c73, rfl, hz74⟩, hb⟩
        refine ⟨_, rfl, ?_⟩
        clear henv a; intro a henv
        replace hst := (hst.call hb).addZ hz74 ⟨nou_bk rfl, nou_bk rfl, nou_bk rfl, trivial⟩
        clear hz74
        clear hb
        refine ⟨.inr ⟨hst.kn.pick [0, 1, 2] (rg 1 4), .inr (hst.kn.pick [] [])⟩, ?_⟩
        refine sAny_all (rs := [9, 10, 11]) (by kernel_rfl) (by simp) ?_
        simp only [List.forall_mem_cons, List.not_mem_nil, false_implies, implies_true, and_true]
        refine ⟨?_, ?_, ?_⟩
        · refine ⟨_, rfl, rfl, op_call henv rfl Tryd.call20 rfl (make_rv (show U32 _ A2 n2 c2 xs2 from hst.pat (k := 3) rfl) hv2 (by omega)) ?_⟩
          rintro e w79 ⟨_, rfl, ⟨A76, c77, rfl, hz78⟩, hb⟩
          refine ⟨_, rfl, ?_⟩
          clear henv a; intro a henv
          replace hst := (hst.call hb).addR hz78 ⟨nou_bk rfl, nou_bk rfl, nou_bk rfl, trivial⟩
          clear hz78
          clear hb
          refine ⟨.inr ⟨hst.kn.pick [0, 1, 2] (rg 2 4), .inr (hst.kn.pick [] [])⟩, ?_⟩
          refine sAny_all (rs := [10, 11]) (by kernel_rfl) (by simp) ?_
          simp only [List.forall_mem_cons, List.not_mem_nil, false_implies, implies_true, and_true]
          refine ⟨?_, ?_⟩
          · refine ⟨_, rfl, rfl, op_alloc (c := #[.bool (neg 0), .slice none (zl 0) 0]) henv hst rfl zero_anvil_integer_Int zcells ?_⟩
            clear henv hst a; intro a w81 g80 henv hst
            refine ⟨.inr ⟨hst.kn.pick [1, 2, 3] (rg 2 4), .inr (hst.kn.pick [] [])⟩, ?_⟩
            refine sAny_one (i := 11) (by kernel_rfl) rfl rfl (op_alloc (c := #[.bool (neg 0), .slice none (dl 0) 0]) henv hst rfl zero_anvil_anvilref02_Int rcells ?_)
            clear henv hst a; intro a w83 g82 henv hst
            refine ⟨.inr ⟨hst.kn.pick [2, 3, 4] (rg 2 4), .inr (hst.kn.pick [] [])⟩, ?_⟩
            refine sAny_one (i := 12) (by kernel_rfl) rfl rfl (op_store (k := 1) (c' := #[.bool (neg z2), .slice A72 (zl z2) c73]) henv hst (ty_anvil_integer_Int.size) rfl rfl rfl rfl (by simp) rfl rfl ?_)
            clear henv hst a; intro a w84 henv hst
            refine ⟨.inr ⟨hst.kn.pick [2, 3, 4] (rg 2 4), .inl rfl⟩, ?_⟩
            refine sAny_one (i := 13) (by kernel_rfl) rfl rfl (op_store (k := 0) (c' := #[.bool (neg z2), .slice A76 (dl z2) c77]) henv hst (ty_anvil_anvilref02_Int.size) rfl rfl rfl rfl (by simp) rfl rfl ?_)
            clear henv hst a; intro a w85 henv hst
            refine ⟨.inr ⟨hst.kn.pick [2, 3, 4] (rg 2 4), .inl rfl⟩, ?_⟩
            refine sAny_done (by kernel_rfl) ?_ _
            exact th_n ⟨A72, c73, A76, c77, g80, g82, henv.sub ⟨rfl, rfl, rfl, rfl, rfl, rfl, rfl, rfl, rfl, rfl, rfl, rfl, rfl, rfl, rfl, rfl, rfl, rfl, rfl, rfl, trivial⟩, hst.pick [0, 1, 2, 3, 4] [0, 1, 2, 3, 4, 5] (by decide)⟩
          · refine ⟨_, rfl, rfl, op_alloc (c := #[.bool (neg 0), .slice none (dl 0) 0]) henv hst rfl zero_anvil_anvilref02_Int rcells ?_⟩
            clear henv hst a; intro a w87 g86 henv hst
            refine ⟨.inr ⟨hst.kn.pick [1, 2, 3] (rg 2 4), .inr (hst.kn.pick [] [])⟩, ?_⟩
            refine sAny_one (i := 10) (by kernel_rfl) rfl rfl (op_alloc (c := #[.bool (neg 0), .slice none (zl 0) 0]) henv hst rfl zero_anvil_integer_Int zcells ?_)
            clear henv hst a; intro a w89 g88 henv hst
            refine ⟨.inr ⟨hst.kn.pick [2, 3, 4] (rg 2 4), .inr (hst.kn.pick [] [])⟩, ?_⟩
            refine sAny_one (i := 12) (by kernel_rfl) rfl rfl (op_store (k := 0) (c' := #[.bool (neg z2), .slice A72 (zl z2) c73]) henv hst (ty_anvil_integer_Int.size) rfl rfl rfl rfl (by simp) rfl rfl ?_)
            clear henv hst a; intro a w90 henv hst
            refine ⟨.inr ⟨hst.kn.pick [2, 3, 4] (rg 2 4), .inl rfl⟩, ?_⟩
            refine sAny_one (i := 13) (by kernel_rfl) rfl rfl (op_store (k := 1) (c' := #[.bool (neg z2), .slice A76 (dl z2) c77]) henv hst (ty_anvil_anvilref02_Int.size) rfl rfl rfl rfl (by simp) rfl rfl ?_)
            clear henv hst a; intro a w91 henv hst
            refine ⟨.inr ⟨hst.kn.pick [2, 3, 4] (rg 2 4), .inl rfl⟩, ?_⟩
            refine sAny_done (by kernel_rfl) ?_ _
            exact th_n ⟨A72, c73, A76, c77, g88, g86, henv.sub ⟨rfl, rfl, rfl, rfl, rfl, rfl, rfl, rfl, rfl, rfl, rfl, rfl, rfl, rfl, rfl, rfl, rfl, rfl, rfl, rfl, trivial⟩, hst.pick [1, 0, 2, 3, 4] [0, 1, 2, 3, 4, 5] (by decide)⟩
        · refine ⟨_, rfl, rfl, op_alloc (c := #[.bool (neg 0), .slice none (zl 0) 0]) henv hst rfl zero_anvil_integer_Int zcells ?_⟩
          clear henv hst a; intro a w93 g92 henv hst
          refine ⟨.inr ⟨hst.kn.pick [1, 2, 3] (rg 1 4), .inr (hst.kn.pick [] [])⟩, ?_⟩
          refine sAny_all (rs := [9, 11]) (by kernel_rfl) (by simp) ?_
          simp only [List.forall_mem_cons, List.not_mem_nil, false_implies, implies_true, and_true]
          refine ⟨?_, ?_⟩
          · refine ⟨_, rfl, rfl, op_call henv rfl Tryd.call20 rfl (make_rv (show U32 _ A2 n2 c2 xs2 from hst.pat (k := 3) rfl) hv2 (by omega)) ?_⟩
            rintro e w97 ⟨_, rfl, ⟨A94, c95, rfl, hz96⟩, hb⟩
            refine ⟨_, rfl, ?_⟩
            clear henv a; intro a henv
            replace hst := (hst.call hb).addR hz96 ⟨nou_bk rfl, nou_bk rfl, nou_bk rfl, nou_bk rfl, trivial⟩
            clear hz96
            clear hb
            refine ⟨.inr ⟨hst.kn.pick [1, 2, 3] (rg 2 4), .inr (hst.kn.pick [] [])⟩, ?_⟩
            refine sAny_one (i := 11) (by kernel_rfl) rfl rfl (op_alloc (c := #[.bool (neg 0), .slice none (dl 0) 0]) henv hst rfl zero_anvil_anvilref02_Int rcells ?_)
            clear henv hst a; intro a w99 g98 henv hst
            refine ⟨.inr ⟨hst.kn.pick [2, 3, 4] (rg 2 4), .inr (hst.kn.pick [] [])⟩, ?_⟩
            refine sAny_one (i := 12) (by kernel_rfl) rfl rfl (op_store (k := 1) (c' := #[.bool (neg z2), .slice A72 (zl z2) c73]) henv hst (ty_anvil_integer_Int.size) rfl rfl rfl rfl (by simp) rfl rfl ?_)
            clear henv hst a; intro a w100 henv hst
            refine ⟨.inr ⟨hst.kn.pick [2, 3, 4] (rg 2 4), .inl rfl⟩, ?_⟩
            refine sAny_one (i := 13) (by kernel_rfl) rfl rfl (op_store (k := 0) (c' := #[.bool (neg z2), .slice A94 (dl z2) c95]) henv hst (ty_anvil_anvilref02_Int.size) rfl rfl rfl rfl (by simp) rfl rfl ?_)
            clear henv hst a; intro a w101 henv hst
            refine ⟨.inr ⟨hst.kn.pick [2, 3, 4] (rg 2 4), .inl rfl⟩, ?_⟩
            refine sAny_done (by kernel_rfl) ?_ _
            exact th_n ⟨A72, c73, A94, c95, g92, g98, henv.sub ⟨rfl, rfl, rfl, rfl, rfl, rfl, rfl, rfl, rfl, rfl, rfl, rfl, rfl, rfl, rfl, rfl, rfl, rfl, rfl, rfl, trivial⟩, hst.pick [0, 1, 2, 3, 4] [0, 1, 2, 3, 4, 5] (by decide)⟩
          · refine ⟨_, rfl, rfl, op_alloc (c := #[.bool (neg 0), .slice none (dl 0) 0]) henv hst rfl zero_anvil_anvilref02_Int rcells ?_⟩
            clear henv hst a; intro a w103 g102 henv hst
            refine ⟨.inr ⟨hst.kn.pick [2, 3, 4] (rg 1 4), .inr (hst.kn.pick [] [])⟩, ?_⟩
            refine sAny_one (i := 9) (by kernel_rfl) rfl rfl (op_call henv rfl Tryd.call20 rfl (make_rv (show U32 _ A2 n2 c2 xs2 from hst.pat (k := 3) rfl) hv2 (by omega)) ?_)
            rintro e w107 ⟨_, rfl, ⟨A104, c105, rfl, hz106⟩, hb⟩
            refine ⟨_, rfl, ?_⟩
            clear henv a; intro a henv
            replace hst := (hst.call hb).addR hz106 ⟨nou_bk rfl, nou_bk rfl, nou_bk rfl, nou_bk rfl, nou_bk rfl, trivial⟩
            clear hz106
            clear hb
            refine ⟨.inr ⟨hst.kn.pick [2, 3, 4] (rg 2 4), .inr (hst.kn.pick [] [])⟩, ?_⟩
            refine sAny_one (i := 12) (by kernel_rfl) rfl rfl (op_store (k := 1) (c' := #[.bool (neg z2), .slice A72 (zl z2) c73]) henv hst (ty_anvil_integer_Int.size) rfl rfl rfl rfl (by simp) rfl rfl ?_)
            clear henv hst a; intro a w108 henv hst
            refine ⟨.inr ⟨hst.kn.pick [2, 3, 4] (rg 2 4), .inl rfl⟩, ?_⟩
            refine sAny_one (i := 13) (by kernel_rfl) rfl rfl (op_store (k := 0) (c' := #[.bool (neg z2), .slice A104 (dl z2) c105]) henv hst (ty_anvil_anvilref02_Int.size) rfl rfl rfl rfl (by simp) rfl rfl ?_)
            clear henv hst a; intro a w109 henv hst
            refine ⟨.inr ⟨hst.kn.pick [2, 3, 4] (rg 2 4), .inl rfl⟩, ?_⟩
            refine sAny_done (by kernel_rfl) ?_ _
            exact th_n ⟨A72, c73, A104, c105, g92, g102, henv.sub ⟨rfl, rfl, rfl, rfl, rfl, rfl, rfl, rfl, rfl, rfl, rfl, rfl, rfl, rfl, rfl, rfl, rfl, rfl, rfl, rfl, trivial⟩, hst.pick [0, 1, 2, 3, 4] [0, 1, 2, 3, 4, 5] (by decide)⟩
        · refine ⟨_, rfl, rfl, op_alloc (c := #[.bool (neg 0), .slice none (dl 0) 0]) henv hst rfl zero_anvil_anvilref02_Int rcells ?_⟩
          clear henv hst a; intro a w111 g110 henv hst
          refine ⟨.inr ⟨hst.kn.pick [1, 2, 3] (rg 1 4), .inr (hst.kn.pick [] [])⟩, ?_⟩
          refine sAny_all (rs := [9, 10]) (by kernel_rfl) (by simp) ?_
          simp only [List.forall_mem_cons, List.not_mem_nil, false_implies, implies_true, and_true]
          refine ⟨?_, ?_⟩
          · refine ⟨_, rfl, rfl, op_call henv rfl Tryd.call20 rfl (make_rv (show U32 _ A2 n2 c2 xs2 from hst.pat (k := 3) rfl) hv2 (by omega)) ?_⟩
            rintro e w115 ⟨_, rfl, ⟨A112, c113, rfl, hz114⟩, hb⟩
            refine ⟨_, rfl, ?_⟩
            clear henv a; intro a henv
            replace hst := (hst.call hb).addR hz114 ⟨nou_bk rfl, nou_bk rfl, nou_bk rfl, nou_bk rfl, trivial⟩
            clear hz114
            clear hb
            refine ⟨.inr ⟨hst.kn.pick [1, 2, 3] (rg 2 4), .inr (hst.kn.pick [] [])⟩, ?_⟩
            refine sAny_one (i := 10) (by kernel_rfl) rfl rfl (op_alloc (c := #[.bool (neg 0), .slice none (zl 0) 0]) henv hst rfl zero_anvil_integer_Int zcells ?_)
            clear henv hst a; intro a w117 g116 henv hst
            refine ⟨.inr ⟨hst.kn.pick [2, 3, 4] (rg 2 4), .inr (hst.kn.pick [] [])⟩, ?_⟩
            refine sAny_one (i := 12) (by kernel_rfl) rfl rfl (op_store (k := 0) (c' := #[.bool (neg z2), .slice A72 (zl z2) c73]) henv hst (ty_anvil_integer_Int.size) rfl rfl rfl rfl (by simp) rfl rfl ?_)
            clear henv hst a; intro a w118 henv hst
            refine ⟨.inr ⟨hst.kn.pick [2, 3, 4] (rg 2 4), .inl rfl⟩, ?_⟩
            refine sAny_one (i := 13) (by kernel_rfl) rfl rfl (op_store (k := 1) (c' := #[.bool (neg z2), .slice A112 (dl z2) c113]) henv hst (ty_anvil_anvilref02_Int.size) rfl rfl rfl rfl (by simp) rfl rfl ?_)
            clear henv hst a; intro a w119 henv hst
            refine ⟨.inr ⟨hst.kn.pick [2, 3, 4] (rg 2 4), .inl rfl⟩, ?_⟩
            refine sAny_done (by kernel_rfl) ?_ _
            exact th_n ⟨A72, c73, A112, c113, g116, g110, henv.sub ⟨rfl, rfl, rfl, rfl, rfl, rfl, rfl, rfl, rfl, rfl, rfl, rfl, rfl, rfl, rfl, rfl, rfl, rfl, rfl, rfl, trivial⟩, hst.pick [1, 0, 2, 3, 4] [0, 1, 2, 3, 4, 5] (by decide)⟩
          · refine ⟨_, rfl, rfl, op_alloc (c := #[.bool (neg 0), .slice none (zl 0) 0]) henv hst rfl zero_anvil_integer_Int zcells ?_⟩
            clear henv hst a; intro a w121 g120 henv hst
            refine ⟨.inr ⟨hst.kn.pick [2, 3, 4] (rg 1 4), .inr (hst.kn.pick [] [])⟩, ?_⟩
            refine sAny_one (i := 9) (by kernel_rfl) rfl rfl (op_call henv rfl Tryd.call20 rfl (make_rv (show U32 _ A2 n2 c2 xs2 from hst.pat (k := 3) rfl) hv2 (by omega)) ?_)
            rintro e w125 ⟨_, rfl, ⟨A122, c123, rfl, hz124⟩, hb⟩
            refine ⟨_, rfl, ?_⟩
            clear henv a; intro a henv
            replace hst := (hst.call hb).addR hz124 ⟨nou_bk rfl, nou_bk rfl, nou_bk rfl, nou_bk rfl, nou_bk rfl, trivial⟩
            clear hz124
            clear hb
            refine ⟨.inr ⟨hst.kn.pick [2, 3, 4] (rg 2 4), .inr (hst.kn.pick [] [])⟩, ?_⟩
            refine sAny_one (i := 12) (by kernel_rfl) rfl rfl (op_store (k := 0) (c' := #[.bool (neg z2), .slice A72 (zl z2) c73]) henv hst (ty_anvil_integer_Int.size) rfl rfl rfl rfl (by simp) rfl rfl ?_)
            clear henv hst a; intro a w126 henv hst
            refine ⟨.inr ⟨hst.kn.pick [2, 3, 4] (rg 2 4), .inl rfl⟩, ?_⟩
            refine sAny_one (i := 13) (by kernel_rfl) rfl rfl (op_store (k := 1) (c' := #[.bool (neg z2), .slice A122 (dl z2) c123]) henv hst (ty_anvil_anvilref02_Int.size) rfl rfl rfl rfl (by simp) rfl rfl ?_)
            clear henv hst a; intro a w127 henv hst
            refine ⟨.inr ⟨hst.kn.pick [2, 3, 4] (rg 2 4), .inl rfl⟩, ?_⟩
            refine sAny_done (by kernel_rfl) ?_ _
            exact th_n ⟨A72, c73, A122, c123, g120, g110, henv.sub ⟨rfl, rfl, rfl, rfl, rfl, rfl, rfl, rfl, rfl, rfl, rfl, rfl, rfl, rfl, rfl, rfl, rfl, rfl, rfl, rfl, trivial⟩, hst.pick [1, 0, 2, 3, 4] [0, 1, 2, 3, 4, 5] (by decide)⟩
      · refine ⟨_, rfl, rfl, op_alloc (c := #[.bool (neg 0), .slice none (zl 0) 0]) henv hst rfl zero_anvil_integer_Int zcells ?_⟩
        clear henv hst a; intro a w129 g128 henv hst
        refine ⟨.inr ⟨hst.kn.pick [1, 2, 3] (rg 0 4), .inr (hst.kn.pick [] [])⟩, ?_⟩
        refine sAny_all (rs := [4, 11]) (by kernel_rfl) (by simp) ?_
        simp only [List.forall_mem_cons, List.not_mem_nil, false_implies, implies_true, and_true]
        refine ⟨?_, ?_⟩
        · refine ⟨_, rfl, rfl, op_call henv rfl Tryd.call19 rfl (make_zv (show U32 _ A2 n2 c2 xs2 from hst.pat (k := 2) rfl) hv2 (by omega)) ?_⟩
          rintro e w133 ⟨_, rfl, ⟨A130, c131, rfl, hz132⟩, hb⟩
          refine ⟨_, rfl, ?_⟩
          clear henv a; intro a henv
          replace hst := (hst.call hb).addZ hz132 ⟨nou_bk rfl, nou_bk rfl, nou_bk rfl, nou_bk rfl, trivial⟩
          clear hz132
          clear hb
          refine ⟨.inr ⟨hst.kn.pick [1, 2, 3] (rg 1 4), .inr (hst.kn.pick [] [])⟩, ?_⟩
          refine sAny_all (rs := [9, 11]) (by kernel_rfl) (by simp) ?_
          simp only [List.forall_mem_cons, List.not_mem_nil, false_implies, implies_true, and_true]
          refine ⟨?_, ?_⟩
          · refine ⟨_, rfl, rfl, op_call henv rfl Tryd.call20 rfl (make_rv (show U32 _ A2 n2 c2 xs2 from hst.pat (k := 3) rfl) hv2 (by omega)) ?_⟩
            rintro e w137 ⟨_, rfl, ⟨A134, c135, rfl, hz136⟩, hb⟩
            refine ⟨_, rfl, ?_⟩
            clear henv a; intro a henv
            replace hst := (hst.call hb).addR hz136 ⟨nou_bk rfl, nou_bk rfl, nou_bk rfl, nou_bk rfl, trivial⟩
            clear hz136
            clear hb
            refine ⟨.inr ⟨hst.kn.pick [1, 2, 3] (rg 2 4), .inr (hst.kn.pick [] [])⟩, ?_⟩
            refine sAny_one (i := 11) (by kernel_rfl) rfl rfl (op_alloc (c := #[.bool (neg 0), .slice none (dl 0) 0]) henv hst rfl zero_anvil_anvilref02_Int rcells ?_)
            clear henv hst a; intro a w139 g138 henv hst
            refine ⟨.inr ⟨hst.kn.pick [2, 3, 4] (rg 2 4), .inr (hst.kn.pick [] [])⟩, ?_⟩
            refine sAny_one (i := 12) (by kernel_rfl) rfl rfl (op_store (k := 1) (c' := #[.bool (neg z2), .slice A130 (zl z2) c131]) henv hst (ty_anvil_integer_Int.size) rfl rfl rfl rfl (by simp) rfl rfl ?_)
            clear henv hst a; intro a w140 henv hst
            refine ⟨.inr ⟨hst.kn.pick [2, 3, 4] (rg 2 4), .inl rfl⟩, ?_⟩
            refine sAny_one (i := 13) (by kernel_rfl) rfl rfl (op_store (k := 0) (c' := #[.bool (neg z2), .slice A134 (dl z2) c135]) henv hst (ty_anvil_anvilref02_Int.size) rfl rfl rfl rfl (by simp) rfl rfl ?_)
            clear henv hst a; intro a w141 henv hst
            refine ⟨.inr ⟨hst.kn.pick [2, 3, 4] (rg 2 4), .inl rfl⟩, ?_⟩
            refine sAny_done (by kernel_rfl) ?_ _
            exact th_n ⟨A130, c131, A134, c135, g128, g138, henv.sub ⟨rfl, rfl, rfl, rfl, rfl, rfl, rfl, rfl, rfl, rfl, rfl, rfl, rfl, rfl, rfl, rfl, rfl, rfl, rfl, rfl, trivial⟩, hst.pick [0, 1, 2, 3, 4] [0, 1, 2, 3, 4, 5] (by decide)⟩
          · refine ⟨_, rfl, rfl, op_alloc (c := #[.bool (neg 0), .slice none (dl 0) 0]) henv hst rfl zero_anvil_anvilref02_Int rcells ?_⟩
            clear henv hst a; intro a w143 g142 henv hst
            refine ⟨.inr ⟨hst.kn.pick [2, 3, 4] (rg 1 4), .inr (hst.kn.pick [] [])⟩, ?_⟩
            refine sAny_one (i := 9) (by kernel_rfl) rfl rfl (op_call henv rfl Tryd.call20 rfl (make_rv (show U32 _ A2 n2 c2 xs2 from hst.pat (k := 3) rfl) hv2 (by omega)) ?_)
            rintro e w147 ⟨_, rfl, ⟨A144, c145, rfl, hz146⟩, hb⟩
            refine ⟨_, rfl, ?_⟩
            clear henv a; intro a henv
            replace hst := (hst.call hb).addR hz146 ⟨nou_bk rfl, nou_bk rfl, nou_bk rfl, nou_bk rfl, nou_bk rfl, trivial⟩
            clear hz146
            clear hb
            refine ⟨.inr ⟨hst.kn.pick [2, 3, 4] (rg 2 4), .inr (hst.kn.pick [] [])⟩, ?_⟩
            refine sAny_one (i := 12) (by kernel_rfl) rfl rfl (op_store (k := 1) (c' := #[.bool (neg z2), .slice A130 (zl z2) c131]) henv hst (ty_anvil_integer_Int.size) rfl rfl rfl rfl (by simp) rfl rfl ?_)
            clear henv hst a; intro a w148 henv hst
            refine ⟨.inr ⟨hst.kn.pick [2, 3, 4] (rg 2 4), .inl rfl⟩, ?_⟩
            refine sAny_one (i := 13) (by kernel_rfl) rfl rfl (op_store (k := 0) (c' := #[.bool (neg z2), .slice A144 (dl z2) c145]) henv hst (ty_anvil_anvilref02_Int.size) rfl rfl rfl rfl (by simp) rfl rfl ?_)
            clear henv hst a; intro a w149 henv hst
            refine ⟨.inr ⟨hst.kn.pick [2, 3, 4] (rg 2 4), .inl rfl⟩, ?_⟩
            refine sAny_done (by kernel_rfl) ?_ _
            exact th_n ⟨A130, c131, A144, c145, g128, g142, henv.sub ⟨rfl, rfl, rfl, rfl, rfl, rfl, rfl, rfl, rfl, rfl, rfl, rfl, rfl, rfl, rfl, rfl, rfl, rfl, rfl, rfl, trivial⟩, hst.pick [0, 1, 2, 3, 4] [0, 1, 2, 3, 4, 5] (by decide)⟩
        · refine ⟨_, rfl, rfl, op_alloc (c := #[.bool (neg 0), .slice none (dl 0) 0]) henv hst rfl zero_anvil_anvilref02_Int rcells ?_⟩
          clear henv hst a; intro a w151 g150 henv hst
          refine ⟨.inr ⟨hst.kn.pick [2, 3, 4] (rg 0 4), .inr (hst.kn.pick [] [])⟩, ?_⟩
          refine sAny_one (i := 4) (by kernel_rfl) rfl rfl (op_call henv rfl Tryd.call19 rfl (make_zv (show U32 _ A2 n2 c2 xs2 from hst.pat (k := 2) rfl) hv2 (by omega)) ?_)
          rintro e w155 ⟨_, rfl, ⟨A152, c153, rfl, hz154⟩, hb⟩
          refine ⟨_, rfl, ?_⟩
          clear henv a; intro a henv
          replace hst := (hst.call hb).addZ hz154 ⟨nou_bk rfl, nou_bk rfl, nou_bk rfl, nou_bk rfl, nou_bk rfl, trivial⟩
          clear hz154
          clear hb
          refine ⟨.inr ⟨hst.kn.pick [2, 3, 4] (rg 1 4), .inr (hst.kn.pick [] [])⟩, ?_⟩
          refine sAny_one (i := 9) (by kernel_rfl) rfl rfl (op_call henv rfl Tryd.call20 rfl (make_rv (show U32 _ A2 n2 c2 xs2 from hst.pat (k := 3) rfl) hv2 (by omega)) ?_)
          rintro e w159 ⟨_, rfl, ⟨A156, c157, rfl, hz158⟩, hb⟩
          refine ⟨_, rfl, ?_⟩
          clear henv a; intro a henv
          replace hst := (hst.call hb).addR hz158 ⟨nou_bk rfl, nou_bk rfl, nou_bk rfl, nou_bk rfl, nou_bk rfl, trivial⟩
          clear hz158
          clear hb
          refine ⟨.inr ⟨hst.kn.pick [2, 3, 4] (rg 2 4), .inr (hst.kn.pick [] [])⟩, ?_⟩
          refine sAny_one (i := 12) (by kernel_rfl) rfl rfl (op_store (k := 1) (c' := #[.bool (neg z2), .slice A152 (zl z2) c153]) henv hst (ty_anvil_integer_Int.size) rfl rfl rfl rfl (by simp) rfl rfl ?_)
          clear henv hst a; intro a w160 henv hst
          refine ⟨.inr ⟨hst.kn.pick [2, 3, 4] (rg 2 4), .inl rfl⟩, ?_⟩
          refine sAny_one (i := 13) (by kernel_rfl) rfl rfl (op_store (k := 0) (c' := #[.bool (neg z2), .slice A156 (dl z2) c157]) henv hst (ty_anvil_anvilref02_Int.size) rfl rfl rfl rfl (by simp) rfl rfl ?_)
          clear henv hst a; intro a w161 henv hst
          refine ⟨.inr ⟨hst.kn.pick [2, 3, 4] (rg 2 4), .inl rfl⟩, ?_⟩
          refine sAny_done (by kernel_rfl) ?_ _
          exact th_n ⟨A152, c153, A156, c157, g128, g150, henv.sub ⟨rfl, rfl, rfl, rfl, rfl, rfl, rfl, rfl, rfl, rfl, rfl, rfl, rfl, rfl, rfl, rfl, rfl, rfl, rfl, rfl, trivial⟩, hst.pick [0, 1, 2, 3, 4] [0, 1, 2, 3, 4, 5] (by decide)⟩
      · refine ⟨_, rfl, rfl, op_alloc (c := #[.bool (neg 0), .slice none (dl 0) 0]) henv hst rfl zero_anvil_anvilref02_Int rcells ?_⟩
        clear henv hst a; intro a w163 g162 henv hst
        refine ⟨.inr ⟨hst.kn.pick [1, 2, 3] (rg 0 4), .inr (hst.kn.pick [] [])⟩, ?_⟩
        refine sAny_all (rs := [4, 10]) (by kernel_rfl) (by simp) ?_
        simp only [List.forall_mem_cons, List.not_mem_nil, false_implies, implies_true, and_true]
        refine ⟨?_, ?_⟩
        · refine ⟨_, rfl, rfl, op_call henv rfl Tryd.call19 rfl (make_zv (show U32 _ A2 n2 c2 xs2 from hst.pat (k := 2) rfl) hv2 (by omega)) ?_⟩
          rintro e w167 ⟨_, rfl, ⟨A164, c165, rfl, hz166⟩, hb⟩
          refine ⟨_, rfl, ?_⟩
          clear henv a; intro a henv
          replace hst := (hst.call hb).addZ hz166 ⟨nou_bk rfl, nou_bk rfl, nou_bk rfl, nou_bk rfl, trivial⟩
          clear hz166
          clear hb
          refine ⟨.inr ⟨hst.kn.pick [1, 2, 3] (rg 1 4), .inr (hst.kn.pick [] [])⟩, ?_⟩
          refine sAny_all (rs := [9, 10]) (by kernel_rfl) (by simp) ?_
          simp only [List.forall_mem_cons, List.not_mem_nil, false_implies, implies_true, and_true]
          refine ⟨?_, ?_⟩
          · refine ⟨_, rfl, rfl, op_call henv rfl Tryd.call20 rfl (make_rv (show U32 _ A2 n2 c2 xs2 from hst.pat (k := 3) rfl) hv2 (by omega)) ?_⟩
            rintro e w171 ⟨_, rfl, ⟨A168, c169, rfl, hz170⟩, hb⟩
            refine ⟨_, rfl, ?_⟩
            clear henv a; intro a henv
            replace hst := (hst.call hb).addR hz170 ⟨nou_bk rfl, nou_bk rfl, nou_bk rfl, nou_bk rfl, trivial⟩
            clear hz170
            clear hb
            refine ⟨.inr ⟨hst.kn.pick [1, 2, 3] (rg 2 4), .inr (hst.kn.pick [] [])⟩, ?_⟩
            refine sAny_one (i := 10) (by kernel_rfl) rfl rfl (op_alloc (c := #[.bool (neg 0), .slice none (zl 0) 0]) henv hst rfl zero_anvil_integer_Int zcells ?_)
            clear henv hst a; intro a w173 g172 henv hst
            refine ⟨.inr ⟨hst.kn.pick [2, 3, 4] (rg 2 4), .inr (hst.kn.pick [] [])⟩, ?_⟩
            refine sAny_one (i := 12) (by kernel_rfl) rfl rfl (op_store (k := 0) (c' := #[.bool (neg z2), .slice A164 (zl z2) c165]) henv hst (ty_anvil_integer_Int.size) rfl rfl rfl rfl (by simp) rfl rfl ?_)
            clear henv hst a; intro a w174 henv hst
            refine ⟨.inr ⟨hst.kn.pick [2, 3, 4] (rg 2 4), .inl rfl⟩, ?_⟩
            refine sAny_one (i := 13) (by kernel_rfl) rfl rfl (op_store (k := 1) (c' := #[.bool (neg z2), .slice A168 (dl z2) c169]) henv hst (ty_anvil_anvilref02_Int.size) rfl rfl rfl rfl (by simp) rfl rfl ?_)
            clear henv hst a; intro a w175 henv hst
            refine ⟨.inr ⟨hst.kn.pick [2, 3, 4] (rg 2 4), .inl rfl⟩, ?_⟩
            refine sAny_done (by kernel_rfl) ?_ _
            exact th_n ⟨A164, c165, A168, c169, g172, g162, henv.sub ⟨rfl, rfl, rfl, rfl, rfl, rfl, rfl, rfl, rfl, rfl, rfl, rfl, rfl, rfl, rfl, rfl, rfl, rfl, rfl, rfl, trivial⟩, hst.pick [1, 0, 2, 3, 4] [0, 1, 2, 3, 4, 5] (by decide)⟩
          · refine ⟨_, rfl, rfl, op_alloc (c := #[.bool (neg 0), .slice none (zl 0) 0]) henv hst rfl zero_anvil_integer_Int zcells ?_⟩
            clear henv hst a; intro a w177 g176 henv hst
            refine ⟨.inr ⟨hst.kn.pick [2, 3, 4] (rg 1 4), .inr (hst.kn.pick [] [])⟩, ?_⟩
            refine sAny_one (i := 9) (by kernel_rfl) rfl rfl (op_call henv rfl Tryd.call20 rfl (make_rv (show U32 _ A2 n2 c2 xs2 from hst.pat (k := 3) rfl) hv2 (by omega)) ?_)
            rintro e w181 ⟨_, rfl, ⟨A178, c179, rfl, hz180⟩, hb⟩
            refine ⟨_, rfl, ?_⟩
            clear henv a; intro a henv
            replace hst := (hst.call hb).addR hz180 ⟨nou_bk rfl, nou_bk rfl, nou_bk rfl, nou_bk rfl, nou_bk rfl, trivial⟩
            clear hz180
            clear hb
            refine ⟨.inr ⟨hst.kn.pick [2, 3, 4] (rg 2 4), .inr (hst.kn.pick [] [])⟩, ?_⟩
            refine sAny_one (i := 12) (by kernel_rfl) rfl rfl (op_store (k := 0) (c' := #[.bool (neg z2), .slice A164 (zl z2) c165]) henv hst (ty_anvil_integer_Int.size) rfl rfl rfl rfl (by simp) rfl rfl ?_)
            clear henv hst a; intro a w182 henv hst
            refine ⟨.inr ⟨hst.kn.pick [2, 3, 4] (rg 2 4), .inl rfl⟩, ?_⟩
            refine sAny_one (i := 13) (by kernel_rfl) rfl rfl (op_store (k := 1) (c' := #[.bool (neg z2), .slice A178 (dl z2) c179]) henv hst (ty_anvil_anvilref02_Int.size) rfl rfl rfl rfl (by simp) rfl rfl ?_)
            clear henv hst a; intro a w183 henv hst
            refine ⟨.inr ⟨hst.kn.pick [2, 3, 4] (rg 2 4), .inl rfl⟩, ?_⟩
            refine sAny_done (by kernel_rfl) ?_ _
            exact th_n ⟨A164, c165, A178, c179, g176, g162, henv.sub ⟨rfl, rfl, rfl, rfl, rfl, rfl, rfl, rfl, rfl, rfl, rfl, rfl, rfl, rfl, rfl, rfl, rfl, rfl, rfl, rfl, trivial⟩, hst.pick [1, 0, 2, 3, 4] [0, 1, 2, 3, 4, 5] (by decide)⟩
        · refine ⟨_, rfl, rfl, op_alloc (c := #[.bool (neg 0), .slice none (zl 0) 0]) henv hst rfl zero_anvil_integer_Int zcells ?_⟩
          clear henv hst a; intro a w185 g184 henv hst
          refine ⟨.inr ⟨hst.kn.pick [2, 3, 4] (rg 0 4), .inr (hst.kn.pick [] [])⟩, ?_⟩
          refine sAny_one (i := 4) (by kernel_rfl) rfl rfl (op_call henv rfl Tryd.call19 rfl (make_zv (show U32 _ A2 n2 c2 xs2 from hst.pat (k := 2) rfl) hv2 (by omega)) ?_)
          rintro e w189 ⟨_, rfl, ⟨A186, c187, rfl, hz188⟩, hb⟩
          refine ⟨_, rfl, ?_⟩
          clear henv a; intro a henv
          replace hst := (hst.call hb).addZ hz188 ⟨nou_bk rfl, nou_bk rfl, nou_bk rfl, nou_bk rfl, nou_bk rfl, trivial⟩
          clear hz188
          clear hb
          refine ⟨.inr ⟨hst.kn.pick [2, 3, 4] (rg 1 4), .inr (hst.kn.pick [] [])⟩, ?_⟩
          refine sAny_one (i := 9) (by kernel_rfl) rfl rfl (op_call henv rfl Tryd.call20 rfl (make_rv (show U32 _ A2 n2 c2 xs2 from hst.pat (k := 3) rfl) hv2 (by omega)) ?_)
          rintro e w193 ⟨_, rfl, ⟨A190, c191, rfl, hz192⟩, hb⟩
          refine ⟨_, rfl, ?_⟩
          clear henv a; intro a henv
          replace hst := (hst.call hb).addR hz192 ⟨nou_bk rfl, nou_bk rfl, nou_bk rfl, nou_bk rfl, nou_bk rfl, trivial⟩
          clear hz192
          clear hb
          refine ⟨.inr ⟨hst.kn.pick [2, 3, 4] (rg 2 4), .inr (hst.kn.pick [] [])⟩, ?_⟩
          refine sAny_one (i := 12) (by kernel_rfl) rfl rfl (op_store (k := 0) (c' := #[.bool (neg z2), .slice A186 (zl z2) c187]) henv hst (ty_anvil_integer_Int.size) rfl rfl rfl rfl (by simp) rfl rfl ?_)
          clear henv hst a; intro a w194 henv hst
          refine ⟨.inr ⟨hst.kn.pick [2, 3, 4] (rg 2 4), .inl rfl⟩, ?_⟩
          refine sAny_one (i := 13) (by kernel_rfl) rfl rfl (op_store (k := 1) (c' := #[.bool (neg z2), .slice A190 (dl z2) c191]) henv hst (ty_anvil_anvilref02_Int.size) rfl rfl rfl rfl (by simp) rfl rfl ?_)
          clear henv hst a; intro a w195 henv hst
          refine ⟨.inr ⟨hst.kn.pick [2, 3, 4] (rg 2 4), .inl rfl⟩, ?_⟩
          refine sAny_done (by kernel_rfl) ?_ _
          exact th_n ⟨A186, c187, A190, c191, g184, g162, henv.sub ⟨rfl, rfl, rfl, rfl, rfl, rfl, rfl, rfl, rfl, rfl, rfl, rfl, rfl, rfl, rfl, rfl, rfl, rfl, rfl, rfl, trivial⟩, hst.pick [1, 0, 2, 3, 4] [0, 1, 2, 3, 4, 5] (by decide)⟩
    clear henv hst a
    rintro a w196 ⟨A72, c73, A76, c77, g80, g82, henv, hst⟩
    refine wp_seq ?_
    refine region_seq ?_
    revert a
    refine mA rfl rfl ?_
    refine sA (v := .agg #[.bool (neg z2), .slice A72 (zl z2) c73]) rfl (fun _ henv => rn_load0 henv ty_anvil_integer_Int rfl (hst.oat (k := 1) rfl) rfl) ?_
    intro a henv
    refine seq_step rfl (op_call henv rfl Tryd.call77 rfl (row_over_z (show ZIn _ A72 c73 z2 from hst.pat (k := 1) rfl) hz20) ?_)
    rintro e w197 ⟨rfl, hb⟩
    refine ⟨_, rfl, ?_⟩
    clear henv a; intro a henv
    replace hst := hst.call hb
    clear hb
    revert a
    refine mA rfl rfl ?_
    refine sA (v := .slice none 0 0) rfl (fun _ henv => rn_extract henv rfl rfl) ?_
    refine sA (v := .int .i64 2) rfl (fun _ henv => rn_extract henv rfl rfl) ?_
    refine aA rfl rfl ?_
    refine aA rfl rfl ?_
    intro a henv
    refine wpList_nil ?_
    refine th_n ?_
    refine wp_seq ?_
    refine region_seq ?_
    refine sv (v := .slice A65 n0 c66) henv rfl (rn_move henv rfl) ?_
    clear henv a; intro a henv
    refine seq_step rfl (op_call henv rfl Tryd.call78 rfl (ref_content (hst.pat (k := 2) rfl) hz69 ((hkx.mono (by decide)))) ?_)
    rintro e w201 ⟨_, rfl, ⟨A198, c199, rfl, hz200⟩, hb⟩
    refine ⟨_, rfl, ?_⟩
    clear henv a; intro a henv
    replace hst := (hst.call hb).addR hz200 ⟨nou_bk rfl, nou_bk rfl, nou_bk rfl, nou_bk rfl, nou_bk rfl, trivial⟩
    clear hz200
    clear hb
    refine seq_step rfl (op_alloc (c := #[.bool (neg 0), .slice none (dl 0) 0]) henv hst rfl zero_anvil_anvilref02_Int rcells ?_)
    clear henv hst a; intro a w203 g202 henv hst
    refine seq_step rfl (op_store (k := 0) (c' := #[.bool (neg (gcdL (es0.map vz))), .slice A198 (dl (gcdL (es0.map vz))) c199]) henv hst (ty_anvil_anvilref02_Int.size) rfl rfl rfl rfl (by simp) rfl rfl ?_)
    clear henv hst a; intro a w204 henv hst
    refine wpList_nil ?_
    refine th_n ?_
    refine wp_seq ?_
    refine region_seq ?_
    refine sv (v := .slice A65 n0 c66) henv rfl (rn_move henv rfl) ?_
    clear henv a; intro a henv
    refine seq_step rfl (op_call henv rfl Tryd.call79 rfl (ref_primitive (hst.pat (k := 3) rfl) hz69 ((hkx.mono (by decide))) (by omega)) ?_)
    rintro e w213 ⟨_, _, rfl, ⟨A205, c206, es207, rfl, hr, hl208, hz209⟩, ⟨A210, c211, rfl, hz212⟩, hb⟩
    refine ⟨_, rfl, ?_⟩
    clear henv a; intro a henv
    replace hst := (hst.freshRd hb hr hl208 (ap_M hr.2.1 ⟨nou_bk rfl, nou_bk rfl, nou_bk rfl, nou_bk rfl, nou_bk rfl, nou_bk rfl, trivial⟩)).addR hz212 ⟨nou_bk rfl, nou_bk rfl, nou_bk rfl, nou_bk rfl, nou_bk rfl, nou_bk rfl, trivial⟩
    clear hr hz212
    clear hb
    revert a
    refine mA rfl rfl ?_
    refine sA (v := .slice A205 n0 c206) rfl (fun _ henv => rn_extract henv rfl rfl) ?_
    refine sA (v := .agg #[.bool (neg (primN (es0.map vz))), .slice A210 (dl (primN (es0.map vz))) c211]) rfl (fun _ henv => rn_extract henv rfl rfl) ?_
    intro a henv
    refine seq_step rfl (op_alloc (c := #[.bool (neg 0), .slice none (dl 0) 0]) henv hst rfl zero_anvil_anvilref02_Int rcells ?_)
    clear henv hst a; intro a w215 g214 henv hst
    refine sv (v := .slice A205 n0 c206) henv rfl (rn_assign henv rfl) ?_
    clear henv a; intro a henv
    refine seq_step rfl (op_store (k := 0) (c' := #[.bool (neg (primN (es0.map vz))), .slice A210 (dl (primN (es0.map vz))) c211]) henv hst (ty_anvil_anvilref02_Int.size) rfl rfl rfl rfl (by simp) rfl rfl ?_)
    clear henv hst a; intro a w216 henv hst
    refine wpList_nil ?_
    refine th_n ?_
    refine wp_seq ?_
    refine region_seq ?_
    refine sv (v := .slice A60 n0 c61) henv rfl (rn_move henv rfl) ?_
    clear henv a; intro a henv
    refine seq_step rfl (op_call henv rfl Tryd.call80 rfl (row_primitive (hst.pat (k := 6) rfl) hz64 ((hkx.mono (by decide))) (by omega)) ?_)
    rintro e w226 ⟨_, _, rfl, ⟨A217, c218, es219, rfl, hr, hl220, hz221⟩, ⟨A223, c224, rfl, hz225⟩, hb⟩
    refine ⟨_, rfl, ?_⟩
    clear henv a; intro a henv
    replace hst := (hst.freshRow hb hr (ap_N hr.2.1 ⟨nou_rowS, ⟨nou_bk rfl, nou_bk rfl, nou_bk rfl, nou_bk rfl, nou_bk rfl, nou_bk rfl, nou_bk rfl, trivial⟩⟩)).addZ hz225 ⟨nou_rowS, ⟨nou_bk rfl, nou_bk rfl, nou_bk rfl, nou_bk rfl, nou_bk rfl, nou_bk rfl, nou_bk rfl, trivial⟩⟩
    clear hr hz225
    clear hb
    revert a
    refine mA rfl rfl ?_
    refine sA (v := .slice A217 n0 c218) rfl (fun _ henv => rn_extract henv rfl rfl) ?_
    refine sA (v := .agg #[.bool (neg (primN (es0.map vz))), .slice A223 (zl (primN (es0.map vz))) c224]) rfl (fun _ henv => rn_extract henv rfl rfl) ?_
    intro a henv
    refine seq_step rfl (op_alloc (c := #[.bool (neg 0), .slice none (zl 0) 0]) henv hst rfl zero_anvil_integer_Int zcells ?_)
    clear henv hst a; intro a w228 g227 henv hst
    refine sv (v := .slice A217 n0 c218) henv rfl (rn_assign henv rfl) ?_
    clear henv a; intro a henv
    refine seq_step rfl (op_store (k := 0) (c' := #[.bool (neg (primN (es0.map vz))), .slice A223 (zl (primN (es0.map vz))) c224]) henv hst (ty_anvil_integer_Int.size) rfl rfl rfl rfl (by simp) rfl rfl ?_)
    clear henv hst a; intro a w229 henv hst
    refine wpList_nil ?_
    refine th_n ?_
    refine wp_seq ?_
    refine wp_seq ?_
    refine region_any (n := 28) (Sk [bk g227 #[.bool (neg (primN (es0.map vz))), .slice A223 (zl (primN (es0.map vz))) c224] 36, bk g214 #[.bool (neg (primN (es0.map vz))), .slice A210 (dl (primN (es0.map vz))) c211] 39, bk g202 #[.bool (neg (gcdL (es0.map vz))), .slice A198 (dl (gcdL (es0.map vz))) c199] 39, bk g82 #[.bool (neg z2), .slice A76 (dl z2) c77] 39, bk g80 #[.bool (neg z2), .slice A72 (zl z2) c73] 36, bk g56 #[.slice A0 n0 c0, .slice (some ⟨g54, 0, none⟩) 1 1] 22, bk g54 #[.bool b2, .slice A2 n2 c2] 25, bk g51 #[.bool b2, .slice A2 n2 c2] 25] [pfZ A223 c224 (primN (es0.map vz)), pfEs FN es219, pfR A210 c211 (primN (es0.map vz)), pfRow fM FM 2 A205 n0 c206 es207, pfR A198 c199 (gcdL (es0.map vz)), pfR A76 c77 z2, pfZ A72 c73 z2, pfRow fM FM 2 A65 n0 c66 es67, pfRow fN FN 2 A60 n0 c61 es62, pfU A2 n2 c2 xs2, pfRow fU FU 2 A0 n0 c0 es0] [] []) mixed rfl henv hst ?_
    clear henv hst; intro w230 henv hst
    refine tM (i := 0) [1, 3, 4, 5, 6, 7, 8, 9, 10, 11, 12, 13, 14, 15, 16, 17, 18, 19, 20, 21, 22, 23, 24, 25, 26, 27] rfl (by kernel_rfl) (fun _ _ _ h => h) henv rfl rfl ?_
    clear henv a; intro a henv
    refine tL (i := 2) 2 3 (rg 3 25) rfl (by kernel_rfl) (fun _ _ _ h => h) henv rfl ty_anvil_anvilref02_Int rfl hst rfl rfl rfl ?_
    clear henv a; intro a henv
    refine sAny_one (i := 1) (by kernel_rfl) rfl rfl (op_call henv rfl Tryd.call81 rfl (row_content (hst.pat (k := 8) rfl) hz64 ((hkx.mono (by decide)))) ?_)
    rintro e w234 ⟨_, rfl, ⟨A231, c232, rfl, hz233⟩, hb⟩
    refine ⟨_, rfl, ?_⟩
    clear henv a; intro a henv
    replace hst := (hst.call hb).addZ hz233 ⟨nou_bk rfl, nou_rowS, nou_bk rfl, nou_bk rfl, nou_bk rfl, nou_bk rfl, nou_bk rfl, nou_bk rfl, nou_bk rfl, trivial⟩
    clear hz233
    clear hb
    refine ⟨.inr ⟨hst.kn.pick [0, 2, 3, 4, 5, 6, 7, 8] (rg 1 11), .inr (hst.kn.pick [] [])⟩, ?_⟩
    refine sAny_one (i := 3) (by kernel_rfl) rfl rfl (op_call henv rfl Tryd.call35 rfl (num_one (z := (gcdL (es0.map vz))) (show ZIn _ A231 c232 (gcdL (es0.map vz)) from hst.pat (k := 0) rfl) (show RIn _ A198 c199 (gcdL (es0.map vz)) from hst.pat (k := 5) rfl) (Nat.le_trans hg1 (by decide))) ?_)
    rintro e w235 ⟨rfl, hb⟩
    refine ⟨_, rfl, ?_⟩
    clear henv a; intro a henv
    replace hst := hst.call hb
    clear hb
    refine ⟨.inr ⟨hst.kn.pick [0, 2, 3, 4, 5, 6, 7, 8] (rg 1 11), .inr (hst.kn.pick [] [])⟩, ?_⟩
    refine tA (i := 4) (rg 5 23) (v := .bool false) rfl (by kernel_rfl) (fun _ _ _ h => h) henv rfl (fun _ => rn_un henv rfl rfl) ?_
    clear henv a; intro a henv
    refine tM (i := 5) (rg 6 22) rfl (by kernel_rfl) (fun _ _ _ h => h) henv rfl rfl ?_
    clear henv a; intro a henv
    refine tAg (i := 6) (rg 8 20) (v := .slice A217 n0 c218) rfl (by kernel_rfl) (fun _ _ _ h => h) henv rfl rfl rfl rfl (fun _ => rn_move henv rfl) ?_
    clear henv a; intro a henv
    refine tAg (i := 7) (rg 8 20) (v := .slice A205 n0 c206) rfl (by kernel_rfl) (fun _ _ _ h => h) henv rfl rfl rfl rfl (fun _ => rn_move henv rfl) ?_
    clear henv a; intro a henv
    refine sAny_oneg (i := 8) (by kernel_rfl) rfl rfl henv rfl rfl rfl (op_call henv rfl Tryd.call27 rfl (row_is ⟨rowS_rd (hst.owns (k := 1) rfl), hl220, hst.pat (k := 2) rfl⟩ hz221 (hst.pat (k := 4) rfl) hz209 ((hkx.prim.mono (by decide)))) ?_)
    rintro e w236 ⟨rfl, hb⟩
    refine ⟨_, rfl, ?_⟩
    clear henv a; intro a henv
    replace hst := hst.call hb
    clear hb
    refine ⟨.inr ⟨hst.kn.pick [0, 2, 3, 4, 5, 6, 7, 8] (rg 1 11), .inr (hst.kn.pick [] [])⟩, ?_⟩
    refine tAg (i := 9) (rg 10 18) (v := .bool false) rfl (by kernel_rfl) (fun _ _ _ h => h) henv rfl rfl rfl rfl (fun _ => rn_un henv rfl rfl) ?_
    clear henv a; intro a henv
    refine tA (i := 10) (rg 11 17) (v := .bool false) rfl (by kernel_rfl) (fun _ _ _ h => h) henv rfl (fun _ => rn_pick henv rfl rfl) ?_
    clear henv a; intro a henv
    refine tM (i := 11) (rg 12 16) rfl (by kernel_rfl) (fun _ _ _ h => h) henv rfl rfl ?_
    clear henv a; intro a henv
    refine tLg (i := 12) 0 0 (rg 14 14) rfl (by kernel_rfl) (fun _ _ _ h => h) henv rfl rfl rfl rfl ty_anvil_integer_Int rfl hst rfl rfl rfl ?_
    clear henv a; intro a henv
    refine tLg (i := 13) 1 2 (rg 14 14) rfl (by kernel_rfl) (fun _ _ _ h => h) henv rfl rfl rfl rfl ty_anvil_anvilref02_Int rfl hst rfl rfl rfl ?_
    clear henv a; intro a henv
    refine sAny_oneg (i := 14) (by kernel_rfl) rfl rfl henv rfl rfl rfl (op_call henv rfl Tryd.call35 rfl (num_one (z := (primN (es0.map vz))) (show ZIn _ A223 c224 (primN (es0.map vz)) from hst.pat (k := 1) rfl) (show RIn _ A210 c211 (primN (es0.map vz)) from hst.pat (k := 3) rfl) (Nat.le_trans hg2 (by decide))) ?_)
    rintro e w237 ⟨rfl, hb⟩
    refine ⟨_, rfl, ?_⟩
    clear henv a; intro a henv
    replace hst := hst.call hb
    clear hb
    refine ⟨.inr ⟨hst.kn.pick [0, 2, 3, 4, 5, 6, 7, 8] (rg 1 11), .inr (hst.kn.pick [] [])⟩, ?_⟩
    refine tAg (i := 15) (rg 16 12) (v := .bool false) rfl (by kernel_rfl) (fun _ _ _ h => h) henv rfl rfl rfl rfl (fun _ => rn_un henv rfl rfl) ?_
    clear henv a; intro a henv
    refine tA (i := 16) (rg 17 11) (v := .bool false) rfl (by kernel_rfl) (fun _ _ _ h => h) henv rfl (fun _ => rn_pick henv rfl rfl) ?_
    clear henv a; intro a henv
    refine tM (i := 17) (rg 18 10) rfl (by kernel_rfl) (fun _ _ _ h => h) henv rfl rfl ?_
    clear henv a; intro a henv
    refine tAg (i := 18) (rg 21 7) (v := .slice A217 n0 c218) rfl (by kernel_rfl) (fun _ _ _ h => h) henv rfl rfl rfl rfl (fun _ => rn_move henv rfl) ?_
    clear henv a; intro a henv
    refine tAg (i := 19) (rg 21 7) (v := .slice A60 n0 c61) rfl (by kernel_rfl) (fun _ _ _ h => h) henv rfl rfl rfl rfl (fun _ => rn_move henv rfl) ?_
    clear henv a; intro a henv
    refine tAg (i := 20) (rg 21 7) (v := .slice A65 n0 c66) rfl (by kernel_rfl) (fun _ _ _ h => h) henv rfl rfl rfl rfl (fun _ => rn_move henv rfl) ?_
    clear henv a; intro a henv
    refine sAny_oneg (i := 21) (by kernel_rfl) rfl rfl henv rfl rfl rfl (op_call henv rfl Tryd.call30 rfl (row_own (hst.toRest (k := 1) rfl [9, 8]) hz64 hz69 ((hkx.mono (by decide)))) ?_)
    rintro e w238 ⟨rfl, hst2⟩
    refine ⟨_, rfl, ?_⟩
    clear henv a; intro a henv
    replace hst := hst.rest (k := 1) rfl hst2
    clear hst2
    replace hst : St w0 _ [bk g227 #[.bool (neg (primN (es0.map vz))), .slice A223 (zl (primN (es0.map vz))) c224] 36, bk g214 #[.bool (neg (primN (es0.map vz))), .slice A210 (dl (primN (es0.map vz))) c211] 39, bk g202 #[.bool (neg (gcdL (es0.map vz))), .slice A198 (dl (gcdL (es0.map vz))) c199] 39, bk g82 #[.bool (neg z2), .slice A76 (dl z2) c77] 39, bk g80 #[.bool (neg z2), .slice A72 (zl z2) c73] 36, bk g56 #[.slice A0 n0 c0, .slice (some ⟨g54, 0, none⟩) 1 1] 22, bk g54 #[.bool b2, .slice A2 n2 c2] 25, bk g51 #[.bool b2, .slice A2 n2 c2] 25] [pfZ A231 c232 (gcdL (es0.map vz)), pfZ A223 c224 (primN (es0.map vz)), pfEs FN es219, pfR A210 c211 (primN (es0.map vz)), pfRow fM FM 2 A205 n0 c206 es207, pfR A198 c199 (gcdL (es0.map vz)), pfR A76 c77 z2, pfZ A72 c73 z2, pfRow fM FM 2 A65 n0 c66 es67, pfRow fN FN 2 A60 n0 c61 es62, pfU A2 n2 c2 xs2, pfRow fU FU 2 A0 n0 c0 es0] := hst
    refine ⟨.inr ⟨hst.kn.pick (rg 0 8) (rg 1 11), .inr (hst.kn.pick [] [])⟩, ?_⟩
    refine tAg (i := 22) (rg 23 5) (v := .bool false) rfl (by kernel_rfl) (fun _ _ _ h => h) henv rfl rfl rfl rfl (fun _ => rn_un henv rfl rfl) ?_
    clear henv a; intro a henv
    refine tA (i := 23) (rg 24 4) (v := .bool false) rfl (by kernel_rfl) (fun _ _ _ h => h) henv rfl (fun _ => rn_pick henv rfl rfl) ?_
    clear henv a; intro a henv
    refine tM (i := 24) [25, 26, 27] rfl (by kernel_rfl) (fun _ _ _ h => h) henv rfl rfl ?_
    clear henv a; intro a henv
    refine sAny_oneg (i := 25) (by kernel_rfl) rfl rfl henv rfl rfl rfl (op_call henv rfl Tryd.call16 rfl (row_live) ?_)
    rintro e w239 ⟨rfl, hb⟩
    refine ⟨_, rfl, ?_⟩
    clear henv a; intro a henv
    replace hst := hst.call hb
    clear hb
    refine ⟨.inr ⟨hst.kn.pick (rg 0 8) (rg 1 11), .inr (hst.kn.pick [] [])⟩, ?_⟩
    refine tAg (i := 26) [27] (v := .bool false) rfl (by kernel_rfl) (fun _ _ _ h => h) henv rfl rfl rfl rfl (fun _ => rn_un henv rfl rfl) ?_
    clear henv a; intro a henv
    refine tA (i := 27) [] (v := .bool false) rfl (by kernel_rfl) (fun _ _ _ h => h) henv rfl (fun _ => rn_pick henv rfl rfl) ?_
    clear henv a; intro a henv
    refine sAny_done (by kernel_rfl) ?_ _
    refine th_n ?_
    refine if_f henv rfl (rfl) ?_
    refine wp_skip ?_
    refine th_n ?_
    refine wp_seq ?_
    refine wp_seq ?_
    refine region_seq ?_
    refine sv (v := .agg #[.bool (neg z2), .slice A76 (dl z2) c77]) henv rfl (rn_load0 henv ty_anvil_anvilref02_Int rfl (hst.oat (k := 3) rfl) rfl) ?_
    clear henv a; intro a henv
    refine seq_step rfl (op_call henv rfl Tryd.call82 rfl (sign_r (z := z2)) ?_)
    rintro e w240 ⟨rfl, hb⟩
    refine ⟨_, rfl, ?_⟩
    clear henv a; intro a henv
    replace hst := hst.call hb
    clear hb
    refine sv (v := .bool (z2.sign == (0 : Int))) henv rfl (rn_bin henv rfl rfl rfl) ?_
    clear henv a; intro a henv
    rw [show (z2.sign == (0 : Int)) = true from (by rw [hz20]; rfl)] at henv
    refine wpList_nil ?_
    refine th_n ?_
    refine if_t henv rfl (rfl) ?_
    refine wp_seq ?_
    refine region_seq ?_
    revert a
    refine mA rfl rfl ?_
    refine sA (v := .int .i64 0) rfl (fun _ henv => rn_len henv Tryd.underlying30 rfl) ?_
    refine sA (v := .bool true) rfl (fun _ henv => rn_bin henv rfl rfl rfl) ?_
    refine mA rfl rfl ?_
    refine gA (v := .int .i64 2) rfl rfl rfl rfl (fun _ henv => rn_move henv rfl) ?_
    refine gA (v := .bool true) rfl rfl rfl rfl (fun _ henv => rn_bin henv rfl rfl rfl) ?_
    refine sA (v := .bool true) rfl (fun _ henv => rn_pick henv rfl rfl) ?_
    refine aA rfl rfl ?_
    intro a henv
    refine wpList_nil ?_
    refine th_n ?_
    refine wp_ret ?_
    refine th_r ?_
    refine leave henv (res1 Tryd.results12 (RV.tmp henv rfl)) ?_
    exact ⟨rfl, hst.below⟩
set_option maxRecDepth 100000 in
set_option maxHeartbeats 8000000 in
theorem rdivides_no {A0 A2 : Option Addr} {n0 c0 n2 c2 : Nat} {es0 : List UE} {b2 : Bool} {xs2 : List Nat} {z2 : Int} {w0 : World} (h0 : (pfRow fU FU 2 A0 n0 c0 es0).P w0) (hn0 : n0 ≤ 35184372088832) (hs0 : Sz es0) (h2 : U32 w0 A2 n2 c2 xs2) (hn2 : n2 ≤ 35184372088832) (hv2 : sg b2 (val 4294967296 xs2) = z2) (hzn : z2 ≠ 0) (hdv : ¬ divs z2 (es0.map vz)) :
    Calls Tryd.prog 12 #[.slice A0 n0 c0, .agg #[.bool b2, .slice A2 n2 c2]] w0 fun e w' => e = .returned (.bool true) ∧ Below w0.heap.size w0 w' := by
  refine enter Tryd.func12 rfl Tryd.ntmps12 rfl ?_
  intro a henv hst
  replace hst := (hst.argRow h0).addU h2 trivial
  clear h0 h2
  replace hst : St w0 _ [] [pfU A2 n2 c2 xs2, pfRow fU FU 2 A0 n0 c0 es0] := hst
  refine wp_seq ?_
  refine region_seq ?_
  refine seq_step rfl (op_box (c := #[.bool b2, .slice A2 n2 c2]) henv hst rfl rfl rfl ?_)
  clear henv hst a; intro a w52 g51 henv hst
  refine sv (v := .bool false) henv rfl (rn_assign henv rfl) ?_
  clear henv a; intro a henv
  refine wpList_nil ?_
  refine th_n ?_
  refine wp_seq ?_
  refine wp_seq ?_
  refine region_seq ?_
  refine seq_step rfl (op_call henv rfl Tryd.call16 rfl (row_live) ?_)
  rintro e w53 ⟨rfl, hb⟩
  refine ⟨_, rfl, ?_⟩
  clear henv a; intro a henv
  replace hst := hst.call hb
  clear hb
  refine sv (v := .bool false) henv rfl (rn_un henv rfl rfl) ?_
  clear henv a; intro a henv
  refine wpList_nil ?_
  refine th_n ?_
  refine if_f henv rfl (rfl) ?_
  refine wp_skip ?_
  refine th_n ?_
  refine wp_seq ?_
  refine wp_seq ?_
  refine region_seq ?_
  revert a
  refine mA rfl rfl ?_
  refine sA (v := .agg #[.bool b2, .slice A2 n2 c2]) rfl (fun _ henv => rn_load0 henv ty_anvil_anvillaw04_Num rfl (hst.oat (k := 0) rfl) rfl) ?_
  intro a henv
  refine seq_step rfl (op_buildSlice (z := 2) (pv := #[(0, .agg #[.bool b2, .slice A2 n2 c2])]) (c := #[.bool b2, .slice A2 n2 c2]) henv hst rfl Tryd.underlying22 (ty_anvil_anvillaw04_Num.size) zero_anvil_anvillaw04_Num (by decide) (by decide) rfl (by kernel_rfl) ?_)
  clear henv hst a; intro a w55 g54 henv hst
  refine seq_step rfl (op_buildSlice (z := 1) (pv := #[(0, .slice A0 n0 c0), (1, .slice (some ⟨g54, 0, none⟩) 1 1)]) (c := #[.slice A0 n0 c0, .slice (some ⟨g54, 0, none⟩) 1 1]) henv hst rfl Tryd.underlying139 (ty__anvillaw04_Num.size) zero__anvillaw04_Num (by decide) (by decide) rfl (by kernel_rfl) ?_)
  clear henv hst a; intro a w57 g56 henv hst
  refine seq_step rfl (op_call henv rfl Tryd.call17 rfl (row_long (pv2 (v0 := (A0, n0, c0, es0)) (v1 := (some ⟨g54, 0, none⟩, 1, 1, [(b2, A2, n2, c2, xs2)])) (hst.oat (k := 0) rfl) (hst.pat (k := 1) rfl) (pu1 (e0 := (b2, A2, n2, c2, xs2)) (hst.oat (k := 1) rfl) (show U32 _ A2 n2 c2 xs2 from hst.pat (k := 0) rfl))) (lg_cons hn0 hs0 (lg_cons (show 1 ≤ 35184372088832 by decide) (sz_cons hn2 sz_nil) lg_nil))) ?_)
  rintro e w58 ⟨bl, rfl, hbl, hb⟩
  refine ⟨_, rfl, ?_⟩
  clear henv a; intro a henv
  replace hst := hst.call hb
  clear hb
  refine wpList_nil ?_
  refine th_n ?_
  refine if_split henv rfl (fun hc59 => ?_) (fun hc59 => ?_)
  · refine wp_seq ?_
    refine region_seq ?_
    refine sv (v := .bool true) henv rfl (rn_assign henv rfl) ?_
    clear henv a; intro a henv
    refine wpList_nil ?_
    refine th_n ?_
    refine wp_ret ?_
    refine th_r ?_
    refine leave henv (res1 Tryd.results12 (RV.tmp henv rfl)) ?_
    exact ⟨rfl, hst.below⟩
  · obtain ⟨hx0, hx2, hx4⟩ := tv_twoN (hbl hc59)
    replace hx4 : n2 ≤ 300 := hx4
    have hkx : Zk 300 (es0.map vz) := Zk.vz (hst.pat (k := 1) rfl).2.2 hx2
    have hz2s : zl z2 ≤ 300 := by rw [← hv2]; exact zl_vze (show U32 _ A2 n2 c2 xs2 from hst.pat (k := 0) rfl) hx4
    have hkm : Zk 600 ((es0.map vz).map (z2 * ·)) := hkx.map fun z hz => Nat.le_trans (zl_mul _ _) (by omega)
    have hkq : Zk 300 ((es0.map vz).map (· / z2)) := hkx.map fun z hz => Nat.le_trans (zl_ediv _ _) hz
    have hkb : Zk 600 (((es0.map vz).map (z2 * ·)).map (· / z2)) := hkm.map fun z hz => Nat.le_trans (zl_ediv _ _) hz
    have hg1 := zl_gcdL hkx
    have hg2 := zl_primN hkx
    refine wp_skip ?_
    refine th_n ?_
    refine wp_seq ?_
    refine region_seq ?_
    refine sv (v := .slice A0 n0 c0) henv rfl (rn_move henv rfl) ?_
    clear henv a; intro a henv
    refine seq_step rfl (op_call henv rfl Tryd.call18 rfl (row_of2 (hst.pat (k := 1) rfl) (fun e he => Nat.le_trans (tl_mem he) (by omega)) (by omega)) ?_)
    rintro e w70 ⟨_, _, rfl, ⟨A60, c61, es62, rfl, hr, hl63, hz64⟩, ⟨A65, c66, es67, rfl, hr2, hl68, hz69⟩, hb⟩
    refine ⟨_, rfl, ?_⟩
    clear henv a; intro a henv
    replace hst := hst.fresh2 hb hr hl63 (ap_N hr.2.1 ⟨nou_bk rfl, nou_bk rfl, nou_bk rfl, trivial⟩) hr2 hl68 (ap_M hr2.2.1 ⟨nou_bk rfl, nou_bk rfl, nou_bk rfl, trivial⟩)
    clear hr
    clear hr2
    clear hb
    revert a
    refine mA rfl rfl ?_
    refine sA (v := .slice A60 n0 c61) rfl (fun _ henv => rn_extract henv rfl rfl) ?_
    refine sA (v := .slice A65 n0 c66) rfl (fun _ henv => rn_extract henv rfl rfl) ?_
    refine aA rfl rfl ?_
    refine aA rfl rfl ?_
    intro a henv
    refine wpList_nil ?_
    refine th_n ?_
    refine wp_seq ?_
    refine cut (fun a w => ∃ A72 : Option Addr, ∃ c73 : Nat, ∃ A76 : Option Addr, ∃ c77 : Nat, ∃ g80 : Nat, ∃ g82 : Nat, Env 143 a [(0, .slice A0 n0 c0), (1, .agg #[.bool b2, .slice A2 n2 c2]), (3, .pointer (some ⟨g51, 0, none⟩)), (4, .bool false), (20, .bool true), (21, .bool false), (22, .slice A0 n0 c0), (23, .agg #[.bool b2, .slice A2 n2 c2]), (24, .slice (some ⟨g54, 0, none⟩) 1 1), (25, .slice (some ⟨g56, 0, none⟩) 2 2), (26, .bool bl), (28, .slice A0 n0 c0), (29, .tuple #[.slice A60 n0 c61, .slice A65 n0 c66]), (27, .tuple #[.slice A60 n0 c61, .slice A65 n0 c66]), (30, .slice A60 n0 c61), (31, .slice A65 n0 c66), (5, .slice A60 n0 c61), (6, .slice A65 n0 c66), (7, .pointer (some ⟨g80, 0, none⟩)), (8, .pointer (some ⟨g82, 0, none⟩))] ∧ St w0 w [bk g82 #[.bool (neg z2), .slice A76 (dl z2) c77] 39, bk g80 #[.bool (neg z2), .slice A72 (zl z2) c73] 36, bk g56 #[.slice A0 n0 c0, .slice (some ⟨g54, 0, none⟩) 1 1] 22, bk g54 #[.bool b2, .slice A2 n2 c2] 25, bk g51 #[.bool b2, .slice A2 n2 c2] 25] [pfR A76 c77 z2, pfZ A72 c73 z2, pfRow fM FM 2 A65 n0 c66 es67, pfRow fN FN 2 A60 n0 c61 es62, pfU A2 n2 c2 xs2, pfRow fU FU 2 A0 n0 c0 es0]) ?_ ?_
    · refine region_any (n := 14) (Sk [bk g56 #[.slice A0 n0 c0, .slice (some ⟨g54, 0, none⟩) 1 1] 22, bk g54 #[.bool b2, .slice A2 n2 c2] 25, bk g51 #[.bool b2, .slice A2 n2 c2] 25] [pfRow fM FM 2 A65 n0 c66 es67, pfRow fN FN 2 A60 n0 c61 es62, pfU A2 n2 c2 xs2, pfRow fU FU 2 A0 n0 c0 es0] [12, 13] []) mixed rfl henv hst ?_
      clear henv hst; intro w71 henv hst
      refine tA (i := 0) [1, 4, 9, 12, 13] (v := .pointer (some ⟨g51, 0, none⟩)) rfl (by kernel_rfl) (fun _ _ _ h => h) henv rfl (fun _ => rn_fieldAddr henv fd_anvil_anvillaw04_Num_0 (ty_bool.size) (by decide) rfl) ?_
      clear henv a; intro a henv
      refine sAny_take (i := 1) [4, 9, 12, 13] (fun w' => w'.heap[g51]? = some (.cells #[.bool b2, .slice A2 n2 c2] 25 (0, 0))) (v := .bool b2) rfl (by kernel_rfl) (fun _ _ _ h => h) (fun _ _ _ hS => hS.1.oat (k := 2) rfl) henv rfl (hst.oat (k := 2) rfl) (fun w' hg => rn_load1 henv ty_bool rfl hg rfl) ?_
      clear henv a; intro a henv
      refine tA (i := 2) [3, 4, 9, 12, 13] (v := .pointer (some ⟨g51, 1, none⟩)) rfl (by kernel_rfl) (fun _ _ _ h => h) henv rfl (fun _ => rn_fieldAddr henv fd_anvil_anvillaw04_Num_1 (ty__uint32.size) (by decide) rfl) ?_
      clear henv a; intro a henv
      refine sAny_take (i := 3) [4, 9, 12, 13] (fun w' => w'.heap[g51]? = some (.cells #[.bool b2, .slice A2 n2 c2] 25 (0, 0))) (v := .slice A2 n2 c2) rfl (by kernel_rfl) (fun _ _ _ h => h) (fun _ _ _ hS => hS.1.oat (k := 2) rfl) henv rfl (hst.oat (k := 2) rfl) (fun w' hg => rn_load1 henv ty__uint32 rfl hg rfl) ?_
      clear henv a; intro a henv
      refine tA (i := 5) [6, 9, 12, 13] (v := .pointer (some ⟨g51, 0, none⟩)) rfl (by kernel_rfl) (fun _ _ _ h => h) henv rfl (fun _ => rn_fieldAddr henv fd_anvil_anvillaw04_Num_0 (ty_bool.size) (by decide) rfl) ?_
      clear henv a; intro a henv
      refine sAny_take (i := 6) [9, 12, 13] (fun w' => w'.heap[g51]? = some (.cells #[.bool b2, .slice A2 n2 c2] 25 (0, 0))) (v := .bool b2) rfl (by kernel_rfl) (fun _ _ _ h => h) (fun _ _ _ hS => hS.1.oat (k := 2) rfl) henv rfl (hst.oat (k := 2) rfl) (fun w' hg => rn_load1 henv ty_bool rfl hg rfl) ?_
      clear henv a; intro a henv
      refine tA (i := 7) [8, 9, 12, 13] (v := .pointer (some ⟨g51, 1, none⟩)) rfl (by kernel_rfl) (fun _ _ _ h => h) henv rfl (fun _ => rn_fieldAddr henv fd_anvil_anvillaw04_Num_1 (ty__uint32.size) (by decide) rfl) ?_
      clear henv a; intro a henv
      refine sAny_take (i := 8) [9, 12, 13] (fun w' => w'.heap[g51]? = some (.cells #[.bool b2, .slice A2 n2 c2] 25 (0, 0))) (v := .slice A2 n2 c2) rfl (by kernel_rfl) (fun _ _ _ h => h) (fun _ _ _ hS => hS.1.oat (k := 2) rfl) henv rfl (hst.oat (k := 2) rfl) (fun w' hg => rn_load1 henv ty__uint32 rfl hg rfl) ?_
      clear henv a; intro a henv
      refine sAny_all (rs := [4, 10, 11]) (by kernel_rfl) (by simp) ?_
      simp only [List.forall_mem_cons, List.not_mem_nil, false_implies, implies_true, and_true]
      refine ⟨?_, ?_, ?_⟩
      · refine ⟨_, rfl, rfl, op_call henv rfl Tryd.call19 rfl (make_zv (show U32 _ A2 n2 c2 xs2 from hst.pat (k := 2) rfl) hv2 (by omega)) ?_⟩
        rintro e w75 ⟨_, rfl, ⟨A72, c73, rfl, hz74⟩, hb⟩
        refine ⟨_, rfl, ?_⟩
        clear henv a; intro a henv
        replace hst := (hst.call hb).addZ hz74 ⟨nou_bk rfl, nou_bk rfl, nou_bk rfl, trivial⟩
        clear hz74
        clear hb
        refine ⟨.inr ⟨hst.kn.pick [0, 1, 2] (rg 1 4), .inr (hst.kn.pick [] [])⟩, ?_⟩
        refine sAny_all (rs := [9, 10, 11]) (by kernel_rfl) (by simp) ?_
        simp only [List.forall_mem_cons, List.not_mem_nil, false_implies, implies_true, and_true]
        refine ⟨?_, ?_, ?_⟩
        · refine ⟨_, rfl, rfl, op_call henv rfl Tryd.call20 rfl (make_rv (show U32 _ A2 n2 c2 xs2 from hst.pat (k := 3) rfl) hv2 (by omega)) ?_⟩
          rintro e w79 ⟨_, rfl, ⟨A76, c77, rfl, hz78⟩, hb⟩
          refine ⟨_, rfl, ?_⟩
          clear henv a; intro a henv
          replace hst := (hst.call hb).addR hz78 ⟨nou_bk rfl, nou_bk rfl, nou_bk rfl, trivial⟩
          clear hz78
          clear hb
          refine ⟨.inr ⟨hst.kn.pick [0, 1, 2] (rg 2 4), .inr (hst.kn.pick [] [])⟩, ?_⟩
          refine sAny_all (rs := [10, 11]) (by kernel_rfl) (by simp) ?_
          simp only [List.forall_mem_cons, List.not_mem_nil, false_implies, implies_true, and_true]
          refine ⟨?_, ?_⟩
          · refine ⟨_, rfl, rfl, op_alloc (c := #[.bool (neg 0), .slice none (zl 0) 0]) henv hst rfl zero_anvil_integer_Int zcells ?_⟩
            clear henv hst a; intro a w81 g80 henv hst
            refine ⟨.inr ⟨hst.kn.pick [1, 2, 3] (rg 2 4), .inr (hst.kn.pick [] [])⟩, ?_⟩
            refine sAny_one (i := 11) (by kernel_rfl) rfl rfl (op_alloc (c := #[.bool (neg 0), .slice none (dl 0) 0]) henv hst rfl zero_anvil_anvilref02_Int rcells ?_)
            clear henv hst a; intro a w83 g82 henv hst
            refine ⟨.inr ⟨hst.kn.pick [2, 3, 4] (rg 2 4), .inr (hst.kn.pick [] [])⟩, ?_⟩
            refine sAny_one (i := 12) (by kernel_rfl) rfl rfl (op_store (k := 1) (c' := #[.bool (neg z2), .slice A72 (zl z2) c73]) henv hst (ty_anvil_integer_Int.size) rfl rfl rfl rfl (by simp) rfl rfl ?_)
            clear henv hst a; intro a w84 henv hst
            refine ⟨.inr ⟨hst.kn.pick [2, 3, 4] (rg 2 4), .inl rfl⟩, ?_⟩
            refine sAny_one (i := 13) (by kernel_rfl) rfl rfl (op_store (k := 0) (c' := #[.bool (neg z2), .slice A76 (dl z2) c77]) henv hst (ty_anvil_anvilref02_Int.size) rfl rfl rfl rfl (by simp) rfl rfl ?_)
            clear henv hst a; intro a w85 henv hst
            refine ⟨.inr ⟨hst.kn.pick [2, 3, 4] (rg 2 4), .inl rfl⟩, ?_⟩
            refine sAny_done (by kernel_rfl) ?_ _
            exact th_n ⟨A72, c73, A76, c77, g80, g82, henv.sub ⟨rfl, rfl, rfl, rfl, rfl, rfl, rfl, rfl, rfl, rfl, rfl, rfl, rfl, rfl, rfl, rfl, rfl, rfl, rfl, rfl, trivial⟩, hst.pick [0, 1, 2, 3, 4] [0, 1, 2, 3, 4, 5] (by decide)⟩
          · refine ⟨_, rfl, rfl, op_alloc (c := #[.bool (neg 0), .slice none (dl 0) 0]) henv hst rfl zero_anvil_anvilref02_Int rcells ?_⟩
            clear henv hst a; intro a w87 g86 henv hst
            refine ⟨.inr ⟨hst.kn.pick [1, 2, 3] (rg 2 4), .inr (hst.kn.pick [] [])⟩, ?_⟩
            refine sAny_one (i := 10) (by kernel_rfl) rfl rfl (op_alloc (c := #[.bool (neg 0), .slice none (zl 0) 0]) henv hst rfl zero_anvil_integer_Int zcells ?_)
            clear henv hst a; intro a w89 g88 henv hst
            refine ⟨.inr ⟨hst.kn.pick [2, 3, 4] (rg 2 4), .inr (hst.kn.pick [] [])⟩, ?_⟩
            refine sAny_one (i := 12) (by kernel_rfl) rfl rfl (op_store (k := 0) (c' := #[.bool (neg z2), .slice A72 (zl z2) c73]) henv hst (ty_anvil_integer_Int.size) rfl rfl rfl rfl (by simp) rfl rfl ?_)
            clear henv hst a; intro a w90 henv hst
            refine ⟨.inr ⟨hst.kn.pick [2, 3, 4] (rg 2 4), .inl rfl⟩, ?_⟩
            refine sAny_one (i := 13) (by kernel_rfl) rfl rfl (op_store (k := 1) (c' := #[.bool (neg z2), .slice A76 (dl z2) c77]) henv hst (ty_anvil_anvilref02_Int.size) rfl rfl rfl rfl (by simp) rfl rfl ?_)
            clear henv hst a; intro a w91 henv hst
            refine ⟨.inr ⟨hst.kn.pick [2, 3, 4] (rg 2 4), .inl rfl⟩, ?_⟩
            refine sAny_done (by kernel_rfl) ?_ _
            exact th_n ⟨A72, c73, A76, c77, g88, g86, henv.sub ⟨rfl, rfl, rfl, rfl, rfl, rfl, rfl, rfl, rfl, rfl, rfl, rfl, rfl, rfl, rfl, rfl, rfl, rfl, rfl, rfl, trivial⟩, hst.pick [1, 0, 2, 3, 4] [0, 1, 2, 3, 4, 5] (by decide)⟩
        · refine ⟨_, rfl, rfl, op_alloc (c := #[.bool (neg 0), .slice none (zl 0) 0]) henv hst rfl zero_anvil_integer_Int zcells ?_⟩
          clear henv hst a; intro a w93 g92 henv hst
          refine ⟨.inr ⟨hst.kn.pick [1, 2, 3] (rg 1 4), .inr (hst.kn.pick [] [])⟩, ?_⟩
          refine sAny_all (rs := [9, 11]) (by kernel_rfl) (by simp) ?_
          simp only [List.forall_mem_cons, List.not_mem_nil, false_implies, implies_true, and_true]
          refine ⟨?_, ?_⟩
          · refine ⟨_, rfl, rfl, op_call henv rfl Tryd.call20 rfl (make_rv (show U32 _ A2 n2 c2 xs2 from hst.pat (k := 3) rfl) hv2 (by omega)) ?_⟩
            rintro e w97 ⟨_, rfl, ⟨A94, c95, rfl, hz96⟩, hb⟩
            refine ⟨_, rfl, ?_⟩
            clear henv a; intro a henv
            replace hst := (hst.call hb).addR hz96 ⟨nou_bk rfl, nou_bk rfl, nou_bk rfl, nou_bk rfl, trivial⟩
            clear hz96
            clear hb
            refine ⟨.inr ⟨hst.kn.pick [1, 2, 3] (rg 2 4), .inr (hst.kn.pick [] [])⟩, ?_⟩
            refine sAny_one (i := 11) (by kernel_rfl) rfl rfl (op_alloc (c := #[.bool (neg 0), .slice none (dl 0) 0]) henv hst rfl zero_anvil_anvilref02_Int rcells ?_)
            clear henv hst a; intro a w99 g98 henv hst
            refine ⟨.inr ⟨hst.kn.pick [2, 3, 4] (rg 2 4), .inr (hst.kn.pick [] [])⟩, ?_⟩
            refine sAny_one (i := 12) (by kernel_rfl) rfl rfl (op_store (k := 1) (c' := #[.bool (neg z2), .slice A72 (zl z2) c73]) henv hst (ty_anvil_integer_Int.size) rfl rfl rfl rfl (by simp) rfl rfl ?_)
            clear henv hst a; intro a w100 henv hst
            refine ⟨.inr ⟨hst.kn.pick [2, 3, 4] (rg 2 4), .inl rfl⟩, ?_⟩
            refine sAny_one (i := 13) (by kernel_rfl) rfl rfl (op_store (k := 0) (c' := #[.bool (neg z2), .slice A94 (dl z2) c95]) henv hst (ty_anvil_anvilref02_Int.size) rfl rfl rfl rfl (by simp) rfl rfl ?_)
            clear henv hst a; intro a w101 henv hst
            refine ⟨.inr ⟨hst.kn.pick [2, 3, 4] (rg 2 4), .inl rfl⟩, ?_⟩
            refine sAny_done (by kernel_rfl) ?_ _
            exact th_n ⟨A72, c73, A94, c95, g92, g98, henv.sub ⟨rfl, rfl, rfl, rfl, rfl, rfl, rfl, rfl, rfl, rfl, rfl, rfl, rfl, rfl, rfl, rfl, rfl, rfl, rfl, rfl, trivial⟩, hst.pick [0, 1, 2, 3, 4] [0, 1, 2, 3, 4, 5] (by decide)⟩
          · refine ⟨_, rfl, rfl, op_alloc (c := #[.bool (neg 0), .slice none (dl 0) 0]) henv hst rfl zero_anvil_anvilref02_Int rcells ?_⟩
            clear henv hst a; intro a w103 g102 henv hst
            refine ⟨.inr ⟨hst.kn.pick [2, 3, 4] (rg 1 4), .inr (hst.kn.pick [] [])⟩, ?_⟩
            refine sAny_one (i := 9) (by kernel_rfl) rfl rfl (op_call henv rfl Tryd.call20 rfl (make_rv (show U32 _ A2 n2 c2 xs2 from hst.pat (k := 3) rfl) hv2 (by omega)) ?_)
            rintro e w107 ⟨_, rfl, ⟨A104, c105, rfl, hz106⟩, hb⟩
            refine ⟨_, rfl, ?_⟩
            clear henv a; intro a henv
            replace hst := (hst.call hb).addR hz106 ⟨nou_bk rfl, nou_bk rfl, nou_bk rfl, nou_bk rfl, nou_bk rfl, trivial⟩
            clear hz106
            clear hb
            refine ⟨.inr ⟨hst.kn.pick [2, 3, 4] (rg 2 4), .inr (hst.kn.pick [] [])⟩, ?_⟩
            refine sAny_one (i := 12) (by kernel_rfl) rfl rfl (op_store (k := 1) (c' := #[.bool (neg z2), .slice A72 (zl z2) c73]) henv hst (ty_anvil_integer_Int.size) rfl rfl rfl rfl (by simp) rfl rfl ?_)
            clear henv hst a; intro a w108 henv hst
            refine ⟨.inr ⟨hst.kn.pick [2, 3, 4] (rg 2 4), .inl rfl⟩, ?_⟩
            refine sAny_one (i := 13) (by kernel_rfl) rfl rfl (op_store (k := 0) (c' := #[.bool (neg z2), .slice A104 (dl z2) c105]) henv hst (ty_anvil_anvilref02_Int.size) rfl rfl rfl rfl (by simp) rfl rfl ?_)
            clear henv hst a; intro a w109 henv hst
            refine ⟨.inr ⟨hst.kn.pick [2, 3, 4] (rg 2 4), .inl rfl⟩, ?_⟩
            refine sAny_done (by kernel_rfl) ?_ _
            exact th_n ⟨A72, c73, A104, c105, g92, g102, henv.sub ⟨rfl, rfl, rfl, rfl, rfl, rfl, rfl, rfl, rfl, rfl, rfl, rfl, rfl, rfl, rfl, rfl, rfl, rfl, rfl, rfl, trivial⟩, hst.pick [0, 1, 2, 3, 4] [0, 1, 2, 3, 4, 5] (by decide)⟩
        · refine ⟨_, rfl, rfl, op_alloc (c := #[.bool (neg 0), .slice none (dl 0) 0]) henv hst rfl zero_anvil_anvilref02_Int rcells ?_⟩
          clear henv hst a; intro a w111 g110 henv hst
          refine ⟨.inr ⟨hst.kn.pick [1, 2, 3] (rg 1 4), .inr (hst.kn.pick [] [])⟩, ?_⟩
          refine sAny_all (rs := [9, 10]) (by kernel_rfl) (by simp) ?_
          simp only [List.forall_mem_cons, List.not_mem_nil, false_implies, implies_true, and_true]
          refine ⟨?_, ?_⟩
          · refine ⟨_, rfl, rfl, op_call henv rfl Tryd.call20 rfl (make_rv (show U32 _ A2 n2 c2 xs2 from hst.pat (k := 3) rfl) hv2 (by omega)) ?_⟩
            rintro e w115 ⟨_, rfl, ⟨A112, c113, rfl, hz114⟩, hb⟩
            refine ⟨_, rfl, ?_⟩
            clear henv a; intro a henv
            replace hst := (hst.call hb).addR hz114 ⟨nou_bk rfl, nou_bk rfl, nou_bk rfl, nou_bk rfl, trivial⟩
            clear hz114
            clear hb
            refine ⟨.inr ⟨hst.kn.pick [1, 2, 3] (rg 2 4), .inr (hst.kn.pick [] [])⟩, ?_⟩
            refine sAny_one (i := 10) (by kernel_rfl) rfl rfl (op_alloc (c := #[.bool (neg 0), .slice none (zl 0) 0]) henv hst rfl zero_anvil_integer_Int zcells ?_)
            clear henv hst a; intro a w117 g116 henv hst
            refine ⟨.inr ⟨hst.kn.pick [2, 3, 4] (rg 2 4), .inr (hst.kn.pick [] [])⟩, ?_⟩
            refine sAny_one (i := 12) (by kernel_rfl) rfl rfl (op_store (k := 0) (c' := #[.bool (neg z2), .slice A72 (zl z2) c73]) henv hst (ty_anvil_integer_Int.size) rfl rfl rfl rfl (by simp) rfl rfl ?_)
            clear henv hst a; intro a w118 henv hst
            refine ⟨.inr ⟨hst.kn.pick [2, 3, 4] (rg 2 4), .inl rfl⟩, ?_⟩
            refine sAny_one (i := 13) (by kernel_rfl) rfl rfl (op_store (k := 1) (c' := #[.bool (neg z2), .slice A112 (dl z2) c113]) henv hst (ty_anvil_anvilref02_Int.size) rfl rfl rfl rfl (by simp) rfl rfl ?_)
            clear henv hst a; intro a w119 henv hst
            refine ⟨.inr ⟨hst.kn.pick [2, 3, 4] (rg 2 4), .inl rfl⟩, ?_⟩
            refine sAny_done (by kernel_rfl) ?_ _
            exact th_n ⟨A72, c73, A112, c113, g116, g110, henv.sub ⟨rfl, rfl, rfl, rfl, rfl, rfl, rfl, rfl, rfl, rfl, rfl, rfl, rfl, rfl, rfl, rfl, rfl, rfl, rfl, rfl, trivial⟩, hst.pick [1, 0, 2, 3, 4] [0, 1, 2, 3, 4, 5] (by decide)⟩
          · refine ⟨_, rfl, rfl, op_alloc (c := #[.bool (neg 0), .slice none (zl 0) 0]) henv hst rfl zero_anvil_integer_Int zcells ?_⟩
            clear henv hst a; intro a w121 g120 henv hst
            refine ⟨.inr ⟨hst.kn.pick [2, 3, 4] (rg 1 4), .inr (hst.kn.pick [] [])⟩, ?_⟩
            refine sAny_one (i := 9) (by kernel_rfl) rfl rfl (op_call henv rfl Tryd.call20 rfl (make_rv (show U32 _ A2 n2 c2 xs2 from hst.pat (k := 3) rfl) hv2 (by omega)) ?_)
            rintro e w125 ⟨_, rfl, ⟨A122, c123, rfl, hz124⟩, hb⟩
            refine ⟨_, rfl, ?_⟩
            clear henv a; intro a henv
            replace hst := (hst.call hb).addR hz124 ⟨nou_bk rfl, nou_bk rfl, nou_bk rfl, nou_bk rfl, nou_bk rfl, trivial⟩
            clear hz124
            clear hb
            refine ⟨.inr ⟨hst.kn.pick [2, 3, 4] (rg 2 4), .inr (hst.kn.pick [] [])⟩, ?_⟩
            refine sAny_one (i := 12) (by kernel_rfl) rfl rfl (op_store (k := 0) (c' := #[.bool (neg z2), .slice A72 (zl z2) c73]) henv hst (ty_anvil_integer_Int.size) rfl rfl rfl rfl (by simp) rfl rfl ?_)
            clear henv hst a; intro a w126 henv hst
            refine ⟨.inr ⟨hst.kn.pick [2, 3, 4] (rg 2 4), .inl rfl⟩, ?_⟩
            refine sAny_one (i := 13) (by kernel_rfl) rfl rfl (op_store (k := 1) (c' := #[.bool (neg z2), .slice A122 (dl z2) c123]) henv hst (ty_anvil_anvilref02_Int.size) rfl rfl rfl rfl (by simp) rfl rfl ?_)
            clear henv hst a; intro a w127 henv hst
            refine ⟨.inr ⟨hst.kn.pick [2, 3, 4] (rg 2 4), .inl rfl⟩, ?_⟩
            refine sAny_done (by kernel_rfl) ?_ _
            exact th_n ⟨A72, c73, A122, c123, g120, g110, henv.sub ⟨rfl, rfl, rfl, rfl, rfl, rfl, rfl, rfl, rfl, rfl, rfl, rfl, rfl, rfl, rfl, rfl, rfl, rfl, rfl, rfl, trivial⟩, hst.pick [1, 0, 2, 3, 4] [0, 1, 2, 3, 4, 5] (by decide)⟩
      · refine ⟨_, rfl, rfl, op_alloc (c := #[.bool (neg 0), .slice none (zl 0) 0]) henv hst rfl zero_anvil_integer_Int zcells ?_⟩
        clear henv hst a; intro a w129 g128 henv hst
        refine ⟨.inr ⟨hst.kn.pick [1, 2, 3] (rg 0 4), .inr (hst.kn.pick [] [])⟩, ?_⟩
        refine sAny_all (rs := [4, 11]) (by kernel_rfl) (by simp) ?_
        simp only [List.forall_mem_cons, List.not_mem_nil, false_implies, implies_true, and_true]
        refine ⟨?_, ?_⟩
        · refine ⟨_, rfl, rfl, op_call henv rfl Tryd.call19 rfl (make_zv (show U32 _ A2 n2 c2 xs2 from hst.pat (k := 2) rfl) hv2 (by omega)) ?_⟩
          rintro e w133 ⟨_, rfl, ⟨A130, c131, rfl, hz132⟩, hb⟩
          refine ⟨_, rfl, ?_⟩
          clear henv a; intro a henv
          replace hst := (hst.call hb).addZ hz132 ⟨nou_bk rfl, nou_bk rfl, nou_bk rfl, nou_bk rfl, trivial⟩
          clear hz132
          clear hb
          refine ⟨.inr ⟨hst.kn.pick [1, 2, 3] (rg 1 4), .inr (hst.kn.pick [] [])⟩, ?_⟩
          refine sAny_all (rs := [9, 11]) (by kernel_rfl) (by simp) ?_
          simp only [List.forall_mem_cons, List.not_mem_nil, false_implies, implies_true, and_true]
          refine ⟨?_, ?_⟩
          · refine ⟨_, rfl, rfl, op_call henv rfl Tryd.call20 rfl (make_rv (show U32 _ A2 n2 c2 xs2 from hst.pat (k := 3) rfl) hv2 (by omega)) ?_⟩
            rintro e w137 ⟨_, rfl, ⟨A134, c135, rfl, hz136⟩, hb⟩
            refine ⟨_, rfl, ?_⟩
            clear henv a; intro a henv
            replace hst := (hst.call hb).addR hz136 ⟨nou_bk rfl, nou_bk rfl, nou_bk rfl, nou_bk rfl, trivial⟩
            clear hz136
            clear hb
            refine ⟨.inr ⟨hst.kn.pick [1, 2, 3] (rg 2 4), .inr (hst.kn.pick [] [])⟩, ?_⟩
            refine sAny_one (i := 11) (by kernel_rfl) rfl rfl (op_alloc (c := #[.bool (neg 0), .slice none (dl 0) 0]) henv hst rfl zero_anvil_anvilref02_Int rcells ?_)
            clear henv hst a; intro a w139 g138 henv hst
            refine ⟨.inr ⟨hst.kn.pick [2, 3, 4] (rg 2 4), .inr (hst.kn.pick [] [])⟩, ?_⟩
            refine sAny_one (i := 12) (by kernel_rfl) rfl rfl (op_store (k := 1) (c' := #[.bool (neg z2), .slice A130 (zl z2) c131]) henv hst (ty_anvil_integer_Int.size) rfl rfl rfl rfl (by simp) rfl rfl ?_)
            clear henv hst a; intro a w140 henv hst
            refine ⟨.inr ⟨hst.kn.pick [2, 3, 4] (rg 2 4), .inl rfl⟩, ?_⟩
            refine sAny_one (i := 13) (by kernel_rfl) rfl rfl (op_store (k := 0) (c' := #[.bool (neg z2), .slice A134 (dl z2) c135]) henv hst (ty_anvil_anvilref02_Int.size) rfl rfl rfl rfl (by simp) rfl rfl ?_)
            clear henv hst a; intro a w141 henv hst
            refine ⟨.inr ⟨hst.kn.pick [2, 3, 4] (rg 2 4), .inl rfl⟩, ?_⟩
            refine sAny_done (by kernel_rfl) ?_ _
            exact th_n ⟨A130, c131, A134, c135, g128, g138, henv.sub ⟨rfl, rfl, rfl, rfl, rfl, rfl, rfl, rfl, rfl, rfl, rfl, rfl, rfl, rfl, rfl, rfl, rfl, rfl, rfl, rfl, trivial⟩, hst.pick [0, 1, 2, 3, 4] [0, 1, 2, 3, 4, 5] (by decide)⟩
          · refine ⟨_, rfl, rfl, op_alloc (c := #[.bool (neg 0), .slice none (dl 0) 0]) henv hst rfl zero_anvil_anvilref02_Int rcells ?_⟩
            clear henv hst a; intro a w143 g142 henv hst
            refine ⟨.inr ⟨hst.kn.pick [2, 3, 4] (rg 1 4), .inr (hst.kn.pick [] [])⟩, ?_⟩
            refine sAny_one (i := 9) (by kernel_rfl) rfl rfl (op_call henv rfl Tryd.call20 rfl (make_rv (show U32 _ A2 n2 c2 xs2 from hst.pat (k := 3) rfl) hv2 (by omega)) ?_)
            rintro e w147 ⟨_, rfl, ⟨A144, c145, rfl, hz146⟩, hb⟩
            refine ⟨_, rfl, ?_⟩
            clear henv a; intro a henv
            replace hst := (hst.call hb).addR hz146 ⟨nou_bk rfl, nou_bk rfl, nou_bk rfl, nou_bk rfl, nou_bk rfl, trivial⟩
            clear hz146
            clear hb
            refine ⟨.inr ⟨hst.kn.pick [2, 3, 4] (rg 2 4), .inr (hst.kn.pick [] [])⟩, ?_⟩
            refine sAny_one (i := 12) (by kernel_rfl) rfl rfl (op_store (k := 1) (c' := #[.bool (neg z2), .slice A130 (zl z2) c131]) henv hst (ty_anvil_integer_Int.size) rfl rfl rfl rfl (by simp) rfl rfl ?_)
            clear henv hst a; intro a w148 henv hst
            refine ⟨.inr ⟨hst.kn.pick [2, 3, 4] (rg 2 4), .inl rfl⟩, ?_⟩
            refine sAny_one (i := 13) (by kernel_rfl) rfl rfl (op_store (k := 0) (c' := #[.bool (neg z2), .slice A144 (dl z2) c145]) henv hst (ty_anvil_anvilref02_Int.size) rfl rfl rfl rfl (by simp) rfl rfl ?_)
            clear henv hst a; intro a w149 henv hst
            refine ⟨.inr ⟨hst.kn.pick [2, 3, 4] (rg 2 4), .inl rfl⟩, ?_⟩
            refine sAny_done (by kernel_rfl) ?_ _
            exact th_n ⟨A130, c131, A144, c145, g128, g142, henv.sub ⟨rfl, rfl, rfl, rfl, rfl, rfl, rfl, rfl, rfl, rfl, rfl, rfl, rfl, rfl, rfl, rfl, rfl, rfl, rfl, rfl, trivial⟩, hst.pick [0, 1, 2, 3, 4] [0, 1, 2, 3, 4, 5] (by decide)⟩
        · refine ⟨_, rfl, rfl, op_alloc (c := #[.bool (neg 0), .slice none (dl 0) 0]) henv hst rfl zero_anvil_anvilref02_Int rcells ?_⟩
          clear henv hst a; intro a w151 g150 henv hst
          refine ⟨.inr ⟨hst.kn.pick [2, 3, 4] (rg 0 4), .inr (hst.kn.pick [] [])⟩, ?_⟩
          refine sAny_one (i := 4) (by kernel_rfl) rfl rfl (op_call henv rfl Tryd.call19 rfl (make_zv (show U32 _ A2 n2 c2 xs2 from hst.pat (k := 2) rfl) hv2 (by omega)) ?_)
          rintro e w155 ⟨_, rfl, ⟨A152, c153, rfl, hz154⟩, hb⟩
          refine ⟨_, rfl, ?_⟩
          clear henv a; intro a henv
          replace hst := (hst.call hb).addZ hz154 ⟨nou_bk rfl, nou_bk rfl, nou_bk rfl, nou_bk rfl, nou_bk rfl, trivial⟩
          clear hz154
          clear hb
          refine ⟨.inr ⟨hst.kn.pick [2, 3, 4] (rg 1 4), .inr (hst.kn.pick [] [])⟩, ?_⟩
          refine sAny_one (i := 9) (by kernel_rfl) rfl rfl (op_call henv rfl Tryd.call20 rfl (make_rv (show U32 _ A2 n2 c2 xs2 from hst.pat (k := 3) rfl) hv2 (by omega)) ?_)
          rintro e w159 ⟨_, rfl, ⟨A156, c157, rfl, hz158⟩, hb⟩
          refine ⟨_, rfl, ?_⟩
          clear henv a; intro a henv
          replace hst := (hst.call hb).addR hz158 ⟨nou_bk rfl, nou_bk rfl, nou_bk rfl, nou_bk rfl, nou_bk rfl, trivial⟩
          clear hz158
          clear hb
          refine ⟨.inr ⟨hst.kn.pick [2, 3, 4] (rg 2 4), .inr (hst.kn.pick [] [])⟩, ?_⟩
          refine sAny_one (i := 12) (by kernel_rfl) rfl rfl (op_store (k := 1) (c' := #[.bool (neg z2), .slice A152 (zl z2) c153]) henv hst (ty_anvil_integer_Int.size) rfl rfl rfl rfl (by simp) rfl rfl ?_)
          clear henv hst a; intro a w160 henv hst
          refine ⟨.inr ⟨hst.kn.pick [2, 3, 4] (rg 2 4), .inl rfl⟩, ?_⟩
          refine sAny_one (i := 13) (by kernel_rfl) rfl rfl (op_store (k := 0) (c' := #[.bool (neg z2), .slice A156 (dl z2) c157]) henv hst (ty_anvil_anvilref02_Int.size) rfl rfl rfl rfl (by simp) rfl rfl ?_)
          clear henv hst a; intro a w161 henv hst
          refine ⟨.inr ⟨hst.kn.pick [2, 3, 4] (rg 2 4), .inl rfl⟩, ?_⟩
          refine sAny_done (by kernel_rfl) ?_ _
          exact th_n ⟨A152, c153, A156, c157, g128, g150, henv.sub ⟨rfl, rfl, rfl, rfl, rfl, rfl, rfl, rfl, rfl, rfl, rfl, rfl, rfl, rfl, rfl, rfl, rfl, rfl, rfl, rfl, trivial⟩, hst.pick [0, 1, 2, 3, 4] [0, 1, 2, 3, 4, 5] (by decide)⟩
      · refine ⟨_, rfl, rfl, op_alloc (c := #[.bool (neg 0), .slice none (dl 0) 0]) henv hst rfl zero_anvil_anvilref02_Int rcells ?_⟩
        clear henv hst a; intro a w163 g162 henv hst
        refine ⟨.inr ⟨hst.kn.pick [1, 2, 3] (rg 0 4), .inr (hst.kn.pick [] [])⟩, ?_⟩
        refine sAny_all (rs := [4, 10]) (by kernel_rfl) (by simp) ?_
        simp only [List.forall_mem_cons, List.not_mem_nil, false_implies, implies_true, and_true]
        refine ⟨?_, ?_⟩
        · refine ⟨_, rfl, rfl, op_call henv rfl Tryd.call19 rfl (make_zv (show U32 _ A2 n2 c2 xs2 from hst.pat (k := 2) rfl) hv2 (by omega)) ?_⟩
          rintro e w167 ⟨_, rfl, ⟨A164, c165, rfl, hz166⟩, hb⟩
          refine ⟨_, rfl, ?_⟩
          clear henv a; intro a henv
          replace hst := (hst.call hb).addZ hz166 ⟨nou_bk rfl, nou_bk rfl, nou_bk rfl, nou_bk rfl, trivial⟩
          clear hz166
          clear hb
          refine ⟨.inr ⟨hst.kn.pick [1, 2, 3] (rg 1 4), .inr (hst.kn.pick [] [])⟩, ?_⟩
          refine sAny_all (rs := [9, 10]) (by kernel_rfl) (by simp) ?_
          simp only [List.forall_mem_cons, List.not_mem_nil, false_implies, implies_true, and_true]
          refine ⟨?_, ?_⟩
          · refine ⟨_, rfl, rfl, op_call henv rfl Tryd.call20 rfl (make_rv (show U32 _ A2 n2 c2 xs2 from hst.pat (k := 3) rfl) hv2 (by omega)) ?_⟩
            rintro e w171 ⟨_, rfl, ⟨A168, c169, rfl, hz170⟩, hb⟩
            refine ⟨_, rfl, ?_⟩
            clear henv a; intro a henv
            replace hst := (hst.call hb).addR hz170 ⟨nou_bk rfl, nou_bk rfl, nou_bk rfl, nou_bk rfl, trivial⟩
            clear hz170
            clear hb
            refine ⟨.inr ⟨hst.kn.pick [1, 2, 3] (rg 2 4), .inr (hst.kn.pick [] [])⟩, ?_⟩
            refine sAny_one (i := 10) (by kernel_rfl) rfl rfl (op_alloc (c := #[.bool (neg 0), .slice none (zl 0) 0]) henv hst rfl zero_anvil_integer_Int zcells ?_)
            clear henv hst a; intro a w173 g172 henv hst
            refine ⟨.inr ⟨hst.kn.pick [2, 3, 4] (rg 2 4), .inr (hst.kn.pick [] [])⟩, ?_⟩
            refine sAny_one (i := 12) (by kernel_rfl) rfl rfl (op_store (k := 0) (c' := #[.bool (neg z2), .slice A164 (zl z2) c165]) henv hst (ty_anvil_integer_Int.size) rfl rfl rfl rfl (by simp) rfl rfl ?_)
            clear henv hst a; intro a w174 henv hst
            refine ⟨.inr ⟨hst.kn.pick [2, 3, 4] (rg 2 4), .inl rfl⟩, ?_⟩
            refine sAny_one (i := 13) (by kernel_rfl) rfl rfl (op_store (k := 1) (c' := #[.bool (neg z2), .slice A168 (dl z2) c169]) henv hst (ty_anvil_anvilref02_Int.size) rfl rfl rfl rfl (by simp) rfl rfl ?_)
            clear henv hst a; intro a w175 henv hst
            refine ⟨.inr ⟨hst.kn.pick [2, 3, 4] (rg 2 4), .inl rfl⟩, ?_⟩
            refine sAny_done (by kernel_rfl) ?_ _
            exact th_n ⟨A164, c165, A168, c169, g172, g162, henv.sub ⟨rfl, rfl, rfl, rfl, rfl, rfl, rfl, rfl, rfl, rfl, rfl, rfl, rfl, rfl, rfl, rfl, rfl, rfl, rfl, rfl, trivial⟩, hst.pick [1, 0, 2, 3, 4] [0, 1, 2, 3, 4, 5] (by decide)⟩
          · refine ⟨_, rfl, rfl, op_alloc (c := #[.bool (neg 0), .slice none (zl 0) 0]) henv hst rfl zero_anvil_integer_Int zcells ?_⟩
            clear henv hst a; intro a w177 g176 henv hst
            refine ⟨.inr ⟨hst.kn.pick [2, 3, 4] (rg 1 4), .inr (hst.kn.pick [] [])⟩, ?_⟩
            refine sAny_one (i := 9) (by kernel_rfl) rfl rfl (op_call henv rfl Tryd.call20 rfl (make_rv (show U32 _ A2 n2 c2 xs2 from hst.pat (k := 3) rfl) hv2 (by omega)) ?_)
            rintro e w181 ⟨_, rfl, ⟨A178, c179, rfl, hz180⟩, hb⟩
            refine ⟨_, rfl, ?_⟩
            clear henv a; intro a henv
            replace hst := (hst.call hb).addR hz180 ⟨nou_bk rfl, nou_bk rfl, nou_bk rfl, nou_bk rfl, nou_bk rfl, trivial⟩
            clear hz180
            clear hb
            refine ⟨.inr ⟨hst.kn.pick [2, 3, 4] (rg 2 4), .inr (hst.kn.pick [] [])⟩, ?_⟩
            refine sAny_one (i := 12) (by kernel_rfl) rfl rfl (op_store (k := 0) (c' := #[.bool (neg z2), .slice A164 (zl z2) c165]) henv hst (ty_anvil_integer_Int.size) rfl rfl rfl rfl (by simp) rfl rfl ?_)
            clear henv hst a; intro a w182 henv hst
            refine ⟨.inr ⟨hst.kn.pick [2, 3, 4] (rg 2 4), .inl rfl⟩, ?_⟩
            refine sAny_one (i := 13) (by kernel_rfl) rfl rfl (op_store (k := 1) (c' := #[.bool (neg z2), .slice A178 (dl z2) c179]) henv hst (ty_anvil_anvilref02_Int.size) rfl rfl rfl rfl (by simp) rfl rfl ?_)
            clear henv hst a; intro a w183 henv hst
            refine ⟨.inr ⟨hst.kn.pick [2, 3, 4] (rg 2 4), .inl rfl⟩, ?_⟩
            refine sAny_done (by kernel_rfl) ?_ _
            exact th_n ⟨A164, c165, A178, c179, g176, g162, henv.sub ⟨rfl, rfl, rfl, rfl, rfl, rfl, rfl, rfl, rfl, rfl, rfl, rfl, rfl, rfl, rfl, rfl, rfl, rfl, rfl, rfl, trivial⟩, hst.pick [1, 0, 2, 3, 4] [0, 1, 2, 3, 4, 5] (by decide)⟩
        · refine ⟨_, rfl, rfl, op_alloc (c := #[.bool (neg 0), .slice none (zl 0) 0]) henv hst rfl zero_anvil_integer_Int zcells ?_⟩
          clear henv hst a; intro a w185 g184 henv hst
          refine ⟨.inr ⟨hst.kn.pick [2, 3, 4] (rg 0 4), .inr (hst.kn.pick [] [])⟩, ?_⟩
          refine sAny_one (i := 4) (by kernel_rfl) rfl rfl (op_call henv rfl Tryd.call19 rfl (make_zv (show U32 _ A2 n2 c2 xs2 from hst.pat (k := 2) rfl) hv2 (by omega)) ?_)
          rintro e w189 ⟨_, rfl, ⟨A186, c187, rfl, hz188⟩, hb⟩
          refine ⟨_, rfl, ?_⟩
          clear henv a; intro a henv
          replace hst := (hst.call hb).addZ hz188 ⟨nou_bk rfl, nou_bk rfl, nou_bk rfl, nou_bk rfl, nou_bk rfl, trivial⟩
          clear hz188
          clear hb
          refine ⟨.inr ⟨hst.kn.pick [2, 3, 4] (rg 1 4), .inr (hst.kn.pick [] [])⟩, ?_⟩
          refine sAny_one (i := 9) (by kernel_rfl) rfl rfl (op_call henv rfl Tryd.call20 rfl (make_rv (show U32 _ A2 n2 c2 xs2 from hst.pat (k := 3) rfl) hv2 (by omega)) ?_)
          rintro e w193 ⟨_, rfl, ⟨A190, c191, rfl, hz192⟩, hb⟩
          refine ⟨_, rfl, ?_⟩
          clear henv a; intro a henv
          replace hst := (hst.call hb).addR hz192 ⟨nou_bk rfl, nou_bk rfl, nou_bk rfl, nou_bk rfl, nou_bk rfl, trivial⟩
          clear hz192
          clear hb
          refine ⟨.inr ⟨hst.kn.pick [2, 3, 4] (rg 2 4), .inr (hst.kn.pick [] [])⟩, ?_⟩
          refine sAny_one (i := 12) (by kernel_rfl) rfl rfl (op_store (k := 0) (c' := #[.bool (neg z2), .slice A186 (zl z2) c187]) henv hst (ty_anvil_integer_Int.size) rfl rfl rfl rfl (by simp) rfl rfl ?_)
          clear henv hst a; intro a w194 henv hst
          refine ⟨.inr ⟨hst.kn.pick [2, 3, 4] (rg 2 4), .inl rfl⟩, ?_⟩
          refine sAny_one (i := 13) (by kernel_rfl) rfl rfl (op_store (k := 1) (c' := #[.bool (neg z2), .slice A190 (dl z2) c191]) henv hst (ty_anvil_anvilref02_Int.size) rfl rfl rfl rfl (by simp) rfl rfl ?_)
          clear henv hst a; intro a w195 henv hst
          refine ⟨.inr ⟨hst.kn.pick [2, 3, 4] (rg 2 4), .inl rfl⟩, ?_⟩
          refine sAny_done (by kernel_rfl) ?_ _
          exact th_n ⟨A186, c187, A190, c191, g184, g162, henv.sub ⟨rfl, rfl, rfl, rfl, rfl, rfl, rfl, rfl, rfl, rfl, rfl, rfl, rfl, rfl, rfl, rfl, rfl, rfl, rfl, rfl, trivial⟩, hst.pick [1, 0, 2, 3, 4] [0, 1, 2, 3, 4, 5] (by decide)⟩
    clear henv hst a
    rintro a w196 ⟨A72, c73, A76, c77, g80, g82, henv, hst⟩
    refine wp_seq ?_
    refine region_seq ?_
    revert a
    refine mA rfl rfl ?_
    refine sA (v := .agg #[.bool (neg z2), .slice A72 (zl z2) c73]) rfl (fun _ henv => rn_load0 henv ty_anvil_integer_Int rfl (hst.oat (k := 1) rfl) rfl) ?_
    intro a henv
    refine seq_step rfl (op_call henv rfl Tryd.call77 rfl (over_fails (row_over (m := z2) (hst.pat (k := 3) rfl) hz64 (show ZIn _ A72 c73 z2 from hst.pat (k := 1) rfl) (by omega) hzn ((hkx.mono (by decide))) (by omega)) hdv) ?_)
    rintro e w197 ⟨rfl, hb⟩
    refine ⟨_, rfl, ?_⟩
    clear henv a; intro a henv
    replace hst := hst.call hb
    clear hb
    revert a
    refine mA rfl rfl ?_
    refine sA (v := .slice none 0 0) rfl (fun _ henv => rn_extract henv rfl rfl) ?_
    refine sA (v := .int .i64 20) rfl (fun _ henv => rn_extract henv rfl rfl) ?_
    refine aA rfl rfl ?_
    refine aA rfl rfl ?_
    intro a henv
    refine wpList_nil ?_
    refine th_n ?_
    refine wp_seq ?_
    refine region_seq ?_
    refine sv (v := .slice A65 n0 c66) henv rfl (rn_move henv rfl) ?_
    clear henv a; intro a henv
    refine seq_step rfl (op_call henv rfl Tryd.call78 rfl (ref_content (hst.pat (k := 2) rfl) hz69 ((hkx.mono (by decide)))) ?_)
    rintro e w201 ⟨_, rfl, ⟨A198, c199, rfl, hz200⟩, hb⟩
    refine ⟨_, rfl, ?_⟩
    clear henv a; intro a henv
    replace hst := (hst.call hb).addR hz200 ⟨nou_bk rfl, nou_bk rfl, nou_bk rfl, nou_bk rfl, nou_bk rfl, trivial⟩
    clear hz200
    clear hb
    refine seq_step rfl (op_alloc (c := #[.bool (neg 0), .slice none (dl 0) 0]) henv hst rfl zero_anvil_anvilref02_Int rcells ?_)
    clear henv hst a; intro a w203 g202 henv hst
    refine seq_step rfl (op_store (k := 0) (c' := #[.bool (neg (gcdL (es0.map vz))), .slice A198 (dl (gcdL (es0.map vz))) c199]) henv hst (ty_anvil_anvilref02_Int.size) rfl rfl rfl rfl (by simp) rfl rfl ?_)
    clear henv hst a; intro a w204 henv hst
    refine wpList_nil ?_
    refine th_n ?_
    refine wp_seq ?_
    refine region_seq ?_
    refine sv (v := .slice A65 n0 c66) henv rfl (rn_move henv rfl) ?_
    clear henv a; intro a henv
    refine seq_step rfl (op_call henv rfl Tryd.call79 rfl (ref_primitive (hst.pat (k := 3) rfl) hz69 ((hkx.mono (by decide))) (by omega)) ?_)
    rintro e w213 ⟨_, _, rfl, ⟨A205, c206, es207, rfl, hr, hl208, hz209⟩, ⟨A210, c211, rfl, hz212⟩, hb⟩
    refine ⟨_, rfl, ?_⟩
    clear henv a; intro a henv
    replace hst := (hst.freshRd hb hr hl208 (ap_M hr.2.1 ⟨nou_bk rfl, nou_bk rfl, nou_bk rfl, nou_bk rfl, nou_bk rfl, nou_bk rfl, trivial⟩)).addR hz212 ⟨nou_bk rfl, nou_bk rfl, nou_bk rfl, nou_bk rfl, nou_bk rfl, nou_bk rfl, trivial⟩
    clear hr hz212
    clear hb
    revert a
    refine mA rfl rfl ?_
    refine sA (v := .slice A205 n0 c206) rfl (fun _ henv => rn_extract henv rfl rfl) ?_
    refine sA (v := .agg #[.bool (neg (primN (es0.map vz))), .slice A210 (dl (primN (es0.map vz))) c211]) rfl (fun _ henv => rn_extract henv rfl rfl) ?_
    intro a henv
    refine seq_step rfl (op_alloc (c := #[.bool (neg 0), .slice none (dl 0) 0]) henv hst rfl zero_anvil_anvilref02_Int rcells ?_)
    clear henv hst a; intro a w215 g214 henv hst
    refine sv (v := .slice A205 n0 c206) henv rfl (rn_assign henv rfl) ?_
    clear henv a; intro a henv
    refine seq_step rfl (op_store (k := 0) (c' := #[.bool (neg (primN (es0.map vz))), .slice A210 (dl (primN (es0.map vz))) c211]) henv hst (ty_anvil_anvilref02_Int.size) rfl rfl rfl rfl (by simp) rfl rfl ?_)
    clear henv hst a; intro a w216 henv hst
    refine wpList_nil ?_
    refine th_n ?_
    refine wp_seq ?_
    refine region_seq ?_
    refine sv (v := .slice A60 n0 c61) henv rfl (rn_move henv rfl) ?_
    clear henv a; intro a henv
    refine seq_step rfl (op_call henv rfl Tryd.call80 rfl (row_primitive (hst.pat (k := 6) rfl) hz64 ((hkx.mono (by decide))) (by omega)) ?_)
    rintro e w226 ⟨_, _, rfl, ⟨A217, c218, es219, rfl, hr, hl220, hz221⟩, ⟨A223, c224, rfl, hz225⟩, hb⟩
    refine ⟨_, rfl, ?_⟩
    clear henv a; intro a henv
    replace hst := (hst.freshRow hb hr (ap_N hr.2.1 ⟨nou_rowS, ⟨nou_bk rfl, nou_bk rfl, nou_bk rfl, nou_bk rfl, nou_bk rfl, nou_bk rfl, nou_bk rfl, trivial⟩⟩)).addZ hz225 ⟨nou_rowS, ⟨nou_bk rfl, nou_bk rfl, nou_bk rfl, nou_bk rfl, nou_bk rfl, nou_bk rfl, nou_bk rfl, trivial⟩⟩
    clear hr hz225
    clear hb
    revert a
    refine mA rfl rfl ?_
    refine sA (v := .slice A217 n0 c218) rfl (fun _ henv => rn_extract henv rfl rfl) ?_
    refine sA (v := .agg #[.bool (neg (primN (es0.map vz))), .slice A223 (zl (primN (es0.map vz))) c224]) rfl (fun _ henv => rn_extract henv rfl rfl) ?_
    intro a henv
    refine seq_step rfl (op_alloc (c := #[.bool (neg 0), .slice none (zl 0) 0]) henv hst rfl zero_anvil_integer_Int zcells ?_)
    clear henv hst a; intro a w228 g227 henv hst
    refine sv (v := .slice A217 n0 c218) henv rfl (rn_assign henv rfl) ?_
    clear henv a; intro a henv
    refine seq_step rfl (op_store (k := 0) (c' := #[.bool (neg (primN (es0.map vz))), .slice A223 (zl (primN (es0.map vz))) c224]) henv hst (ty_anvil_integer_Int.size) rfl rfl rfl rfl (by simp) rfl rfl ?_)
    clear henv hst a; intro a w229 henv hst
    refine wpList_nil ?_
    refine th_n ?_
    refine wp_seq ?_
    refine wp_seq ?_
    refine region_any (n := 28) (Sk [bk g227 #[.bool (neg (primN (es0.map vz))), .slice A223 (zl (primN (es0.map vz))) c224] 36, bk g214 #[.bool (neg (primN (es0.map vz))), .slice A210 (dl (primN (es0.map vz))) c211] 39, bk g202 #[.bool (neg (gcdL (es0.map vz))), .slice A198 (dl (gcdL (es0.map vz))) c199] 39, bk g82 #[.bool (neg z2), .slice A76 (dl z2) c77] 39, bk g80 #[.bool (neg z2), .slice A72 (zl z2) c73] 36, bk g56 #[.slice A0 n0 c0, .slice (some ⟨g54, 0, none⟩) 1 1] 22, bk g54 #[.bool b2, .slice A2 n2 c2] 25, bk g51 #[.bool b2, .slice A2 n2 c2] 25] [pfZ A223 c224 (primN (es0.map vz)), pfEs FN es219, pfR A210 c211 (primN (es0.map vz)), pfRow fM FM 2 A205 n0 c206 es207, pfR A198 c199 (gcdL (es0.map vz)), pfR A76 c77 z2, pfZ A72 c73 z2, pfRow fM FM 2 A65 n0 c66 es67, pfRow fN FN 2 A60 n0 c61 es62, pfU A2 n2 c2 xs2, pfRow fU FU 2 A0 n0 c0 es0] [] []) mixed rfl henv hst ?_
    clear henv hst; intro w230 henv hst
    refine tM (i := 0) [1, 3, 4, 5, 6, 7, 8, 9, 10, 11, 12, 13, 14, 15, 16, 17, 18, 19, 20, 21, 22, 23, 24, 25, 26, 27] rfl (by kernel_rfl) (fun _ _ _ h => h) henv rfl rfl ?_
    clear henv a; intro a henv
    refine tL (i := 2) 2 3 (rg 3 25) rfl (by kernel_rfl) (fun _ _ _ h => h) henv rfl ty_anvil_anvilref02_Int rfl hst rfl rfl rfl ?_
    clear henv a; intro a henv
    refine sAny_one (i := 1) (by kernel_rfl) rfl rfl (op_call henv rfl Tryd.call81 rfl (row_content (hst.pat (k := 8) rfl) hz64 ((hkx.mono (by decide)))) ?_)
    rintro e w234 ⟨_, rfl, ⟨A231, c232, rfl, hz233⟩, hb⟩
    refine ⟨_, rfl, ?_⟩
    clear henv a; intro a henv
    replace hst := (hst.call hb).addZ hz233 ⟨nou_bk rfl, nou_rowS, nou_bk rfl, nou_bk rfl, nou_bk rfl, nou_bk rfl, nou_bk rfl, nou_bk rfl, nou_bk rfl, trivial⟩
    clear hz233
    clear hb
    refine ⟨.inr ⟨hst.kn.pick [0, 2, 3, 4, 5, 6, 7, 8] (rg 1 11), .inr (hst.kn.pick [] [])⟩, ?_⟩
    refine sAny_one (i := 3) (by kernel_rfl) rfl rfl (op_call henv rfl Tryd.call35 rfl (num_one (z := (gcdL (es0.map vz))) (show ZIn _ A231 c232 (gcdL (es0.map vz)) from hst.pat (k := 0) rfl) (show RIn _ A198 c199 (gcdL (es0.map vz)) from hst.pat (k := 5) rfl) (Nat.le_trans hg1 (by decide))) ?_)
    rintro e w235 ⟨rfl, hb⟩
    refine ⟨_, rfl, ?_⟩
    clear henv a; intro a henv
    replace hst := hst.call hb
    clear hb
    refine ⟨.inr ⟨hst.kn.pick [0, 2, 3, 4, 5, 6, 7, 8] (rg 1 11), .inr (hst.kn.pick [] [])⟩, ?_⟩
    refine tA (i := 4) (rg 5 23) (v := .bool false) rfl (by kernel_rfl) (fun _ _ _ h => h) henv rfl (fun _ => rn_un henv rfl rfl) ?_
    clear henv a; intro a henv
    refine tM (i := 5) (rg 6 22) rfl (by kernel_rfl) (fun _ _ _ h => h) henv rfl rfl ?_
    clear henv a; intro a henv
    refine tAg (i := 6) (rg 8 20) (v := .slice A217 n0 c218) rfl (by kernel_rfl) (fun _ _ _ h => h) henv rfl rfl rfl rfl (fun _ => rn_move henv rfl) ?_
    clear henv a; intro a henv
    refine tAg (i := 7) (rg 8 20) (v := .slice A205 n0 c206) rfl (by kernel_rfl) (fun _ _ _ h => h) henv rfl rfl rfl rfl (fun _ => rn_move henv rfl) ?_
    clear henv a; intro a henv
    refine sAny_oneg (i := 8) (by kernel_rfl) rfl rfl henv rfl rfl rfl (op_call henv rfl Tryd.call27 rfl (row_is ⟨rowS_rd (hst.owns (k := 1) rfl), hl220, hst.pat (k := 2) rfl⟩ hz221 (hst.pat (k := 4) rfl) hz209 ((hkx.prim.mono (by decide)))) ?_)
    rintro e w236 ⟨rfl, hb⟩
    refine ⟨_, rfl, ?_⟩
    clear henv a; intro a henv
    replace hst := hst.call hb
    clear hb
    refine ⟨.inr ⟨hst.kn.pick [0, 2, 3, 4, 5, 6, 7, 8] (rg 1 11), .inr (hst.kn.pick [] [])⟩, ?_⟩
    refine tAg (i := 9) (rg 10 18) (v := .bool false) rfl (by kernel_rfl) (fun _ _ _ h => h) henv rfl rfl rfl rfl (fun _ => rn_un henv rfl rfl) ?_
    clear henv a; intro a henv
    refine tA (i := 10) (rg 11 17) (v := .bool false) rfl (by kernel_rfl) (fun _ _ _ h => h) henv rfl (fun _ => rn_pick henv rfl rfl) ?_
    clear henv a; intro a henv
    refine tM (i := 11) (rg 12 16) rfl (by kernel_rfl) (fun _ _ _ h => h) henv rfl rfl ?_
    clear henv a; intro a henv
    refine tLg (i := 12) 0 0 (rg 14 14) rfl (by kernel_rfl) (fun _ _ _ h => h) henv rfl rfl rfl rfl ty_anvil_integer_Int rfl hst rfl rfl rfl ?_
    clear henv a; intro a henv
    refine tLg (i := 13) 1 2 (rg 14 14) rfl (by kernel_rfl) (fun _ _ _ h => h) henv rfl rfl rfl rfl ty_anvil_anvilref02_Int rfl hst rfl rfl rfl ?_
    clear henv a; intro a henv
    refine sAny_oneg (i := 14) (by kernel_rfl) rfl rfl henv rfl rfl rfl (op_call henv rfl Tryd.call35 rfl (num_one (z := (primN (es0.map vz))) (show ZIn _ A223 c224 (primN (es0.map vz)) from hst.pat (k := 1) rfl) (show RIn _ A210 c211 (primN (es0.map vz)) from hst.pat (k := 3) rfl) (Nat.le_trans hg2 (by decide))) ?_)
    rintro e w237 ⟨rfl, hb⟩
    refine ⟨_, rfl, ?_⟩
    clear henv a; intro a henv
    replace hst := hst.call hb
    clear hb
    refine ⟨.inr ⟨hst.kn.pick [0, 2, 3, 4, 5, 6, 7, 8] (rg 1 11), .inr (hst.kn.pick [] [])⟩, ?_⟩
    refine tAg (i := 15) (rg 16 12) (v := .bool false) rfl (by kernel_rfl) (fun _ _ _ h => h) henv rfl rfl rfl rfl (fun _ => rn_un henv rfl rfl) ?_
    clear henv a; intro a henv
    refine tA (i := 16) (rg 17 11) (v := .bool false) rfl (by kernel_rfl) (fun _ _ _ h => h) henv rfl (fun _ => rn_pick henv rfl rfl) ?_
    clear henv a; intro a henv
    refine tM (i := 17) (rg 18 10) rfl (by kernel_rfl) (fun _ _ _ h => h) henv rfl rfl ?_
    clear henv a; intro a henv
    refine tAg (i := 18) (rg 21 7) (v := .slice A217 n0 c218) rfl (by kernel_rfl) (fun _ _ _ h => h) henv rfl rfl rfl rfl (fun _ => rn_move henv rfl) ?_
    clear henv a; intro a henv
    refine tAg (i := 19) (rg 21 7) (v := .slice A60 n0 c61) rfl (by kernel_rfl) (fun _ _ _ h => h) henv rfl rfl rfl rfl (fun _ => rn_move henv rfl) ?_
    clear henv a; intro a henv
    refine tAg (i := 20) (rg 21 7) (v := .slice A65 n0 c66) rfl (by kernel_rfl) (fun _ _ _ h => h) henv rfl rfl rfl rfl (fun _ => rn_move henv rfl) ?_
    clear henv a; intro a henv
    refine sAny_oneg (i := 21) (by kernel_rfl) rfl rfl henv rfl rfl rfl (op_call henv rfl Tryd.call30 rfl (row_own (hst.toRest (k := 1) rfl [9, 8]) hz64 hz69 ((hkx.mono (by decide)))) ?_)
    rintro e w238 ⟨rfl, hst2⟩
    refine ⟨_, rfl, ?_⟩
    clear henv a; intro a henv
    replace hst := hst.rest (k := 1) rfl hst2
    clear hst2
    replace hst : St w0 _ [bk g227 #[.bool (neg (primN (es0.map vz))), .slice A223 (zl (primN (es0.map vz))) c224] 36, bk g214 #[.bool (neg (primN (es0.map vz))), .slice A210 (dl (primN (es0.map vz))) c211] 39, bk g202 #[.bool (neg (gcdL (es0.map vz))), .slice A198 (dl (gcdL (es0.map vz))) c199] 39, bk g82 #[.bool (neg z2), .slice A76 (dl z2) c77] 39, bk g80 #[.bool (neg z2), .slice A72 (zl z2) c73] 36, bk g56 #[.slice A0 n0 c0, .slice (some ⟨g54, 0, none⟩) 1 1] 22, bk g54 #[.bool b2, .slice A2 n2 c2] 25, bk g51 #[.bool b2, .slice A2 n2 c2] 25] [pfZ A231 c232 (gcdL (es0.map vz)), pfZ A223 c224 (primN (es0.map vz)), pfEs FN es219, pfR A210 c211 (primN (es0.map vz)), pfRow fM FM 2 A205 n0 c206 es207, pfR A198 c199 (gcdL (es0.map vz)), pfR A76 c77 z2, pfZ A72 c73 z2, pfRow fM FM 2 A65 n0 c66 es67, pfRow fN FN 2 A60 n0 c61 es62, pfU A2 n2 c2 xs2, pfRow fU FU 2 A0 n0 c0 es0] := hst
    refine ⟨.inr ⟨hst.kn.pick (rg 0 8) (rg 1 11), .inr (hst.kn.pick [] [])⟩, ?_⟩
    refine tAg (i := 22) (rg 23 5) (v := .bool false) rfl (by kernel_rfl) (fun _ _ _ h => h) henv rfl rfl rfl rfl (fun _ => rn_un henv rfl rfl) ?_
    clear henv a; intro a henv
    refine tA (i := 23) (rg 24 4) (v := .bool false) rfl (by kernel_rfl) (fun _ _ _ h => h) henv rfl (fun _ => rn_pick henv rfl rfl) ?_
    clear henv a; intro a henv
    refine tM (i := 24) [25, 26, 27] rfl (by kernel_rfl) (fun _ _ _ h => h) henv rfl rfl ?_
    clear henv a; intro a henv
    refine sAny_oneg (i := 25) (by kernel_rfl) rfl rfl henv rfl rfl rfl (op_call henv rfl Tryd.call16 rfl (row_live) ?_)
    rintro e w239 ⟨rfl, hb⟩
    refine ⟨_, rfl, ?_⟩
    clear henv a; intro a henv
    replace hst := hst.call hb
    clear hb
    refine ⟨.inr ⟨hst.kn.pick (rg 0 8) (rg 1 11), .inr (hst.kn.pick [] [])⟩, ?_⟩
    refine tAg (i := 26) [27] (v := .bool false) rfl (by kernel_rfl) (fun _ _ _ h => h) henv rfl rfl rfl rfl (fun _ => rn_un henv rfl rfl) ?_
    clear henv a; intro a henv
    refine tA (i := 27) [] (v := .bool false) rfl (by kernel_rfl) (fun _ _ _ h => h) henv rfl (fun _ => rn_pick henv rfl rfl) ?_
    clear henv a; intro a henv
    refine sAny_done (by kernel_rfl) ?_ _
    refine th_n ?_
    refine if_f henv rfl (rfl) ?_
    refine wp_skip ?_
    refine th_n ?_
    refine wp_seq ?_
    refine wp_seq ?_
    refine region_seq ?_
    refine sv (v := .agg #[.bool (neg z2), .slice A76 (dl z2) c77]) henv rfl (rn_load0 henv ty_anvil_anvilref02_Int rfl (hst.oat (k := 3) rfl) rfl) ?_
    clear henv a; intro a henv
    refine seq_step rfl (op_call henv rfl Tryd.call82 rfl (sign_r (z := z2)) ?_)
    rintro e w240 ⟨rfl, hb⟩
    refine ⟨_, rfl, ?_⟩
    clear henv a; intro a henv
    replace hst := hst.call hb
    clear hb
    refine sv (v := .bool (z2.sign == (0 : Int))) henv rfl (rn_bin henv rfl rfl rfl) ?_
    clear henv a; intro a henv
    rw [show (z2.sign == (0 : Int)) = false from (sign_ne0 hzn)] at henv
    refine wpList_nil ?_
    refine th_n ?_
    refine if_f henv rfl (rfl) ?_
    refine wp_skip ?_
    refine th_n ?_
    refine wp_seq ?_
    refine region_seq ?_
    revert a
    refine mA rfl rfl ?_
    refine sA (v := .agg #[.bool (neg z2), .slice A76 (dl z2) c77]) rfl (fun _ henv => rn_load0 henv ty_anvil_anvilref02_Int rfl (hst.oat (k := 3) rfl) rfl) ?_
    intro a henv
    refine seq_step rfl (op_call henv rfl Tryd.call83 rfl (over_fails (ref_over (m := z2) (hst.pat (k := 8) rfl) hz69 (show RIn _ A76 c77 z2 from hst.pat (k := 6) rfl) (by omega) hzn ((hkx.mono (by decide))) (by omega)) hdv) ?_)
    rintro e w241 ⟨rfl, hb⟩
    refine ⟨_, rfl, ?_⟩
    clear henv a; intro a henv
    replace hst := hst.call hb
    clear hb
    revert a
    refine mA rfl rfl ?_
    refine sA (v := .slice none 0 0) rfl (fun _ henv => rn_extract henv rfl rfl) ?_
    refine sA (v := .bool false) rfl (fun _ henv => rn_extract henv rfl rfl) ?_
    refine aA rfl rfl ?_
    refine aA rfl rfl ?_
    intro a henv
    refine wpList_nil ?_
    refine th_n ?_
    refine wp_seq ?_
    refine wp_seq ?_
    refine region_seq ?_
    revert a
    refine mA rfl rfl ?_
    refine sA (v := .bool true) rfl (fun _ henv => rn_un henv rfl rfl) ?_
    intro a henv
    refine wpList_nil ?_
    refine th_n ?_
    refine if_t henv rfl (rfl) ?_
    refine wp_seq ?_
    refine region_seq ?_
    revert a
    refine mA rfl rfl ?_
    refine sA (v := .int .i64 0) rfl (fun _ henv => rn_len henv Tryd.underlying30 rfl) ?_
    refine sA (v := .bool true) rfl (fun _ henv => rn_bin henv rfl rfl rfl) ?_
    refine mA rfl rfl ?_
    refine gA (v := .int .i64 20) rfl rfl rfl rfl (fun _ henv => rn_move henv rfl) ?_
    refine gA (v := .bool true) rfl rfl rfl rfl (fun _ henv => rn_bin henv rfl rfl rfl) ?_
    refine sA (v := .bool true) rfl (fun _ henv => rn_pick henv rfl rfl) ?_
    refine aA rfl rfl ?_
    intro a henv
    refine wpList_nil ?_
    refine th_n ?_
    refine wp_ret ?_
    refine th_r ?_
    refine leave henv (res1 Tryd.results12 (RV.tmp henv rfl)) ?_
    exact ⟨rfl, hst.below⟩
set_option maxRecDepth 100000 in
set_option maxHeartbeats 8000000 in
theorem rdivides_yes {A0 A2 : Option Addr} {n0 c0 n2 c2 : Nat} {es0 : List UE} {b2 : Bool} {xs2 : List Nat} {z2 : Int} {w0 : World} (h0 : (pfRow fU FU 2 A0 n0 c0 es0).P w0) (hn0 : n0 ≤ 35184372088832) (hs0 : Sz es0) (h2 : U32 w0 A2 n2 c2 xs2) (hn2 : n2 ≤ 35184372088832) (hv2 : sg b2 (val 4294967296 xs2) = z2) (hzn : z2 ≠ 0) (hdv : divs z2 (es0.map vz)) :
    Calls Tryd.prog 12 #[.slice A0 n0 c0, .agg #[.bool b2, .slice A2 n2 c2]] w0 fun e w' => e = .returned (.bool true) ∧ Below w0.heap.size w0 w' := by
  refine enter Tryd.func12 rfl Tryd.ntmps12 rfl ?_
  intro a henv hst
  replace hst := (hst.argRow h0).addU h2 trivial
  clear h0 h2
  replace hst : St w0 _ [] [pfU A2 n2 c2 xs2, pfRow fU FU 2 A0 n0 c0 es0] := hst
  refine wp_seq ?_
  refine region_seq ?_
  refine seq_step rfl (op_box (c := #[.bool b2, .slice A2 n2 c2]) henv hst rfl rfl rfl ?_)
  clear henv hst a; intro a w52 g51 henv hst
  refine sv (v := .bool false) henv rfl (rn_assign henv rfl) ?_
  clear henv a; intro a henv
  refine wpList_nil ?_
  refine th_n ?_
  refine wp_seq ?_
  refine wp_seq ?_
  refine region_seq ?_
  refine seq_step rfl (op_call henv rfl Tryd.call16 rfl (row_live) ?_)
  rintro e w53 ⟨rfl, hb⟩
  refine ⟨_, rfl, ?_⟩
  clear henv a; intro a henv
  replace hst := hst.call hb
  clear hb
  refine sv (v := .bool false) henv rfl (rn_un henv rfl rfl) ?_
  clear henv a; intro a henv
  refine wpList_nil ?_
  refine th_n ?_
  refine if_f henv rfl (rfl) ?_
  refine wp_skip ?_
  refine th_n ?_
  refine wp_seq ?_
  refine wp_seq ?_
  refine region_seq ?_
  revert a
  refine mA rfl rfl ?_
  refine sA (v := .agg #[.bool b2, .slice A2 n2 c2]) rfl (fun _ henv => rn_load0 henv ty_anvil_anvillaw04_Num rfl (hst.oat (k := 0) rfl) rfl) ?_
  intro a henv
  refine seq_step rfl (op_buildSlice (z := 2) (pv := #[(0, .agg #[.bool b2, .slice A2 n2 c2])]) (c := #[.bool b2, .slice A2 n2 c2]) henv hst rfl Tryd.underlying22 (ty_anvil_anvillaw04_Num.size) zero_anvil_anvillaw04_Num (by decide) (by decide) rfl (by kernel_rfl) ?_)
  clear henv hst a; intro a w55 g54 henv hst
  refine seq_step rfl (op_buildSlice (z := 1) (pv := #[(0, .slice A0 n0 c0), (1, .slice (some ⟨g54, 0, none⟩) 1 1)]) (c := #[.slice A0 n0 c0, .slice (some ⟨g54, 0, none⟩) 1 1]) henv hst rfl Tryd.underlying139 (ty__anvillaw04_Num.size) zero__anvillaw04_Num (by decide) (by decide) rfl (by kernel_rfl) ?_)
  clear henv hst a; intro a w57 g56 henv hst
  refine seq_step rfl (op_call henv rfl Tryd.call17 rfl (row_long (pv2 (v0 := (A0, n0, c0, es0)) (v1 := (some ⟨g54, 0, none⟩, 1, 1, [(b2, A2, n2, c2, xs2)])) (hst.oat (k := 0) rfl) (hst.pat (k := 1) rfl) (pu1 (e0 := (b2, A2, n2, c2, xs2)) (hst.oat (k := 1) rfl) (show U32 _ A2 n2 c2 xs2 from hst.pat (k := 0) rfl))) (lg_cons hn0 hs0 (lg_cons (show 1 ≤ 35184372088832 by decide) (sz_cons hn2 sz_nil) lg_nil))) ?_)
  rintro e w58 ⟨bl, rfl, hbl, hb⟩
  refine ⟨_, rfl, ?_⟩
  clear henv a; intro a henv
  replace hst := hst.call hb
  clear hb
  refine wpList_nil ?_
  refine th_n ?_
  refine if_split henv rfl (fun hc59 => ?_) (fun hc59 => ?_)
  · refine wp_seq ?_
    refine region_seq ?_
    refine sv (v := .bool true) henv rfl (rn_assign henv rfl) ?_
    clear henv a; intro a henv
    refine wpList_nil ?_
    refine th_n ?_
    refine wp_ret ?_
    refine th_r ?_
    refine leave henv (res1 Tryd.results12 (RV.tmp henv rfl)) ?_
    exact ⟨rfl, hst.below⟩
  · obtain ⟨hx0, hx2, hx4⟩ := tv_twoN (hbl hc59)
    replace hx4 : n2 ≤ 300 := hx4
    have hkx : Zk 300 (es0.map vz) := Zk.vz (hst.pat (k := 1) rfl).2.2 hx2
    have hz2s : zl z2 ≤ 300 := by rw [← hv2]; exact zl_vze (show U32 _ A2 n2 c2 xs2 from hst.pat (k := 0) rfl) hx4
    have hkm : Zk 600 ((es0.map vz).map (z2 * ·)) := hkx.map fun z hz => Nat.le_trans (zl_mul _ _) (by omega)
    have hkq : Zk 300 ((es0.map vz).map (· / z2)) := hkx.map fun z hz => Nat.le_trans (zl_ediv _ _) hz
    have hkb : Zk 600 (((es0.map vz).map (z2 * ·)).map (· / z2)) := hkm.map fun z hz => Nat.le_trans (zl_ediv _ _) hz
    have hg1 := zl_gcdL hkx
    have hg2 := zl_primN hkx
    refine wp_skip ?_
    refine th_n ?_
    refine wp_seq ?_
    refine region_seq ?_
    refine sv (v := .slice A0 n0 c0) henv rfl (rn_move henv rfl) ?_
    clear henv a; intro a henv
    refine seq_step rfl (op_call henv rfl Tryd.call18 rfl (row_of2 (hst.pat (k := 1) rfl) (fun e he => Nat.le_trans (tl_mem he) (by omega)) (by omega)) ?_)
    rintro e w70 ⟨_, _, rfl, ⟨A60, c61, es62, rfl, hr, hl63, hz64⟩, ⟨A65, c66, es67, rfl, hr2, hl68, hz69⟩, hb⟩
    refine ⟨_, rfl, ?_⟩
    clear henv a; intro a henv
    replace hst := hst.fresh2 hb hr hl63 (ap_N hr.2.1 ⟨nou_bk rfl, nou_bk rfl, nou_bk rfl, trivial⟩) hr2 hl68 (ap_M hr2.2.1 ⟨nou_bk rfl, nou_bk rfl, nou_bk rfl, trivial⟩)
    clear hr
    clear hr2
    clear hb
    revert a
    refine mA rfl rfl ?_
    refine sA (v := .slice A60 n0 c61) rfl (fun _ henv => rn_extract henv rfl rfl) ?_
    refine sA (v := .slice A65 n0 c66) rfl (fun _ henv => rn_extract henv rfl rfl) ?_
    refine aA rfl rfl ?_
    refine aA rfl rfl ?_
    intro a henv
    refine wpList_nil ?_
    refine th_n ?_
    refine wp_seq ?_
    refine cut (fun a w => ∃ A72 : Option Addr, ∃ c73 : Nat, ∃ A76 : Option Addr, ∃ c77 : Nat, ∃ g80 : Nat, ∃ g82 : Nat, Env 143 a [(0, .slice A0 n0 c0), (1, .agg #[.bool b2, .slice A2 n2 c2]), (3, .pointer (some ⟨g51, 0, none⟩)), (4, .bool false), (20, .bool true), (21, .bool false), (22, .slice A0 n0 c0), (23, .agg #[.bool b2, .slice A2 n2 c2]), (24, .slice (some ⟨g54, 0, none⟩) 1 1), (25, .slice (some ⟨g56, 0, none⟩) 2 2), (26, .bool bl), (28, .slice A0 n0 c0), (29, .tuple #[.slice A60 n0 c61, .slice A65 n0 c66]), (27, .tuple #[.slice A60 n0 c61, .slice A65 n0 c66]), (30, .slice A60 n0 c61), (31, .slice A65 n0 c66), (5, .slice A60 n0 c61), (6, .slice A65 n0 c66), (7, .pointer (some ⟨g80, 0, none⟩)), (8, .pointer (some ⟨g82, 0, none⟩))] ∧ St w0 w [bk g82 #[.bool (neg z2), .slice A76 (dl z2) c77] 39, bk g80 #[.bool (neg z2), .slice A72 (zl z2) c73] 36, bk g56 #[.slice A0 n0 c0, .slice (some ⟨g54, 0, none⟩) 1 1] 22, bk g54 #[.bool b2, .slice A2 n2 c2] 25, bk g51 #[.bool b2, .slice A2 n2 c2] 25] [pfR A76 c77 z2, pfZ A72 c73 z2, pfRow fM FM 2 A65 n0 c66 es67, pfRow fN FN 2 A60 n0 c61 es62, pfU A2 n2 c2 xs2, pfRow fU FU 2 A0 n0 c0 es0]) ?_ ?_
    · refine region_any (n := 14) (Sk [bk g56 #[.slice A0 n0 c0, .slice (some ⟨g54, 0, none⟩) 1 1] 22, bk g54 #[.bool b2, .slice A2 n2 c2] 25, bk g51 #[.bool b2, .slice A2 n2 c2] 25] [pfRow fM FM 2 A65 n0 c66 es67, pfRow fN FN 2 A60 n0 c61 es62, pfU A2 n2 c2 xs2, pfRow fU FU 2 A0 n0 c0 es0] [12, 13] []) mixed rfl henv hst ?_
      clear henv hst; intro w71 henv hst
      refine tA (i := 0) [1, 4, 9, 12, 13] (v := .pointer (some ⟨g51, 0, none⟩)) rfl (by kernel_rfl) (fun _ _ _ h => h) henv rfl (fun _ => rn_fieldAddr henv fd_anvil_anvillaw04_Num_0 (ty_bool.size) (by decide) rfl) ?_
      clear henv a; intro a henv
      refine sAny_take (i := 1) [4, 9, 12, 13] (fun w' => w'.heap[g51]? = some (.cells #[.bool b2, .slice A2 n2 c2] 25 (0, 0))) (v := .bool b2) rfl (by kernel_rfl) (fun _ _ _ h => h) (fun _ _ _ hS => hS.1.oat (k := 2) rfl) henv rfl (hst.oat (k := 2) rfl) (fun w' hg => rn_load1 henv ty_bool rfl hg rfl) ?_
      clear henv a; intro a henv
      refine tA (i := 2) [3, 4, 9, 12, 13] (v := .pointer (some ⟨g51, 1, none⟩)) rfl (by kernel_rfl) (fun _ _ _ h => h) henv rfl (fun _ => rn_fieldAddr henv fd_anvil_anvillaw04_Num_1 (ty__uint32.size) (by decide) rfl) ?_
      clear henv a; intro a henv
      refine sAny_take (i := 3) [4, 9, 12, 13] (fun w' => w'.heap[g51]? = some (.cells #[.bool b2, .slice A2 n2 c2] 25 (0, 0))) (v := .slice A2 n2 c2) rfl (by kernel_rfl) (fun _ _ _ h => h) (fun _ _ _ hS => hS.1.oat (k := 2) rfl) henv rfl (hst.oat (k := 2) rfl) (fun w' hg => rn_load1 henv ty__uint32 rfl hg rfl) ?_
      clear henv a; intro a henv
      refine tA (i := 5) [6, 9, 12, 13] (v := .pointer (some ⟨g51, 0, none⟩)) rfl (by kernel_rfl) (fun _ _ _ h => h) henv rfl (fun _ => rn_fieldAddr henv fd_anvil_anvillaw04_Num_0 (ty_bool.size) (by decide) rfl) ?_
      clear henv a; intro a henv
      refine sAny_take (i := 6) [9, 12, 13] (fun w' => w'.heap[g51]? = some (.cells #[.bool b2, .slice A2 n2 c2] 25 (0, 0))) (v := .bool b2) rfl (by kernel_rfl) (fun _ _ _ h => h) (fun _ _ _ hS => hS.1.oat (k := 2) rfl) henv rfl (hst.oat (k := 2) rfl) (fun w' hg => rn_load1 henv ty_bool rfl hg rfl) ?_
      clear henv a; intro a henv
      refine tA (i := 7) [8, 9, 12, 13] (v := .pointer (some ⟨g51, 1, none⟩)) rfl (by kernel_rfl) (fun _ _ _ h => h) henv rfl (fun _ => rn_fieldAddr henv fd_anvil_anvillaw04_Num_1 (ty__uint32.size) (by decide) rfl) ?_
      clear henv a; intro a henv
      refine sAny_take (i := 8) [9, 12, 13] (fun w' => w'.heap[g51]? = some (.cells #[.bool b2, .slice A2 n2 c2] 25 (0, 0))) (v := .slice A2 n2 c2) rfl (by kernel_rfl) (fun _ _ _ h => h) (fun _ _ _ hS => hS.1.oat (k := 2) rfl) henv rfl (hst.oat (k := 2) rfl) (fun w' hg => rn_load1 henv ty__uint32 rfl hg rfl) ?_
      clear henv a; intro a henv
      refine sAny_all (rs := [4, 10, 11]) (by kernel_rfl) (by simp) ?_
      simp only [List.forall_mem_cons, List.not_mem_nil, false_implies, implies_true, and_true]
      refine ⟨?_, ?_, ?_⟩
      · refine ⟨_, rfl, rfl, op_call henv rfl Tryd.call19 rfl (make_zv (show U32 _ A2 n2 c2 xs2 from hst.pat (k := 2) rfl) hv2 (by omega)) ?_⟩
        rintro e w75 ⟨_, rfl, ⟨A72, c73, rfl, hz74⟩, hb⟩
        refine ⟨_, rfl, ?_⟩
        clear henv a; intro a henv
        replace hst := (hst.call hb).addZ hz74 ⟨nou_bk rfl, nou_bk rfl, nou_bk rfl, trivial⟩
        clear hz74
        clear hb
        refine ⟨.inr ⟨hst.kn.pick [0, 1, 2] (rg 1 4), .inr (hst.kn.pick [] [])⟩, ?_⟩
        refine sAny_all (rs := [9, 10, 11]) (by kernel_rfl) (by simp) ?_
        simp only [List.forall_mem_cons, List.not_mem_nil, false_implies, implies_true, and_true]
        refine ⟨?_, ?_, ?_⟩
        · refine ⟨_, rfl, rfl, op_call henv rfl Tryd.call20 rfl (make_rv (show U32 _ A2 n2 c2 xs2 from hst.pat (k := 3) rfl) hv2 (by omega)) ?_⟩
          rintro e w79 ⟨_, rfl, ⟨A76, c77, rfl, hz78⟩, hb⟩
          refine ⟨_, rfl, ?_⟩
          clear henv a; intro a henv
          replace hst := (hst.call hb).addR hz78 ⟨nou_bk rfl, nou_bk rfl, nou_bk rfl, trivial⟩
          clear hz78
          clear hb
          refine ⟨.inr ⟨hst.kn.pick [0, 1, 2] (rg 2 4), .inr (hst.kn.pick [] [])⟩, ?_⟩
          refine sAny_all (rs := [10, 11]) (by kernel_rfl) (by simp) ?_
          simp only [List.forall_mem_cons, List.not_mem_nil, false_implies, implies_true, and_true]
          refine ⟨?_, ?_⟩
          · refine ⟨_, rfl, rfl, op_alloc (c := #[.bool (neg 0), .slice none (zl 0) 0]) henv hst rfl zero_anvil_integer_Int zcells ?_⟩
            clear henv hst a; intro a w81 g80 henv hst
            refine ⟨.inr ⟨hst.kn.pick [1, 2, 3] (rg 2 4), .inr (hst.kn.pick [] [])⟩, ?_⟩
            refine sAny_one (i := 11) (by kernel_rfl) rfl rfl (op_alloc (c := #[.bool (neg 0), .slice none (dl 0) 0]) henv hst rfl zero_anvil_anvilref02_Int rcells ?_)
            clear henv hst a; intro a w83 g82 henv hst
            refine ⟨.inr ⟨hst.kn.pick [2, 3, 4] (rg 2 4), .inr (hst.kn.pick [] [])⟩, ?_⟩
            refine sAny_one (i := 12) (by kernel_rfl) rfl rfl (op_store (k := 1) (c' := #[.bool (neg z2), .slice A72 (zl z2) c73]) henv hst (ty_anvil_integer_Int.size) rfl rfl rfl rfl (by simp) rfl rfl ?_)
            clear henv hst a; intro a w84 henv hst
            refine ⟨.inr ⟨hst.kn.pick [2, 3, 4] (rg 2 4), .inl rfl⟩, ?_⟩
            refine sAny_one (i := 13) (by kernel_rfl) rfl rfl (op_store (k := 0) (c' := #[.bool (neg z2), .slice A76 (dl z2) c77]) henv hst (ty_anvil_anvilref02_Int.size) rfl rfl rfl rfl (by simp) rfl rfl ?_)
            clear henv hst a; intro a w85 henv hst
            refine ⟨.inr ⟨hst.kn.pick [2, 3, 4] (rg 2 4), .inl rfl⟩, ?_⟩
            refine sAny_done (by kernel_rfl) ?_ _
            exact th_n ⟨A72, c73, A76, c77, g80, g82, henv.sub ⟨rfl, rfl, rfl, rfl, rfl, rfl, rfl, rfl, rfl, rfl, rfl, rfl, rfl, rfl, rfl, rfl, rfl, rfl, rfl, rfl, trivial⟩, hst.pick [0, 1, 2, 3, 4] [0, 1, 2, 3, 4, 5] (by decide)⟩
          · refine ⟨_, rfl, rfl, op_alloc (c := #[.bool (neg 0), .slice none (dl 0) 0]) henv hst rfl zero_anvil_anvilref02_Int rcells ?_⟩
            clear henv hst a; intro a w87 g86 henv hst
            refine ⟨.inr ⟨hst.kn.pick [1, 2, 3] (rg 2 4), .inr (hst.kn.pick [] [])⟩, ?_⟩
            refine sAny_one (i := 10) (by kernel_rfl) rfl rfl (op_alloc (c := #[.bool (neg 0), .slice none (zl 0) 0]) henv hst rfl zero_anvil_integer_Int zcells ?_)
            clear henv hst a; intro a w89 g88 henv hst
            refine ⟨.inr ⟨hst.kn.pick [2, 3, 4] (rg 2 4), .inr (hst.kn.pick [] [])⟩, ?_⟩
            refine sAny_one (i := 12) (by kernel_rfl) rfl rfl (op_store (k := 0) (c' := #[.bool (neg z2), .slice A72 (zl z2) c73]) henv hst (ty_anvil_integer_Int.size) rfl rfl rfl rfl (by simp) rfl rfl ?_)
            clear henv hst a; intro a w90 henv hst
            refine ⟨.inr ⟨hst.kn.pick [2, 3, 4] (rg 2 4), .inl rfl⟩, ?_⟩
            refine sAny_one (i := 13) (by kernel_rfl) rfl rfl (op_store (k := 1) (c' := #[.bool (neg z2), .slice A76 (dl z2) c77]) henv hst (ty_anvil_anvilref02_Int.size) rfl rfl rfl rfl (by simp) rfl rfl ?_)
            clear henv hst a; intro a w91 henv hst
            refine ⟨.inr ⟨hst.kn.pick [2, 3, 4] (rg 2 4), .inl rfl⟩, ?_⟩
            refine sAny_done (by kernel_rfl) ?_ _
            exact th_n ⟨A72, c73, A76, c77, g88, g86, henv.sub ⟨rfl, rfl, rfl, rfl, rfl, rfl, rfl, rfl, rfl, rfl, rfl, rfl, rfl, rfl, rfl, rfl, rfl, rfl, rfl, rfl, trivial⟩, hst.pick [1, 0, 2, 3, 4] [0, 1, 2, 3, 4, 5] (by decide)⟩
        · refine ⟨_, rfl, rfl, op_alloc (c := #[.bool (neg 0), .slice none (zl 0) 0]) henv hst rfl zero_anvil_integer_Int zcells ?_⟩
          clear henv hst a; intro a w93 g92 henv hst
          refine ⟨.inr ⟨hst.kn.pick [1, 2, 3] (rg 1 4), .inr (hst.kn.pick [] [])⟩, ?_⟩
          refine sAny_all (rs := [9, 11]) (by kernel_rfl) (by simp) ?_
          simp only [List.forall_mem_cons, List.not_mem_nil, false_implies, implies_true, and_true]
          refine ⟨?_, ?_⟩
          · refine ⟨_, rfl, rfl, op_call henv rfl Tryd.call20 rfl (make_rv (show U32 _ A2 n2 c2 xs2 from hst.pat (k := 3) rfl) hv2 (by omega)) ?_⟩
            rintro e w97 ⟨_, rfl, ⟨A94, c95, rfl, hz96⟩, hb⟩
            refine ⟨_, rfl, ?_⟩
            clear henv a; intro a henv
            replace hst := (hst.call hb).addR hz96 ⟨nou_bk rfl, nou_bk rfl, nou_bk rfl, nou_bk rfl, trivial⟩
            clear hz96
            clear hb
            refine ⟨.inr ⟨hst.kn.pick [1, 2, 3] (rg 2 4), .inr (hst.kn.pick [] [])⟩, ?_⟩
            refine sAny_one (i := 11) (by kernel_rfl) rfl rfl (op_alloc (c := #[.bool (neg 0), .slice none (dl 0) 0]) henv hst rfl zero_anvil_anvilref02_Int rcells ?_)
            clear henv hst a; intro a w99 g98 henv hst
            refine ⟨.inr ⟨hst.kn.pick [2, 3, 4] (rg 2 4), .inr (hst.kn.pick [] [])⟩, ?_⟩
            refine sAny_one (i := 12) (by kernel_rfl) rfl rfl (op_store (k := 1) (c' := #[.bool (neg z2), .slice A72 (zl z2) c73]) henv hst (ty_anvil_integer_Int.size) rfl rfl rfl rfl (by simp) rfl rfl ?_)
            clear henv hst a; intro a w100 henv hst
            refine ⟨.inr ⟨hst.kn.pick [2, 3, 4] (rg 2 4), .inl rfl⟩, ?_⟩
            refine sAny_one (i := 13) (by kernel_rfl) rfl rfl (op_store (k := 0) (c' := #[.bool (neg z2), .slice A94 (dl z2) c95]) henv hst (ty_anvil_anvilref02_Int.size) rfl rfl rfl rfl (by simp) rfl rfl ?_)
            clear henv hst a; intro a w101 henv hst
            refine ⟨.inr ⟨hst.kn.pick [2, 3, 4] (rg 2 4), .inl rfl⟩, ?_⟩
            refine sAny_done (by kernel_rfl) ?_ _
            exact th_n ⟨A72, c73, A94, c95, g92, g98, henv.sub ⟨rfl, rfl, rfl, rfl, rfl, rfl, rfl, rfl, rfl, rfl, rfl, rfl, rfl, rfl, rfl, rfl, rfl, rfl, rfl, rfl, trivial⟩, hst.pick [0, 1, 2, 3, 4] [0, 1, 2, 3, 4, 5] (by decide)⟩
          · refine ⟨_, rfl, rfl, op_alloc (c := #[.bool (neg 0), .slice none (dl 0) 0]) henv hst rfl zero_anvil_anvilref02_Int rcells ?_⟩
            clear henv hst a; intro a w103 g102 henv hst
            refine ⟨.inr ⟨hst.kn.pick [2, 3, 4] (rg 1 4), .inr (hst.kn.pick [] [])⟩, ?_⟩
            refine sAny_one (i := 9) (by kernel_rfl) rfl rfl (op_call henv rfl Tryd.call20 rfl (make_rv (show U32 _ A2 n2 c2 xs2 from hst.pat (k := 3) rfl) hv2 (by omega)) ?_)
            rintro e w107 ⟨_, rfl, ⟨A104, c105, rfl, hz106⟩, hb⟩
            refine ⟨_, rfl, ?_⟩
            clear henv a; intro a henv
            replace hst := (hst.call hb).addR hz106 ⟨nou_bk rfl, nou_bk rfl, nou_bk rfl, nou_bk rfl, nou_bk rfl, trivial⟩
            clear hz106
            clear hb
            refine ⟨.inr ⟨hst.kn.pick [2, 3, 4] (rg 2 4), .inr (hst.kn.pick [] [])⟩, ?_⟩
            refine sAny_one (i := 12) (by kernel_rfl) rfl rfl (op_store (k := 1) (c' := #[.bool (neg z2), .slice A72 (zl z2) c73]) henv hst (ty_anvil_integer_Int.size) rfl rfl rfl rfl (by simp) rfl rfl ?_)
            clear henv hst a; intro a w108 henv hst
            refine ⟨.inr ⟨hst.kn.pick [2, 3, 4] (rg 2 4), .inl rfl⟩, ?_⟩
            refine sAny_one (i := 13) (by kernel_rfl) rfl rfl (op_store (k := 0) (c' := #[.bool (neg z2), .slice A104 (dl z2) c105]) henv hst (ty_anvil_anvilref02_Int.size) rfl rfl rfl rfl (by simp) rfl rfl ?_)
            clear henv hst a; intro a w109 henv hst
            refine ⟨.inr ⟨hst.kn.pick [2, 3, 4] (rg 2 4), .inl rfl⟩, ?_⟩
            refine sAny_done (by kernel_rfl) ?_ _
            exact th_n ⟨A72, c73, A104, c105, g92, g102, henv.sub ⟨rfl, rfl, rfl, rfl, rfl, rfl, rfl, rfl, rfl, rfl, rfl, rfl, rfl, rfl, rfl, rfl, rfl, rfl, rfl, rfl, trivial⟩, hst.pick [0, 1, 2, 3, 4] [0, 1, 2, 3, 4, 5] (by decide)⟩
        · refine ⟨_, rfl, rfl, op_alloc (c := #[.bool (neg 0), .slice none (dl 0) 0]) henv hst rfl zero_anvil_anvilref02_Int rcells ?_⟩
          clear henv hst a; intro a w111 g110 henv hst
          refine ⟨.inr ⟨hst.kn.pick [1, 2, 3] (rg 1 4), .inr (hst.kn.pick [] [])⟩, ?_⟩
          refine sAny_all (rs := [9, 10]) (by kernel_rfl) (by simp) ?_
          simp only [List.forall_mem_cons, List.not_mem_nil, false_implies, implies_true, and_true]
          refine ⟨?_, ?_⟩
          · refine ⟨_, rfl, rfl, op_call henv rfl Tryd.call20 rfl (make_rv (show U32 _ A2 n2 c2 xs2 from hst.pat (k := 3) rfl) hv2 (by omega)) ?_⟩
            rintro e w115 ⟨_, rfl, ⟨A112, c113, rfl, hz114⟩, hb⟩
            refine ⟨_, rfl, ?_⟩
            clear henv a; intro a henv
            replace hst := (hst.call hb).addR hz114 ⟨nou_bk rfl, nou_bk rfl, nou_bk rfl, nou_bk rfl, trivial⟩
            clear hz114
            clear hb
            refine ⟨.inr ⟨hst.kn.pick [1, 2, 3] (rg 2 4), .inr (hst.kn.pick [] [])⟩, ?_⟩
            refine sAny_one (i := 10) (by kernel_rfl) rfl rfl (op_alloc (c := #[.bool (neg 0), .slice none (zl 0) 0]) henv hst rfl zero_anvil_integer_Int zcells ?_)
            clear henv hst a; intro a w117 g116 henv hst
            refine ⟨.inr ⟨hst.kn.pick [2, 3, 4] (rg 2 4), .inr (hst.kn.pick [] [])⟩, ?_⟩
            refine sAny_one (i := 12) (by kernel_rfl) rfl rfl (op_store (k := 0) (c' := #[.bool (neg z2), .slice A72 (zl z2) c73]) henv hst (ty_anvil_integer_Int.size) rfl rfl rfl rfl (by simp) rfl rfl ?_)
            clear henv hst a; intro a w118 henv hst
            refine ⟨.inr ⟨hst.kn.pick [2, 3, 4] (rg 2 4), .inl rfl⟩, ?_⟩
            refine sAny_one (i := 13) (by kernel_rfl) rfl rfl (op_store (k := 1) (c' := #[.bool (neg z2), .slice A112 (dl z2) c113]) henv hst (ty_anvil_anvilref02_Int.size) rfl rfl rfl rfl (by simp) rfl rfl ?_)
            clear henv hst a; intro a w119 henv hst
            refine ⟨.inr ⟨hst.kn.pick [2, 3, 4] (rg 2 4), .inl rfl⟩, ?_⟩
            refine sAny_done (by kernel_rfl) ?_ _
            exact th_n ⟨A72, c73, A112, c113, g116, g110, henv.sub ⟨rfl, rfl, rfl, rfl, rfl, rfl, rfl, rfl, rfl, rfl, rfl, rfl, rfl, rfl, rfl, rfl, rfl, rfl, rfl, rfl, trivial⟩, hst.pick [1, 0, 2, 3, 4] [0, 1, 2, 3, 4, 5] (by decide)⟩
          · refine ⟨_, rfl, rfl, op_alloc (c := #[.bool (neg 0), .slice none (zl 0) 0]) henv hst rfl zero_anvil_integer_Int zcells ?_⟩
            clear henv hst a; intro a w121 g120 henv hst
            refine ⟨.inr ⟨hst.kn.pick [2, 3, 4] (rg 1 4), .inr (hst.kn.pick [] [])⟩, ?_⟩
            refine sAny_one (i := 9) (by kernel_rfl) rfl rfl (op_call henv rfl Tryd.call20 rfl (make_rv (show U32 _ A2 n2 c2 xs2 from hst.pat (k := 3) rfl) hv2 (by omega)) ?_)
            rintro e w125 ⟨_, rfl, ⟨A122, c123, rfl, hz124⟩, hb⟩
            refine ⟨_, rfl, ?_⟩
            clear henv a; intro a henv
            replace hst := (hst.call hb).addR hz124 ⟨nou_bk rfl, nou_bk rfl, nou_bk rfl, nou_bk rfl, nou_bk rfl, trivial⟩
            clear hz124
            clear hb
            refine ⟨.inr ⟨hst.kn.pick [2, 3, 4] (rg 2 4), .inr (hst.kn.pick [] [])⟩, ?_⟩
            refine sAny_one (i := 12) (by kernel_rfl) rfl rfl (op_store (k := 0) (c' := #[.bool (neg z2), .slice A72 (zl z2) c73]) henv hst (ty_anvil_integer_Int.size) rfl rfl rfl rfl (by simp) rfl rfl ?_)
            clear henv hst a; intro a w126 henv hst
            refine ⟨.inr ⟨hst.kn.pick [2, 3, 4] (rg 2 4), .inl rfl⟩, ?_⟩
            refine sAny_one (i := 13) (by kernel_rfl) rfl rfl (op_store (k := 1) (c' := #[.bool (neg z2), .slice A122 (dl z2) c123]) henv hst (ty_anvil_anvilref02_Int.size) rfl rfl rfl rfl (by simp) rfl rfl ?_)
            clear henv hst a; intro a w127 henv hst
            refine ⟨.inr ⟨hst.kn.pick [2, 3, 4] (rg 2 4), .inl rfl⟩, ?_⟩
            refine sAny_done (by kernel_rfl) ?_ _
            exact th_n ⟨A72, c73, A122, c123, g120, g110, henv.sub ⟨rfl, rfl, rfl, rfl, rfl, rfl, rfl, rfl, rfl, rfl, rfl, rfl, rfl, rfl, rfl, rfl, rfl, rfl, rfl, rfl, trivial⟩, hst.pick [1, 0, 2, 3, 4] [0, 1, 2, 3, 4, 5] (by decide)⟩
      · refine ⟨_, rfl, rfl, op_alloc (c := #[.bool (neg 0), .slice none (zl 0) 0]) henv hst rfl zero_anvil_integer_Int zcells ?_⟩
        clear henv hst a; intro a w129 g128 henv hst
        refine ⟨.inr ⟨hst.kn.pick [1, 2, 3] (rg 0 4), .inr (hst.kn.pick [] [])⟩, ?_⟩
        refine sAny_all (rs := [4, 11]) (by kernel_rfl) (by simp) ?_
        simp only [List.forall_mem_cons, List.not_mem_nil, false_implies, implies_true, and_true]
        refine ⟨?_, ?_⟩
        · refine ⟨_, rfl, rfl, op_call henv rfl Tryd.call19 rfl (make_zv (show U32 _ A2 n2 c2 xs2 from hst.pat (k := 2) rfl) hv2 (by omega)) ?_⟩
          rintro e w133 ⟨_, rfl, ⟨A130, c131, rfl, hz132⟩, hb⟩
          refine ⟨_, rfl, ?_⟩
          clear henv a; intro a henv
          replace hst := (hst.call hb).addZ hz132 ⟨nou_bk rfl, nou_bk rfl, nou_bk rfl, nou_bk rfl, trivial⟩
          clear hz132
          clear hb
          refine ⟨.inr ⟨hst.kn.pick [1, 2, 3] (rg 1 4), .inr (hst.kn.pick [] [])⟩, ?_⟩
          refine sAny_all (rs := [9, 11]) (by kernel_rfl) (by simp) ?_
          simp only [List.forall_mem_cons, List.not_mem_nil, false_implies, implies_true, and_true]
          refine ⟨?_, ?_⟩
          · refine ⟨_, rfl, rfl, op_call henv rfl Tryd.call20 rfl (make_rv (show U32 _ A2 n2 c2 xs2 from hst.pat (k := 3) rfl) hv2 (by omega)) ?_⟩
            rintro e w137 ⟨_, rfl, ⟨A134, c135, rfl, hz136⟩, hb⟩
            refine ⟨_, rfl, ?_⟩
            clear henv a; intro a henv
            replace hst := (hst.call hb).addR hz136 ⟨nou_bk rfl, nou_bk rfl, nou_bk rfl, nou_bk rfl, trivial⟩
            clear hz136
            clear hb
            refine ⟨.inr ⟨hst.kn.pick [1, 2, 3] (rg 2 4), .inr (hst.kn.pick [] [])⟩, ?_⟩
            refine sAny_one (i := 11) (by kernel_rfl) rfl rfl (op_alloc (c := #[.bool (neg 0), .slice none (dl 0) 0]) henv hst rfl zero_anvil_anvilref02_Int rcells ?_)
            clear henv hst a; intro a w139 g138 henv hst
            refine ⟨.inr ⟨hst.kn.pick [2, 3, 4] (rg 2 4), .inr (hst.kn.pick [] [])⟩, ?_⟩
            refine sAny_one (i := 12) (by kernel_rfl) rfl rfl (op_store (k := 1) (c' := #[.bool (neg z2), .slice A130 (zl z2) c131]) henv hst (ty_anvil_integer_Int.size) rfl rfl rfl rfl (by simp) rfl rfl ?_)
            clear henv hst a; intro a w140 henv hst
            refine ⟨.inr ⟨hst.kn.pick [2, 3, 4] (rg 2 4), .inl rfl⟩, ?_⟩
            refine sAny_one (i := 13) (by kernel_rfl) rfl rfl (op_store (k := 0) (c' := #[.bool (neg z2), .slice A134 (dl z2) c135]) henv hst (ty_anvil_anvilref02_Int.size) rfl rfl rfl rfl (by simp) rfl rfl ?_)
            clear henv hst a; intro a w141 henv hst
            refine ⟨.inr ⟨hst.kn.pick [2, 3, 4] (rg 2 4), .inl rfl⟩, ?_⟩
            refine sAny_done (by kernel_rfl) ?_ _
            exact th_n ⟨A130, c131, A134, c135, g128, g138, henv.sub ⟨rfl, rfl, rfl, rfl, rfl, rfl, rfl, rfl, rfl, rfl, rfl, rfl, rfl, rfl, rfl, rfl, rfl, rfl, rfl, rfl, trivial⟩, hst.pick [0, 1, 2, 3, 4] [0, 1, 2, 3, 4, 5] (by decide)⟩
          · refine ⟨_, rfl, rfl, op_alloc (c := #[.bool (neg 0), .slice none (dl 0) 0]) henv hst rfl zero_anvil_anvilref02_Int rcells ?_⟩
            clear henv hst a; intro a w143 g142 henv hst
            refine ⟨.inr ⟨hst.kn.pick [2, 3, 4] (rg 1 4), .inr (hst.kn.pick [] [])⟩, ?_⟩
            refine sAny_one (i := 9) (by kernel_rfl) rfl rfl (op_call henv rfl Tryd.call20 rfl (make_rv (show U32 _ A2 n2 c2 xs2 from hst.pat (k := 3) rfl) hv2 (by omega)) ?_)
            rintro e w147 ⟨_, rfl, ⟨A144, c145, rfl, hz146⟩, hb⟩
            refine ⟨_, rfl, ?_⟩
            clear henv a; intro a henv
            replace hst := (hst.call hb).addR hz146 ⟨nou_bk rfl, nou_bk rfl, nou_bk rfl, nou_bk rfl, nou_bk rfl, trivial⟩
            clear hz146
            clear hb
            refine ⟨.inr ⟨hst.kn.pick [2, 3, 4] (rg 2 4), .inr (hst.kn.pick [] [])⟩, ?_⟩
            refine sAny_one (i := 12) (by kernel_rfl) rfl rfl (op_store (k := 1) (c' := #[.bool (neg z2), .slice A130 (zl z2) c131]) henv hst (ty_anvil_integer_Int.size) rfl rfl rfl rfl (by simp) rfl rfl ?_)
            clear henv hst a; intro a w148 henv hst
            refine ⟨.inr ⟨hst.kn.pick [2, 3, 4] (rg 2 4), .inl rfl⟩, ?_⟩
            refine sAny_one (i := 13) (by kernel_rfl) rfl rfl (op_store (k := 0) (c' := #[.bool (neg z2), .slice A144 (dl z2) c145]) henv hst (ty_anvil_anvilref02_Int.size) rfl rfl rfl rfl (by simp) rfl rfl ?_)
            clear henv hst a; intro a w149 henv hst
            refine ⟨.inr ⟨hst.kn.pick [2, 3, 4] (rg 2 4), .inl rfl⟩, ?_⟩
            refine sAny_done (by kernel_rfl) ?_ _
            exact th_n ⟨A130, c131, A144, c145, g128, g142, henv.sub ⟨rfl, rfl, rfl, rfl, rfl, rfl, rfl, rfl, rfl, rfl, rfl, rfl, rfl, rfl, rfl, rfl, rfl, rfl, rfl, rfl, trivial⟩, hst.pick [0, 1, 2, 3, 4] [0, 1, 2, 3, 4, 5] (by decide)⟩
        · refine ⟨_, rfl, rfl, op_alloc (c := #[.bool (neg 0), .slice none (dl 0) 0]) henv hst rfl zero_anvil_anvilref02_Int rcells ?_⟩
          clear henv hst a; intro a w151 g150 henv hst
          refine ⟨.inr ⟨hst.kn.pick [2, 3, 4] (rg 0 4), .inr (hst.kn.pick [] [])⟩, ?_⟩
          refine sAny_one (i := 4) (by kernel_rfl) rfl rfl (op_call henv rfl Tryd.call19 rfl (make_zv (show U32 _ A2 n2 c2 xs2 from hst.pat (k := 2) rfl) hv2 (by omega)) ?_)
          rintro e w155 ⟨_, rfl, ⟨A152, c153, rfl, hz154⟩, hb⟩
          refine ⟨_, rfl, ?_⟩
          clear henv a; intro a henv
          replace hst := (hst.call hb).addZ hz154 ⟨nou_bk rfl, nou_bk rfl, nou_bk rfl, nou_bk rfl, nou_bk rfl, trivial⟩
          clear hz154
          clear hb
          refine ⟨.inr ⟨hst.kn.pick [2, 3, 4] (rg 1 4), .inr (hst.kn.pick [] [])⟩, ?_⟩
          refine sAny_one (i := 9) (by kernel_rfl) rfl rfl (op_call henv rfl Tryd.call20 rfl (make_rv (show U32 _ A2 n2 c2 xs2 from hst.pat (k := 3) rfl) hv2 (by omega)) ?_)
          rintro e w159 ⟨_, rfl, ⟨A156, c157, rfl, hz158⟩, hb⟩
          refine ⟨_, rfl, ?_⟩
          clear henv a; intro a henv
          replace hst := (hst.call hb).addR hz158 ⟨nou_bk rfl, nou_bk rfl, nou_bk rfl, nou_bk rfl, nou_bk rfl, trivial⟩
          clear hz158
          clear hb
          refine ⟨.inr ⟨hst.kn.pick [2, 3, 4] (rg 2 4), .inr (hst.kn.pick [] [])⟩, ?_⟩
          refine sAny_one (i := 12) (by kernel_rfl) rfl rfl (op_store (k := 1) (c' := #[.bool (neg z2), .slice A152 (zl z2) c153]) henv hst (ty_anvil_integer_Int.size) rfl rfl rfl rfl (by simp) rfl rfl ?_)
          clear henv hst a; intro a w160 henv hst
          refine ⟨.inr ⟨hst.kn.pick [2, 3, 4] (rg 2 4), .inl rfl⟩, ?_⟩
          refine sAny_one (i := 13) (by kernel_rfl) rfl rfl (op_store (k := 0) (c' := #[.bool (neg z2), .slice A156 (dl z2) c157]) henv hst (ty_anvil_anvilref02_Int.size) rfl rfl rfl rfl (by simp) rfl rfl ?_)
          clear henv hst a; intro a w161 henv hst
          refine ⟨.inr ⟨hst.kn.pick [2, 3, 4] (rg 2 4), .inl rfl⟩, ?_⟩
          refine sAny_done (by kernel_rfl) ?_ _
          exact th_n ⟨A152, c153, A156, c157, g128, g150, henv.sub ⟨rfl, rfl, rfl, rfl, rfl, rfl, rfl, rfl, rfl, rfl, rfl, rfl, rfl, rfl, rfl, rfl, rfl, rfl, rfl, rfl, trivial⟩, hst.pick [0, 1, 2, 3, 4] [0, 1, 2, 3, 4, 5] (by decide)⟩
      · refine ⟨_, rfl, rfl, op_alloc (c := #[.bool (neg 0), .slice none (dl 0) 0]) henv hst rfl zero_anvil_anvilref02_Int rcells ?_⟩
        clear henv hst a; intro a w163 g162 henv hst
        refine ⟨.inr ⟨hst.kn.pick [1, 2, 3] (rg 0 4), .inr (hst.kn.pick [] [])⟩, ?_⟩
        refine sAny_all (rs := [4, 10]) (by kernel_rfl) (by simp) ?_
        simp only [List.forall_mem_cons, List.not_mem_nil, false_implies, implies_true, and_true]
        refine ⟨?_, ?_⟩
        · refine ⟨_, rfl, rfl, op_call henv rfl Tryd.call19 rfl (make_zv (show U32 _ A2 n2 c2 xs2 from hst.pat (k := 2) rfl) hv2 (by omega)) ?_⟩
          rintro e w167 ⟨_, rfl, ⟨A164, c165, rfl, hz166⟩, hb⟩
          refine ⟨_, rfl, ?_⟩
          clear henv a; intro a henv
          replace hst := (hst.call hb).addZ hz166 ⟨nou_bk rfl, nou_bk rfl, nou_bk rfl, nou_bk rfl, trivial⟩
          clear hz166
          clear hb
          refine ⟨.inr ⟨hst.kn.pick [1, 2, 3] (rg 1 4), .inr (hst.kn.pick [] [])⟩, ?_⟩
          refine sAny_all (rs := [9, 10]) (by kernel_rfl) (by simp) ?_
          simp only [List.forall_mem_cons, List.not_mem_nil, false_implies, implies_true, and_true]
          refine ⟨?_, ?_⟩
          · refine ⟨_, rfl, rfl, op_call henv rfl Tryd.call20 rfl (make_rv (show U32 _ A2 n2 c2 xs2 from hst.pat (k := 3) rfl) hv2 (by omega)) ?_⟩
            rintro e w171 ⟨_, rfl, ⟨A168, c169, rfl, hz170⟩, hb⟩
            refine ⟨_, rfl, ?_⟩
            clear henv a; intro a henv
            replace hst := (hst.call hb).addR hz170 ⟨nou_bk rfl, nou_bk rfl, nou_bk rfl, nou_bk rfl, trivial⟩
            clear hz170
            clear hb
            refine ⟨.inr ⟨hst.kn.pick [1, 2, 3] (rg 2 4), .inr (hst.kn.pick [] [])⟩, ?_⟩
            refine sAny_one (i := 10) (by kernel_rfl) rfl rfl (op_alloc (c := #[.bool (neg 0), .slice none (zl 0) 0]) henv hst rfl zero_anvil_integer_Int zcells ?_)
            clear henv hst a; intro a w173 g172 henv hst
            refine ⟨.inr ⟨hst.kn.pick [2, 3, 4] (rg 2 4), .inr (hst.kn.pick [] [])⟩, ?_⟩
            refine sAny_one (i := 12) (by kernel_rfl) rfl rfl (op_store (k := 0) (c' := #[.bool (neg z2), .slice A164 (zl z2) c165]) henv hst (ty_anvil_integer_Int.size) rfl rfl rfl rfl (by simp) rfl rfl ?_)
            clear henv hst a; intro a w174 henv hst
            refine ⟨.inr ⟨hst.kn.pick [2, 3, 4] (rg 2 4), .inl rfl⟩, ?_⟩
            refine sAny_one (i := 13) (by kernel_rfl) rfl rfl (op_store (k := 1) (c' := #[.bool (neg z2), .slice A168 (dl z2) c169]) henv hst (ty_anvil_anvilref02_Int.size) rfl rfl rfl rfl (by simp) rfl rfl ?_)
            clear henv hst a; intro a w175 henv hst
            refine ⟨.inr ⟨hst.kn.pick [2, 3, 4] (rg 2 4), .inl rfl⟩, ?_⟩
            refine sAny_done (by kernel_rfl) ?_ _
            exact th_n ⟨A164, c165, A168, c169, g172, g162, henv.sub ⟨rfl, rfl, rfl, rfl, rfl, rfl, rfl, rfl, rfl, rfl, rfl, rfl, rfl, rfl, rfl, rfl, rfl, rfl, rfl, rfl, trivial⟩, hst.pick [1, 0, 2, 3, 4] [0, 1, 2, 3, 4, 5] (by decide)⟩
          · refine ⟨_, rfl, rfl, op_alloc (c := #[.bool (neg 0), .slice none (zl 0) 0]) henv hst rfl zero_anvil_integer_Int zcells ?_⟩
            clear henv hst a; intro a w177 g176 henv hst
            refine ⟨.inr ⟨hst.kn.pick [2, 3, 4] (rg 1 4), .inr (hst.kn.pick [] [])⟩, ?_⟩
            refine sAny_one (i := 9) (by kernel_rfl) rfl rfl (op_call henv rfl Tryd.call20 rfl (make_rv (show U32 _ A2 n2 c2 xs2 from hst.pat (k := 3) rfl) hv2 (by omega)) ?_)
            rintro e w181 ⟨_, rfl, ⟨A178, c179, rfl, hz180⟩, hb⟩
            refine ⟨_, rfl, ?_⟩
            clear henv a; intro a henv
            replace hst := (hst.call hb).addR hz180 ⟨nou_bk rfl, nou_bk rfl, nou_bk rfl, nou_bk rfl, nou_bk rfl, trivial⟩
            clear hz180
            clear hb
            refine ⟨.inr ⟨hst.kn.pick [2, 3, 4] (rg 2 4), .inr (hst.kn.pick [] [])⟩, ?_⟩
            refine sAny_one (i := 12) (by kernel_rfl) rfl rfl (op_store (k := 0) (c' := #[.bool (neg z2), .slice A164 (zl z2) c165]) henv hst (ty_anvil_integer_Int.size) rfl rfl rfl rfl (by simp) rfl rfl ?_)
            clear henv hst a; intro a w182 henv hst
            refine ⟨.inr ⟨hst.kn.pick [2, 3, 4] (rg 2 4), .inl rfl⟩, ?_⟩
            refine sAny_one (i := 13) (by kernel_rfl) rfl rfl (op_store (k := 1) (c' := #[.bool (neg z2), .slice A178 (dl z2) c179]) henv hst (ty_anvil_anvilref02_Int.size) rfl rfl rfl rfl (by simp) rfl rfl ?_)
            clear henv hst a; intro a w183 henv hst
            refine ⟨.inr ⟨hst.kn.pick [2, 3, 4] (rg 2 4), .inl rfl⟩, ?_⟩
            refine sAny_done (by kernel_rfl) ?_ _
            exact th_n ⟨A164, c165, A178, c179, g176, g162, henv.sub ⟨rfl, rfl, rfl, rfl, rfl, rfl, rfl, rfl, rfl, rfl, rfl, rfl, rfl, rfl, rfl, rfl, rfl, rfl, rfl, rfl, trivial⟩, hst.pick [1, 0, 2, 3, 4] [0, 1, 2, 3, 4, 5] (by decide)⟩
        · refine ⟨_, rfl, rfl, op_alloc (c := #[.bool (neg 0), .slice none (zl 0) 0]) henv hst rfl zero_anvil_integer_Int zcells ?_⟩
          clear henv hst a; intro a w185 g184 henv hst
          refine ⟨.inr ⟨hst.kn.pick [2, 3, 4] (rg 0 4), .inr (hst.kn.pick [] [])⟩, ?_⟩
          refine sAny_one (i := 4) (by kernel_rfl) rfl rfl (op_call henv rfl Tryd.call19 rfl (make_zv (show U32 _ A2 n2 c2 xs2 from hst.pat (k := 2) rfl) hv2 (by omega)) ?_)
          rintro e w189 ⟨_, rfl, ⟨A186, c187, rfl, hz188⟩, hb⟩
          refine ⟨_, rfl, ?_⟩
          clear henv a; intro a henv
          replace hst := (hst.call hb).addZ hz188 ⟨nou_bk rfl, nou_bk rfl, nou_bk rfl, nou_bk rfl, nou_bk rfl, trivial⟩
          clear hz188
          clear hb
          refine ⟨.inr ⟨hst.kn.pick [2, 3, 4] (rg 1 4), .inr (hst.kn.pick [] [])⟩, ?_⟩
          refine sAny_one (i := 9) (by kernel_rfl) rfl rfl (op_call henv rfl Tryd.call20 rfl (make_rv (show U32 _ A2 n2 c2 xs2 from hst.pat (k := 3) rfl) hv2 (by omega)) ?_)
          rintro e w193 ⟨_, rfl, ⟨A190, c191, rfl, hz192⟩, hb⟩
          refine ⟨_, rfl, ?_⟩
          clear henv a; intro a henv
          replace hst := (hst.call hb).addR hz192 ⟨nou_bk rfl, nou_bk rfl, nou_bk rfl, nou_bk rfl, nou_bk rfl, trivial⟩
          clear hz192
          clear hb
          refine ⟨.inr ⟨hst.kn.pick [2, 3, 4] (rg 2 4), .inr (hst.kn.pick [] [])⟩, ?_⟩
          refine sAny_one (i := 12) (by kernel_rfl) rfl rfl (op_store (k := 0) (c' := #[.bool (neg z2), .slice A186 (zl z2) c187]) henv hst (ty_anvil_integer_Int.size) rfl rfl rfl rfl (by simp) rfl rfl ?_)
          clear henv hst a; intro a w194 henv hst
          refine ⟨.inr ⟨hst.kn.pick [2, 3, 4] (rg 2 4), .inl rfl⟩, ?_⟩
          refine sAny_one (i := 13) (by kernel_rfl) rfl rfl (op_store (k := 1) (c' := #[.bool (neg z2), .slice A190 (dl z2) c191]) henv hst (ty_anvil_anvilref02_Int.size) rfl rfl rfl rfl (by simp) rfl rfl ?_)
          clear henv hst a; intro a w195 henv hst
          refine ⟨.inr ⟨hst.kn.pick [2, 3, 4] (rg 2 4), .inl rfl⟩, ?_⟩
          refine sAny_done (by kernel_rfl) ?_ _
          exact th_n ⟨A186, c187, A190, c191, g184, g162, henv.sub ⟨rfl, rfl, rfl, rfl, rfl, rfl, rfl, rfl, rfl, rfl, rfl, rfl, rfl, rfl, rfl, rfl, rfl, rfl, rfl, rfl, trivial⟩, hst.pick [1, 0, 2, 3, 4] [0, 1, 2, 3, 4, 5] (by decide)⟩
    clear henv hst a
    rintro a w196 ⟨A72, c73, A76, c77, g80, g82, henv, hst⟩
    refine wp_seq ?_
    refine region_seq ?_
    revert a
    refine mA rfl rfl ?_
    refine sA (v := .agg #[.bool (neg z2), .slice A72 (zl z2) c73]) rfl (fun _ henv => rn_load0 henv ty_anvil_integer_Int rfl (hst.oat (k := 1) rfl) rfl) ?_
    intro a henv
    refine seq_step rfl (op_call henv rfl Tryd.call77 rfl (over_known (row_over (m := z2) (hst.pat (k := 3) rfl) hz64 (show ZIn _ A72 c73 z2 from hst.pat (k := 1) rfl) (by omega) hzn ((hkx.mono (by decide))) (by omega)) hdv) ?_)
    rintro e w203 ⟨_, rfl, ⟨A197, c198, es199, rfl, hr, hl200, hz201⟩, hb⟩
    refine ⟨_, rfl, ?_⟩
    clear henv a; intro a henv
    replace hst := hst.freshRow hb hr (ap_N hr.2.1 ⟨nou_rowS, ⟨nou_bk rfl, nou_bk rfl, nou_bk rfl, nou_bk rfl, nou_bk rfl, trivial⟩⟩)
    clear hr
    clear hb
    revert a
    refine mA rfl rfl ?_
    refine sA (v := .slice A197 n0 c198) rfl (fun _ henv => rn_extract henv rfl rfl) ?_
    refine sA (v := .int .i64 0) rfl (fun _ henv => rn_extract henv rfl rfl) ?_
    refine aA rfl rfl ?_
    refine aA rfl rfl ?_
    intro a henv
    refine wpList_nil ?_
    refine th_n ?_
    refine wp_seq ?_
    refine region_seq ?_
    refine sv (v := .slice A65 n0 c66) henv rfl (rn_move henv rfl) ?_
    clear henv a; intro a henv
    refine seq_step rfl (op_call henv rfl Tryd.call78 rfl (ref_content (hst.pat (k := 3) rfl) hz69 ((hkx.mono (by decide)))) ?_)
    rintro e w207 ⟨_, rfl, ⟨A204, c205, rfl, hz206⟩, hb⟩
    refine ⟨_, rfl, ?_⟩
    clear henv a; intro a henv
    replace hst := (hst.call hb).addR hz206 ⟨nou_rowS, nou_bk rfl, nou_bk rfl, nou_bk rfl, nou_bk rfl, nou_bk rfl, trivial⟩
    clear hz206
    clear hb
    refine seq_step rfl (op_alloc (c := #[.bool (neg 0), .slice none (dl 0) 0]) henv hst rfl zero_anvil_anvilref02_Int rcells ?_)
    clear henv hst a; intro a w209 g208 henv hst
    refine seq_step rfl (op_store (k := 0) (c' := #[.bool (neg (gcdL (es0.map vz))), .slice A204 (dl (gcdL (es0.map vz))) c205]) henv hst (ty_anvil_anvilref02_Int.size) rfl rfl rfl rfl (by simp) rfl rfl ?_)
    clear henv hst a; intro a w210 henv hst
    refine wpList_nil ?_
    refine th_n ?_
    refine wp_seq ?_
    refine region_seq ?_
    refine sv (v := .slice A65 n0 c66) henv rfl (rn_move henv rfl) ?_
    clear henv a; intro a henv
    refine seq_step rfl (op_call henv rfl Tryd.call79 rfl (ref_primitive (hst.pat (k := 4) rfl) hz69 ((hkx.mono (by decide))) (by omega)) ?_)
    rintro e w219 ⟨_, _, rfl, ⟨A211, c212, es213, rfl, hr, hl214, hz215⟩, ⟨A216, c217, rfl, hz218⟩, hb⟩
    refine ⟨_, rfl, ?_⟩
    clear henv a; intro a henv
    replace hst := (hst.freshRd hb hr hl214 (ap_M hr.2.1 ⟨nou_bk rfl, nou_rowS, nou_bk rfl, nou_bk rfl, nou_bk rfl, nou_bk rfl, nou_bk rfl, trivial⟩)).addR hz218 ⟨nou_bk rfl, nou_rowS, nou_bk rfl, nou_bk rfl, nou_bk rfl, nou_bk rfl, nou_bk rfl, trivial⟩
    clear hr hz218
    clear hb
    revert a
    refine mA rfl rfl ?_
    refine sA (v := .slice A211 n0 c212) rfl (fun _ henv => rn_extract henv rfl rfl) ?_
    refine sA (v := .agg #[.bool (neg (primN (es0.map vz))), .slice A216 (dl (primN (es0.map vz))) c217]) rfl (fun _ henv => rn_extract henv rfl rfl) ?_
    intro a henv
    refine seq_step rfl (op_alloc (c := #[.bool (neg 0), .slice none (dl 0) 0]) henv hst rfl zero_anvil_anvilref02_Int rcells ?_)
    clear henv hst a; intro a w221 g220 henv hst
    refine sv (v := .slice A211 n0 c212) henv rfl (rn_assign henv rfl) ?_
    clear henv a; intro a henv
    refine seq_step rfl (op_store (k := 0) (c' := #[.bool (neg (primN (es0.map vz))), .slice A216 (dl (primN (es0.map vz))) c217]) henv hst (ty_anvil_anvilref02_Int.size) rfl rfl rfl rfl (by simp) rfl rfl ?_)
    clear henv hst a; intro a w222 henv hst
    refine wpList_nil ?_
    refine th_n ?_
    refine wp_seq ?_
    refine region_seq ?_
    refine sv (v := .slice A60 n0 c61) henv rfl (rn_move henv rfl) ?_
    clear henv a; intro a henv
    refine seq_step rfl (op_call henv rfl Tryd.call80 rfl (row_primitive (hst.pat (k := 7) rfl) hz64 ((hkx.mono (by decide))) (by omega)) ?_)
    rintro e w232 ⟨_, _, rfl, ⟨A223, c224, es225, rfl, hr, hl226, hz227⟩, ⟨A229, c230, rfl, hz231⟩, hb⟩
    refine ⟨_, rfl, ?_⟩
    clear henv a; intro a henv
    replace hst := (hst.freshRow hb hr (ap_N hr.2.1 ⟨nou_rowS, ⟨nou_bk rfl, nou_bk rfl, nou_rowS, nou_bk rfl, nou_bk rfl, nou_bk rfl, nou_bk rfl, nou_bk rfl, trivial⟩⟩)).addZ hz231 ⟨nou_rowS, ⟨nou_bk rfl, nou_bk rfl, nou_rowS, nou_bk rfl, nou_bk rfl, nou_bk rfl, nou_bk rfl, nou_bk rfl, trivial⟩⟩
    clear hr hz231
    clear hb
    revert a
    refine mA rfl rfl ?_
    refine sA (v := .slice A223 n0 c224) rfl (fun _ henv => rn_extract henv rfl rfl) ?_
    refine sA (v := .agg #[.bool (neg (primN (es0.map vz))), .slice A229 (zl (primN (es0.map vz))) c230]) rfl (fun _ henv => rn_extract henv rfl rfl) ?_
    intro a henv
    refine seq_step rfl (op_alloc (c := #[.bool (neg 0), .slice none (zl 0) 0]) henv hst rfl zero_anvil_integer_Int zcells ?_)
    clear henv hst a; intro a w234 g233 henv hst
    refine sv (v := .slice A223 n0 c224) henv rfl (rn_assign henv rfl) ?_
    clear henv a; intro a henv
    refine seq_step rfl (op_store (k := 0) (c' := #[.bool (neg (primN (es0.map vz))), .slice A229 (zl (primN (es0.map vz))) c230]) henv hst (ty_anvil_integer_Int.size) rfl rfl rfl rfl (by simp) rfl rfl ?_)
    clear henv hst a; intro a w235 henv hst
    refine wpList_nil ?_
    refine th_n ?_
    refine wp_seq ?_
    refine wp_seq ?_
    refine region_any (n := 28) (Sk [bk g233 #[.bool (neg (primN (es0.map vz))), .slice A229 (zl (primN (es0.map vz))) c230] 36, bk g220 #[.bool (neg (primN (es0.map vz))), .slice A216 (dl (primN (es0.map vz))) c217] 39, bk g208 #[.bool (neg (gcdL (es0.map vz))), .slice A204 (dl (gcdL (es0.map vz))) c205] 39, bk g82 #[.bool (neg z2), .slice A76 (dl z2) c77] 39, bk g80 #[.bool (neg z2), .slice A72 (zl z2) c73] 36, bk g56 #[.slice A0 n0 c0, .slice (some ⟨g54, 0, none⟩) 1 1] 22, bk g54 #[.bool b2, .slice A2 n2 c2] 25, bk g51 #[.bool b2, .slice A2 n2 c2] 25] [pfZ A229 c230 (primN (es0.map vz)), pfEs FN es225, pfR A216 c217 (primN (es0.map vz)), pfRow fM FM 2 A211 n0 c212 es213, pfR A204 c205 (gcdL (es0.map vz)), pfEs FN es199, pfR A76 c77 z2, pfZ A72 c73 z2, pfRow fM FM 2 A65 n0 c66 es67, pfRow fN FN 2 A60 n0 c61 es62, pfU A2 n2 c2 xs2, pfRow fU FU 2 A0 n0 c0 es0] [] []) mixed rfl henv hst ?_
    clear henv hst; intro w236 henv hst
    refine tM (i := 0) [1, 3, 4, 5, 6, 7, 8, 9, 10, 11, 12, 13, 14, 15, 16, 17, 18, 19, 20, 21, 22, 23, 24, 25, 26, 27] rfl (by kernel_rfl) (fun _ _ _ h => h) henv rfl rfl ?_
    clear henv a; intro a henv
    refine tL (i := 2) 2 3 (rg 3 25) rfl (by kernel_rfl) (fun _ _ _ h => h) henv rfl ty_anvil_anvilref02_Int rfl hst rfl rfl rfl ?_
    clear henv a; intro a henv
    refine sAny_one (i := 1) (by kernel_rfl) rfl rfl (op_call henv rfl Tryd.call81 rfl (row_content (hst.pat (k := 9) rfl) hz64 ((hkx.mono (by decide)))) ?_)
    rintro e w240 ⟨_, rfl, ⟨A237, c238, rfl, hz239⟩, hb⟩
    refine ⟨_, rfl, ?_⟩
    clear henv a; intro a henv
    replace hst := (hst.call hb).addZ hz239 ⟨nou_bk rfl, nou_rowS, nou_bk rfl, nou_bk rfl, nou_rowS, nou_bk rfl, nou_bk rfl, nou_bk rfl, nou_bk rfl, nou_bk rfl, trivial⟩
    clear hz239
    clear hb
    refine ⟨.inr ⟨hst.kn.pick [0, 2, 3, 5, 6, 7, 8, 9] (rg 1 12), .inr (hst.kn.pick [] [])⟩, ?_⟩
    refine sAny_one (i := 3) (by kernel_rfl) rfl rfl (op_call henv rfl Tryd.call35 rfl (num_one (z := (gcdL (es0.map vz))) (show ZIn _ A237 c238 (gcdL (es0.map vz)) from hst.pat (k := 0) rfl) (show RIn _ A204 c205 (gcdL (es0.map vz)) from hst.pat (k := 5) rfl) (Nat.le_trans hg1 (by decide))) ?_)
    rintro e w241 ⟨rfl, hb⟩
    refine ⟨_, rfl, ?_⟩
    clear henv a; intro a henv
    replace hst := hst.call hb
    clear hb
    refine ⟨.inr ⟨hst.kn.pick [0, 2, 3, 5, 6, 7, 8, 9] (rg 1 12), .inr (hst.kn.pick [] [])⟩, ?_⟩
    refine tA (i := 4) (rg 5 23) (v := .bool false) rfl (by kernel_rfl) (fun _ _ _ h => h) henv rfl (fun _ => rn_un henv rfl rfl) ?_
    clear henv a; intro a henv
    refine tM (i := 5) (rg 6 22) rfl (by kernel_rfl) (fun _ _ _ h => h) henv rfl rfl ?_
    clear henv a; intro a henv
    refine tAg (i := 6) (rg 8 20) (v := .slice A223 n0 c224) rfl (by kernel_rfl) (fun _ _ _ h => h) henv rfl rfl rfl rfl (fun _ => rn_move henv rfl) ?_
    clear henv a; intro a henv
    refine tAg (i := 7) (rg 8 20) (v := .slice A211 n0 c212) rfl (by kernel_rfl) (fun _ _ _ h => h) henv rfl rfl rfl rfl (fun _ => rn_move henv rfl) ?_
    clear henv a; intro a henv
    refine sAny_oneg (i := 8) (by kernel_rfl) rfl rfl henv rfl rfl rfl (op_call henv rfl Tryd.call27 rfl (row_is ⟨rowS_rd (hst.owns (k := 1) rfl), hl226, hst.pat (k := 2) rfl⟩ hz227 (hst.pat (k := 4) rfl) hz215 ((hkx.prim.mono (by decide)))) ?_)
    rintro e w242 ⟨rfl, hb⟩
    refine ⟨_, rfl, ?_⟩
    clear henv a; intro a henv
    replace hst := hst.call hb
    clear hb
    refine ⟨.inr ⟨hst.kn.pick [0, 2, 3, 5, 6, 7, 8, 9] (rg 1 12), .inr (hst.kn.pick [] [])⟩, ?_⟩
    refine tAg (i := 9) (rg 10 18) (v := .bool false) rfl (by kernel_rfl) (fun _ _ _ h => h) henv rfl rfl rfl rfl (fun _ => rn_un henv rfl rfl) ?_
    clear henv a; intro a henv
    refine tA (i := 10) (rg 11 17) (v := .bool false) rfl (by kernel_rfl) (fun _ _ _ h => h) henv rfl (fun _ => rn_pick henv rfl rfl) ?_
    clear henv a; intro a henv
    refine tM (i := 11) (rg 12 16) rfl (by kernel_rfl) (fun _ _ _ h => h) henv rfl rfl ?_
    clear henv a; intro a henv
    refine tLg (i := 12) 0 0 (rg 14 14) rfl (by kernel_rfl) (fun _ _ _ h => h) henv rfl rfl rfl rfl ty_anvil_integer_Int rfl hst rfl rfl rfl ?_
    clear henv a; intro a henv
    refine tLg (i := 13) 1 2 (rg 14 14) rfl (by kernel_rfl) (fun _ _ _ h => h) henv rfl rfl rfl rfl ty_anvil_anvilref02_Int rfl hst rfl rfl rfl ?_
    clear henv a; intro a henv
    refine sAny_oneg (i := 14) (by kernel_rfl) rfl rfl henv rfl rfl rfl (op_call henv rfl Tryd.call35 rfl (num_one (z := (primN (es0.map vz))) (show ZIn _ A229 c230 (primN (es0.map vz)) from hst.pat (k := 1) rfl) (show RIn _ A216 c217 (primN (es0.map vz)) from hst.pat (k := 3) rfl) (Nat.le_trans hg2 (by decide))) ?_)
    rintro e w243 ⟨rfl, hb⟩
    refine ⟨_, rfl, ?_⟩
    clear henv a; intro a henv
    replace hst := hst.call hb
    clear hb
    refine ⟨.inr ⟨hst.kn.pick [0, 2, 3, 5, 6, 7, 8, 9] (rg 1 12), .inr (hst.kn.pick [] [])⟩, ?_⟩
    refine tAg (i := 15) (rg 16 12) (v := .bool false) rfl (by kernel_rfl) (fun _ _ _ h => h) henv rfl rfl rfl rfl (fun _ => rn_un henv rfl rfl) ?_
    clear henv a; intro a henv
    refine tA (i := 16) (rg 17 11) (v := .bool false) rfl (by kernel_rfl) (fun _ _ _ h => h) henv rfl (fun _ => rn_pick henv rfl rfl) ?_
    clear henv a; intro a henv
    refine tM (i := 17) (rg 18 10) rfl (by kernel_rfl) (fun _ _ _ h => h) henv rfl rfl ?_
    clear henv a; intro a henv
    refine tAg (i := 18) (rg 21 7) (v := .slice A223 n0 c224) rfl (by kernel_rfl) (fun _ _ _ h => h) henv rfl rfl rfl rfl (fun _ => rn_move henv rfl) ?_
    clear henv a; intro a henv
    refine tAg (i := 19) (rg 21 7) (v := .slice A60 n0 c61) rfl (by kernel_rfl) (fun _ _ _ h => h) henv rfl rfl rfl rfl (fun _ => rn_move henv rfl) ?_
    clear henv a; intro a henv
    refine tAg (i := 20) (rg 21 7) (v := .slice A65 n0 c66) rfl (by kernel_rfl) (fun _ _ _ h => h) henv rfl rfl rfl rfl (fun _ => rn_move henv rfl) ?_
    clear henv a; intro a henv
    refine sAny_oneg (i := 21) (by kernel_rfl) rfl rfl henv rfl rfl rfl (op_call henv rfl Tryd.call30 rfl (row_own (hst.toRest (k := 1) rfl [10, 9]) hz64 hz69 ((hkx.mono (by decide)))) ?_)
    rintro e w244 ⟨rfl, hst2⟩
    refine ⟨_, rfl, ?_⟩
    clear henv a; intro a henv
    replace hst := hst.rest (k := 1) rfl hst2
    clear hst2
    replace hst : St w0 _ [bk g233 #[.bool (neg (primN (es0.map vz))), .slice A229 (zl (primN (es0.map vz))) c230] 36, bk g220 #[.bool (neg (primN (es0.map vz))), .slice A216 (dl (primN (es0.map vz))) c217] 39, bk g208 #[.bool (neg (gcdL (es0.map vz))), .slice A204 (dl (gcdL (es0.map vz))) c205] 39, rowS notU 36 2 A197 n0 c198 (fl fN es199), bk g82 #[.bool (neg z2), .slice A76 (dl z2) c77] 39, bk g80 #[.bool (neg z2), .slice A72 (zl z2) c73] 36, bk g56 #[.slice A0 n0 c0, .slice (some ⟨g54, 0, none⟩) 1 1] 22, bk g54 #[.bool b2, .slice A2 n2 c2] 25, bk g51 #[.bool b2, .slice A2 n2 c2] 25] [pfZ A237 c238 (gcdL (es0.map vz)), pfZ A229 c230 (primN (es0.map vz)), pfEs FN es225, pfR A216 c217 (primN (es0.map vz)), pfRow fM FM 2 A211 n0 c212 es213, pfR A204 c205 (gcdL (es0.map vz)), pfEs FN es199, pfR A76 c77 z2, pfZ A72 c73 z2, pfRow fM FM 2 A65 n0 c66 es67, pfRow fN FN 2 A60 n0 c61 es62, pfU A2 n2 c2 xs2, pfRow fU FU 2 A0 n0 c0 es0] := hst
    refine ⟨.inr ⟨hst.kn.pick [0, 1, 2, 4, 5, 6, 7, 8] (rg 1 12), .inr (hst.kn.pick [] [])⟩, ?_⟩
    refine tAg (i := 22) (rg 23 5) (v := .bool false) rfl (by kernel_rfl) (fun _ _ _ h => h) henv rfl rfl rfl rfl (fun _ => rn_un henv rfl rfl) ?_
    clear henv a; intro a henv
    refine tA (i := 23) (rg 24 4) (v := .bool false) rfl (by kernel_rfl) (fun _ _ _ h => h) henv rfl (fun _ => rn_pick henv rfl rfl) ?_
    clear henv a; intro a henv
    refine tM (i := 24) [25, 26, 27] rfl (by kernel_rfl) (fun _ _ _ h => h) henv rfl rfl ?_
    clear henv a; intro a henv
    refine sAny_oneg (i := 25) (by kernel_rfl) rfl rfl henv rfl rfl rfl (op_call henv rfl Tryd.call16 rfl (row_live) ?_)
    rintro e w245 ⟨rfl, hb⟩
    refine ⟨_, rfl, ?_⟩
    clear henv a; intro a henv
    replace hst := hst.call hb
    clear hb
    refine ⟨.inr ⟨hst.kn.pick [0, 1, 2, 4, 5, 6, 7, 8] (rg 1 12), .inr (hst.kn.pick [] [])⟩, ?_⟩
    refine tAg (i := 26) [27] (v := .bool false) rfl (by kernel_rfl) (fun _ _ _ h => h) henv rfl rfl rfl rfl (fun _ => rn_un henv rfl rfl) ?_
    clear henv a; intro a henv
    refine tA (i := 27) [] (v := .bool false) rfl (by kernel_rfl) (fun _ _ _ h => h) henv rfl (fun _ => rn_pick henv rfl rfl) ?_
    clear henv a; intro a henv
    refine sAny_done (by kernel_rfl) ?_ _
    refine th_n ?_
    refine if_f henv rfl (rfl) ?_
    refine wp_skip ?_
    refine th_n ?_
    refine wp_seq ?_
    refine wp_seq ?_
    refine region_seq ?_
    refine sv (v := .agg #[.bool (neg z2), .slice A76 (dl z2) c77]) henv rfl (rn_load0 henv ty_anvil_anvilref02_Int rfl (hst.oat (k := 4) rfl) rfl) ?_
    clear henv a; intro a henv
    refine seq_step rfl (op_call henv rfl Tryd.call82 rfl (sign_r (z := z2)) ?_)
    rintro e w246 ⟨rfl, hb⟩
    refine ⟨_, rfl, ?_⟩
    clear henv a; intro a henv
    replace hst := hst.call hb
    clear hb
    refine sv (v := .bool (z2.sign == (0 : Int))) henv rfl (rn_bin henv rfl rfl rfl) ?_
    clear henv a; intro a henv
    rw [show (z2.sign == (0 : Int)) = false from (sign_ne0 hzn)] at henv
    refine wpList_nil ?_
    refine th_n ?_
    refine if_f henv rfl (rfl) ?_
    refine wp_skip ?_
    refine th_n ?_
    refine wp_seq ?_
    refine region_seq ?_
    revert a
    refine mA rfl rfl ?_
    refine sA (v := .agg #[.bool (neg z2), .slice A76 (dl z2) c77]) rfl (fun _ henv => rn_load0 henv ty_anvil_anvilref02_Int rfl (hst.oat (k := 4) rfl) rfl) ?_
    intro a henv
    refine seq_step rfl (op_call henv rfl Tryd.call83 rfl (over_known (ref_over (m := z2) (hst.pat (k := 9) rfl) hz69 (show RIn _ A76 c77 z2 from hst.pat (k := 7) rfl) (by omega) hzn ((hkx.mono (by decide))) (by omega)) hdv) ?_)
    rintro e w252 ⟨_, rfl, ⟨A247, c248, es249, rfl, hr, hl250, hz251⟩, hb⟩
    refine ⟨_, rfl, ?_⟩
    clear henv a; intro a henv
    replace hst := hst.freshRd hb hr hl250 (ap_M hr.2.1 ⟨nou_bk rfl, nou_bk rfl, nou_bk rfl, nou_rowS, nou_bk rfl, nou_bk rfl, nou_bk rfl, nou_bk rfl, nou_bk rfl, trivial⟩)
    clear hr
    clear hb
    revert a
    refine mA rfl rfl ?_
    refine sA (v := .slice A247 n0 c248) rfl (fun _ henv => rn_extract henv rfl rfl) ?_
    refine sA (v := .bool true) rfl (fun _ henv => rn_extract henv rfl rfl) ?_
    refine aA rfl rfl ?_
    refine aA rfl rfl ?_
    intro a henv
    refine wpList_nil ?_
    refine th_n ?_
    refine wp_seq ?_
    refine wp_seq ?_
    refine region_seq ?_
    revert a
    refine mA rfl rfl ?_
    refine sA (v := .bool false) rfl (fun _ henv => rn_un henv rfl rfl) ?_
    intro a henv
    refine wpList_nil ?_
    refine th_n ?_
    refine if_f henv rfl (rfl) ?_
    refine wp_skip ?_
    refine th_n ?_
    refine wp_seq ?_
    refine region_any (n := 10) (Sk [bk g233 #[.bool (neg (primN (es0.map vz))), .slice A229 (zl (primN (es0.map vz))) c230] 36, bk g220 #[.bool (neg (primN (es0.map vz))), .slice A216 (dl (primN (es0.map vz))) c217] 39, bk g208 #[.bool (neg (gcdL (es0.map vz))), .slice A204 (dl (gcdL (es0.map vz))) c205] 39, rowS notU 36 2 A197 n0 c198 (fl fN es199), bk g82 #[.bool (neg z2), .slice A76 (dl z2) c77] 39, bk g80 #[.bool (neg z2), .slice A72 (zl z2) c73] 36, bk g56 #[.slice A0 n0 c0, .slice (some ⟨g54, 0, none⟩) 1 1] 22, bk g54 #[.bool b2, .slice A2 n2 c2] 25, bk g51 #[.bool b2, .slice A2 n2 c2] 25] [pfRow fM FM 2 A247 n0 c248 es249, pfZ A237 c238 (gcdL (es0.map vz)), pfZ A229 c230 (primN (es0.map vz)), pfEs FN es225, pfR A216 c217 (primN (es0.map vz)), pfRow fM FM 2 A211 n0 c212 es213, pfR A204 c205 (gcdL (es0.map vz)), pfEs FN es199, pfR A76 c77 z2, pfZ A72 c73 z2, pfRow fM FM 2 A65 n0 c66 es67, pfRow fN FN 2 A60 n0 c61 es62, pfU A2 n2 c2 xs2, pfRow fU FU 2 A0 n0 c0 es0] [] []) mixed rfl henv hst ?_
    clear henv hst; intro w253 henv hst
    refine tM (i := 0) [2, 4, 5, 6, 7, 8, 9] rfl (by kernel_rfl) (fun _ _ _ h => h) henv rfl rfl ?_
    clear henv a; intro a henv
    refine tL (i := 1) 5 5 [2, 4, 5, 6, 7, 8, 9] rfl (by kernel_rfl) (fun _ _ _ h => h) henv rfl ty_anvil_integer_Int rfl hst rfl rfl rfl ?_
    clear henv a; intro a henv
    refine tL (i := 3) 5 5 (rg 4 6) rfl (by kernel_rfl) (fun _ _ _ h => h) henv rfl ty_anvil_integer_Int rfl hst rfl rfl rfl ?_
    clear henv a; intro a henv
    refine sAny_one (i := 2) (by kernel_rfl) rfl rfl (op_call henv rfl Tryd.call26 rfl (row_scale (hst.pat (k := 11) rfl) hz64 (show ZIn _ A72 c73 z2 from hst.pat (k := 9) rfl) (by omega) ((hkx.mono (by decide))) (by omega)) ?_)
    rintro e w260 ⟨_, rfl, ⟨A254, c255, es256, rfl, hr, hl257, hz258⟩, hb⟩
    refine ⟨_, rfl, ?_⟩
    clear henv a; intro a henv
    replace hst := hst.freshRow hb hr (ap_N hr.2.1 ⟨nou_rowS, ⟨nou_bk rfl, nou_bk rfl, nou_bk rfl, nou_rowS, nou_bk rfl, nou_bk rfl, nou_bk rfl, nou_bk rfl, nou_bk rfl, trivial⟩⟩)
    clear hr
    clear hb
    refine ⟨.inr ⟨hst.kn.pick (rg 1 9) (rg 1 14), .inr (hst.kn.pick [] [])⟩, ?_⟩
    refine sAny_one (i := 4) (by kernel_rfl) rfl rfl (op_call henv rfl Tryd.call77 rfl (over_known (row_over (m := z2) ⟨rowS_rd (hst.owns (k := 0) rfl), hl257, hst.pat (k := 0) rfl⟩ hz258 (show ZIn _ A72 c73 z2 from hst.pat (k := 10) rfl) (by omega) hzn ((hkm.mono (by decide))) (by omega)) (divs_mul _ _)) ?_)
    rintro e w267 ⟨_, rfl, ⟨A261, c262, es263, rfl, hr, hl264, hz265⟩, hb⟩
    refine ⟨_, rfl, ?_⟩
    clear henv a; intro a henv
    replace hst := hst.freshRow hb hr (ap_N hr.2.1 ⟨nou_rowS, ⟨nou_rowS, nou_bk rfl, nou_bk rfl, nou_bk rfl, nou_rowS, nou_bk rfl, nou_bk rfl, nou_bk rfl, nou_bk rfl, nou_bk rfl, trivial⟩⟩)
    clear hr
    clear hb
    refine ⟨.inr ⟨hst.kn.pick (rg 2 9) (rg 2 14), .inr (hst.kn.pick [] [])⟩, ?_⟩
    refine tM (i := 5) (rg 6 4) rfl (by kernel_rfl) (fun _ _ _ h => h) henv rfl rfl ?_
    clear henv a; intro a henv
    refine tA (i := 6) [8, 9] (v := .slice A261 n0 c262) rfl (by kernel_rfl) (fun _ _ _ h => h) henv rfl (fun _ => rn_extract henv rfl rfl) ?_
    clear henv a; intro a henv
    refine tA (i := 7) [9] (v := .int .i64 0) rfl (by kernel_rfl) (fun _ _ _ h => h) henv rfl (fun _ => rn_extract henv rfl rfl) ?_
    clear henv a; intro a henv
    refine tA (i := 8) [9] (v := .slice A261 n0 c262) rfl (by kernel_rfl) (fun _ _ _ h => h) henv rfl (fun _ => rn_assign henv rfl) ?_
    clear henv a; intro a henv
    refine tA (i := 9) [] (v := .int .i64 0) rfl (by kernel_rfl) (fun _ _ _ h => h) henv rfl (fun _ => rn_assign henv rfl) ?_
    clear henv a; intro a henv
    refine sAny_done (by kernel_rfl) ?_ _
    refine th_n ?_
    refine wp_seq ?_
    refine region_seq ?_
    revert a
    refine mA rfl rfl ?_
    refine sA (v := .bool true) rfl (fun _ henv => rn_bin henv rfl rfl rfl) ?_
    refine mA rfl rfl ?_
    refine gA (v := .slice A197 n0 c198) rfl rfl rfl rfl (fun _ henv => rn_move henv rfl) ?_
    refine gA (v := .slice A247 n0 c248) rfl rfl rfl rfl (fun _ henv => rn_move henv rfl) ?_
    intro a henv
    refine seq_g rfl henv rfl rfl (op_call henv rfl Tryd.call27 rfl (row_is ⟨rowS_rd (hst.owns (k := 5) rfl), hl200, hst.pat (k := 9) rfl⟩ hz201 (hst.pat (k := 2) rfl) hz251 ((hkq.mono (by decide)))) ?_)
    rintro e w268 ⟨rfl, hb⟩
    refine ⟨_, rfl, ?_⟩
    clear henv a; intro a henv
    replace hst := hst.call hb
    clear hb
    revert a
    refine sA (v := .bool true) rfl (fun _ henv => rn_pick henv rfl rfl) ?_
    refine mA rfl rfl ?_
    refine gA (v := .slice A197 n0 c198) rfl rfl rfl rfl (fun _ henv => rn_move henv rfl) ?_
    refine gA (v := .slice A60 n0 c61) rfl rfl rfl rfl (fun _ henv => rn_move henv rfl) ?_
    refine gA (v := .slice A65 n0 c66) rfl rfl rfl rfl (fun _ henv => rn_move henv rfl) ?_
    intro a henv
    refine seq_g rfl henv rfl rfl (op_call henv rfl Tryd.call30 rfl (row_own (hst.toRest (k := 5) rfl [13, 12]) hz64 hz69 ((hkx.mono (by decide)))) ?_)
    rintro e w269 ⟨rfl, hst2⟩
    refine ⟨_, rfl, ?_⟩
    clear henv a; intro a henv
    replace hst := hst.rest (k := 5) rfl hst2
    clear hst2
    replace hst : St w0 _ [rowS notU 36 2 A261 n0 c262 (fl fN es263), rowS notU 36 2 A254 n0 c255 (fl fN es256), bk g233 #[.bool (neg (primN (es0.map vz))), .slice A229 (zl (primN (es0.map vz))) c230] 36, bk g220 #[.bool (neg (primN (es0.map vz))), .slice A216 (dl (primN (es0.map vz))) c217] 39, bk g208 #[.bool (neg (gcdL (es0.map vz))), .slice A204 (dl (gcdL (es0.map vz))) c205] 39, bk g82 #[.bool (neg z2), .slice A76 (dl z2) c77] 39, bk g80 #[.bool (neg z2), .slice A72 (zl z2) c73] 36, bk g56 #[.slice A0 n0 c0, .slice (some ⟨g54, 0, none⟩) 1 1] 22, bk g54 #[.bool b2, .slice A2 n2 c2] 25, bk g51 #[.bool b2, .slice A2 n2 c2] 25] [pfEs FN es263, pfEs FN es256, pfRow fM FM 2 A247 n0 c248 es249, pfZ A237 c238 (gcdL (es0.map vz)), pfZ A229 c230 (primN (es0.map vz)), pfEs FN es225, pfR A216 c217 (primN (es0.map vz)), pfRow fM FM 2 A211 n0 c212 es213, pfR A204 c205 (gcdL (es0.map vz)), pfEs FN es199, pfR A76 c77 z2, pfZ A72 c73 z2, pfRow fM FM 2 A65 n0 c66 es67, pfRow fN FN 2 A60 n0 c61 es62, pfU A2 n2 c2 xs2, pfRow fU FU 2 A0 n0 c0 es0] := hst
    revert a
    refine sA (v := .bool true) rfl (fun _ henv => rn_pick henv rfl rfl) ?_
    refine mA rfl rfl ?_
    refine gA (v := .int .i64 0) rfl rfl rfl rfl (fun _ henv => rn_move henv rfl) ?_
    refine gA (v := .bool true) rfl rfl rfl rfl (fun _ henv => rn_bin henv rfl rfl rfl) ?_
    refine sA (v := .bool true) rfl (fun _ henv => rn_pick henv rfl rfl) ?_
    refine mA rfl rfl ?_
    refine gA (v := .slice A261 n0 c262) rfl rfl rfl rfl (fun _ henv => rn_move henv rfl) ?_
    refine gA (v := .slice A65 n0 c66) rfl rfl rfl rfl (fun _ henv => rn_move henv rfl) ?_
    intro a henv
    refine seq_g rfl henv rfl rfl (op_call henv rfl Tryd.call27 rfl (row_is ⟨rowS_rd (hst.owns (k := 0) rfl), hl264, hst.pat (k := 0) rfl⟩ hz265 (hst.pat (k := 12) rfl) (hz69.trans (map_mul_div hzn _).symm) ((hkb.mono (by decide)))) ?_)
    rintro e w270 ⟨rfl, hb⟩
    refine ⟨_, rfl, ?_⟩
    clear henv a; intro a henv
    replace hst := hst.call hb
    clear hb
    revert a
    refine sA (v := .bool true) rfl (fun _ henv => rn_pick henv rfl rfl) ?_
    refine aA rfl rfl ?_
    intro a henv
    refine wpList_nil ?_
    refine th_n ?_
    refine wp_ret ?_
    refine leave henv (res1 Tryd.results12 (RV.tmp henv rfl)) ?_
    exact ⟨rfl, hst.below⟩
theorem rdivides_law {A0 A2 : Option Addr} {n0 c0 n2 c2 : Nat} {es0 : List UE} {b2 : Bool} {xs2 : List Nat} {w0 : World} (h0 : (pfRow fU FU 2 A0 n0 c0 es0).P w0) (hn0 : n0 ≤ 35184372088832) (hs0 : Sz es0) (h2 : U32 w0 A2 n2 c2 xs2) (hn2 : n2 ≤ 35184372088832) :
    Calls Tryd.prog 12 #[.slice A0 n0 c0, .agg #[.bool b2, .slice A2 n2 c2]] w0 fun e w' => e = .returned (.bool true) ∧ Below w0.heap.size w0 w' := by
  by_cases hz : sg b2 (val 4294967296 xs2) = 0
  · exact rdivides_zero h0 hn0 hs0 h2 hn2 rfl hz
  by_cases hd : divs (sg b2 (val 4294967296 xs2)) (es0.map vz)
  · exact rdivides_yes h0 hn0 hs0 h2 hn2 rfl hz hd
  · exact rdivides_no h0 hn0 hs0 h2 hn2 rfl hz hd
end Go.Proofs.YtegglooojlheoaaDoor.W
