/- RowTexts, RowReads: the laws' walks. Printed by pv/gen_rowE.py. No condition. -/
import Derived.Test.YtegglooojlheoaaDoorM50
import Derived.Test.YtegglooojlheoaaDoorM15
import Derived.Test.YtegglooojlheoaaDoorM52

namespace Go.Proofs.YtegglooojlheoaaDoor.W
open Go.RowKit Anv Go.Lib
theorem pre_len (zs : List Int) : 2 * zs.length + 1 ≤ (preT zs).length := by
  unfold preT
  rw [List.length_cons]
  induction zs with
  | nil => simp
  | cons z zs ih =>
    have h := rz_pos (rz_text z)
    rw [List.flatMap_cons, List.length_append, List.length_append, List.length_cons, List.length_cons, List.length_nil]
    omega
theorem row_read_ok {s : List UInt8} {zs : List Int} {n : Nat} {w0 : World} (h : Rd0 s (.inl zs)) (hn : zs.length = n) (hl : s.length < 8193) :
    Calls Tryd.prog 51 #[.string ⟨s.toArray⟩] w0 fun e w' => ∃ v, e = .returned (.tuple #[v, .agg #[.int .i64 0, .int .i64 0]]) ∧ ZRow w0.heap.size w' v n zs ∧ Below w0.heap.size w0 w' := by
  refine (row_read (by omega)).mono fun e w' ⟨hp, hb⟩ => ?_
  rcases hp with ⟨zs', n', v, h1, h2, _, he, hz⟩ | ⟨b, h1, _⟩ | ⟨p, zs', h1, h2, h3, _⟩
  · obtain rfl : zs = zs' := Sum.inl.inj (rd0_det h h1)
    obtain rfl : n = n' := hn.symm.trans h2
    exact ⟨v, he, hz, hb⟩
  · cases rd0_det h h1
  · have h4 := pre_len zs'
    rw [← h3, List.length_take] at h4
    omega
theorem row_text' {A0 : Option Addr} {n0 c0 : Nat} {es0 : List NE} {xs : List Int} {w0 : World} (h0 : (pfRow fN FN 2 A0 n0 c0 es0).P w0) (hz0 : es0.map zz = xs) (hk : Zk 90000 xs) (hn : n0 ≤ 1000000) :
    Calls Tryd.prog 52 #[.slice A0 n0 c0] w0 fun e w' => e = .returned (.string ⟨(textRow xs).toArray⟩) ∧ Below w0.heap.size w0 w' := by
  subst hz0
  exact row_text h0 hk.zb hn
theorem tv_oneN {A : Option Addr} {n c : Nat} {us : List UE} (h : tv [(A, n, c, us)] ≤ 300) : n ≤ 300 ∧ tl us ≤ 300 := by
  simp [tv] at h
  omega
theorem text_flat (zs : List Int) : (textRow zs).length ≤ 2 + (zs.map fun z => (textZ z).length + 1).sum ∧ (zs.map fun z => (textZ z).length).sum ≤ (textRow zs).length ∧ 2 + zs.length ≤ (textRow zs).length + 1 := by
  have h : ∀ l : List Int, ((l.map textZ).flatMap fun t => (32 : UInt8) :: t).length = (l.map fun z => (textZ z).length + 1).sum := by
    intro l
    induction l with
    | nil => rfl
    | cons z l ih => rw [List.map_cons, List.flatMap_cons, List.length_append, List.length_cons, ih]; simp
  have h2 : ∀ l : List Int, (l.map fun z => (textZ z).length).sum ≤ (l.map fun z => (textZ z).length + 1).sum := by
    intro l
    induction l with
    | nil => simp
    | cons z l ih => simp only [List.map_cons, List.sum_cons]; omega
  have h3 : ∀ l : List Int, l.length ≤ (l.map fun z => (textZ z).length + 1).sum := by
    intro l
    induction l with
    | nil => simp
    | cons z l ih => simp only [List.map_cons, List.sum_cons, List.length_cons]; omega
  cases zs with
  | nil => simp [textRow, jn]
  | cons z zs =>
    have e : (textRow (z :: zs)).length = 2 + (textZ z).length + (zs.map fun z => (textZ z).length + 1).sum := by
      simp only [textRow, jn, List.map_cons, List.length_cons, List.length_append, List.length_nil]
      rw [h]
      omega
    have h4 := h2 zs
    have h5 := h3 zs
    simp only [List.map_cons, List.sum_cons, List.length_cons]
    omega
theorem text_rows {es : List UE} {w : World} (h : (pfEs FU es).P w) (ht : tl es ≤ 300) (hn : es.length ≤ 300) : (textRow (es.map vz)).length ≤ 4000 := by
  have main : ∀ l : List UE, (∀ e ∈ l, U32 w e.2.1 e.2.2.1 e.2.2.2.1 e.2.2.2.2) → ((l.map vz).map fun z => (textZ z).length + 1).sum ≤ 10 * tl l + 3 * l.length := by
    intro l
    induction l with
    | nil => intro _; simp [tl]
    | cons e l ih =>
      intro hl
      have h1 := ih fun x hx => hl x (List.mem_cons_of_mem _ hx)
      have h2 := textZ_bd (vz e)
      have h3 : zl (vz e) ≤ e.2.2.1 := zl_vze (hl e (List.mem_cons_self ..)) (Nat.le_refl _)
      unfold tl at *
      simp only [List.map_cons, List.sum_cons, List.length_cons]
      omega
  have h1 := main es h
  have h2 := (text_flat (es.map vz)).1
  omega
set_option maxRecDepth 100000 in
set_option maxHeartbeats 4000000 in
theorem rtexts_law {A0 : Option Addr} {n0 c0 : Nat} {es0 : List UE} {w0 : World} (h0 : (pfRow fU FU 2 A0 n0 c0 es0).P w0) (hn0 : n0 ≤ 35184372088832) (hs0 : Sz es0) :
    Calls Tryd.prog 7 #[.slice A0 n0 c0] w0 fun e w' => e = .returned (.bool true) ∧ Below w0.heap.size w0 w' := by
  refine enter Tryd.func7 rfl Tryd.ntmps7 rfl ?_
  intro a henv hst
  have hlen0 := h0.2.1
  have hbig0 := Nat.le_trans h0.1.cap h0.1.big
  unfold maxLen at hbig0
  replace hst := hst.argRow h0
  clear h0
  refine wp_seq ?_
  refine region_seq ?_
  refine sv (v := .bool false) henv rfl (rn_assign henv rfl) ?_
  clear henv a; intro a henv
  refine wpList_nil ?_
  refine th_n ?_
  refine wp_seq ?_
  refine wp_seq ?_
  refine region_seq ?_
  refine seq_step rfl (op_call henv rfl Tryd.call16 rfl (row_live) ?_)
  rintro e w51 ⟨rfl, hb⟩
  refine ⟨_, rfl, ?_⟩
  clear henv a; intro a henv
  replace hst := hst.call hb
  clear hb
  refine sv (v := .bool false) henv rfl (rn_un henv rfl rfl) ?_
  clear henv a; intro a henv
  refine wpList_nil ?_
  refine th_n ?_
  refine if_f henv rfl (rfl) ?_
  refine wp_skip ?_
  refine th_n ?_
  refine wp_seq ?_
  refine wp_seq ?_
  refine region_seq ?_
  refine sv (v := .slice A0 n0 c0) henv rfl (rn_move henv rfl) ?_
  clear henv a; intro a henv
  refine seq_step rfl (op_buildSlice (z := 1) (pv := #[(0, .slice A0 n0 c0)]) (c := #[.slice A0 n0 c0]) henv hst rfl Tryd.underlying139 (ty__anvillaw04_Num.size) zero__anvillaw04_Num (by decide) (by decide) rfl (by kernel_rfl) ?_)
  clear henv hst a; intro a w53 g52 henv hst
  refine seq_step rfl (op_call henv rfl Tryd.call17 rfl (row_long (pv1 (v0 := (A0, n0, c0, es0)) (hst.oat (k := 0) rfl) (hst.pat (k := 0) rfl)) (lg_cons hn0 hs0 lg_nil)) ?_)
  rintro e w54 ⟨bl, rfl, hbl, hb⟩
  refine ⟨_, rfl, ?_⟩
  clear henv a; intro a henv
  replace hst := hst.call hb
  clear hb
  refine wpList_nil ?_
  refine th_n ?_
  refine if_split henv rfl (fun hc55 => ?_) (fun hc55 => ?_)
  · refine wp_seq ?_
    refine region_seq ?_
    refine sv (v := .bool true) henv rfl (rn_assign henv rfl) ?_
    clear henv a; intro a henv
    refine wpList_nil ?_
    refine th_n ?_
    refine wp_ret ?_
    refine th_r ?_
    refine leave henv (res1 Tryd.results7 (RV.tmp henv rfl)) ?_
    exact ⟨rfl, hst.below⟩
  · obtain ⟨hx0, hx2⟩ := tv_oneN (hbl hc55)
    have hkx : Zk 300 (es0.map vz) := Zk.vz (hst.pat (k := 0) rfl).2.2 hx2
    have hle0 : es0.length = n0 := (hst.pat (k := 0) rfl).2.1
    have htx : (textRow (es0.map vz)).length ≤ 4000 := text_rows (hst.pat (k := 0) rfl).2.2 hx2 (by omega)
    refine wp_skip ?_
    refine th_n ?_
    refine wp_seq ?_
    refine region_seq ?_
    refine sv (v := .slice A0 n0 c0) henv rfl (rn_move henv rfl) ?_
    clear henv a; intro a henv
    refine seq_step rfl (op_call henv rfl Tryd.call18 rfl (row_of2 (hst.pat (k := 0) rfl) (fun e he => Nat.le_trans (tl_mem he) (by omega)) (by omega)) ?_)
    rintro e w66 ⟨_, _, rfl, ⟨A56, c57, es58, rfl, hr, hl59, hz60⟩, ⟨A61, c62, es63, rfl, hr2, hl64, hz65⟩, hb⟩
    refine ⟨_, rfl, ?_⟩
    clear henv a; intro a henv
    replace hst := hst.fresh2 hb hr hl59 (ap_N hr.2.1 ⟨nou_bk rfl, trivial⟩) hr2 hl64 (ap_M hr2.2.1 ⟨nou_bk rfl, trivial⟩)
    clear hr
    clear hr2
    clear hb
    revert a
    refine mA rfl rfl ?_
    refine sA (v := .slice A56 n0 c57) rfl (fun _ henv => rn_extract henv rfl rfl) ?_
    refine sA (v := .slice A61 n0 c62) rfl (fun _ henv => rn_extract henv rfl rfl) ?_
    refine aA rfl rfl ?_
    refine aA rfl rfl ?_
    intro a henv
    refine wpList_nil ?_
    refine th_n ?_
    refine wp_seq ?_
    refine region_seq ?_
    refine sv (v := .slice A56 n0 c57) henv rfl (rn_move henv rfl) ?_
    clear henv a; intro a henv
    refine seq_step rfl (op_call henv rfl Tryd.call52 rfl (row_text' (hst.pat (k := 1) rfl) hz60 ((hkx.mono (by decide))) (by omega)) ?_)
    rintro e w67 ⟨rfl, hb⟩
    refine ⟨_, rfl, ?_⟩
    clear henv a; intro a henv
    replace hst := hst.call hb
    clear hb
    refine sv (v := .string ⟨(textRow (es0.map vz)).toArray⟩) henv rfl (rn_assign henv rfl) ?_
    clear henv a; intro a henv
    refine wpList_nil ?_
    refine th_n ?_
    refine wp_seq ?_
    refine region_seq ?_
    refine sv (v := .string ⟨(textRow (es0.map vz)).toArray⟩) henv rfl (rn_move henv rfl) ?_
    clear henv a; intro a henv
    refine seq_step rfl (op_call henv rfl Tryd.call51 rfl (row_read_ok (n := n0) (rd_text _) (by rw [List.length_map]; exact hle0) (by omega)) ?_)
    rintro e w73 ⟨_, rfl, ⟨A68, c69, es70, rfl, hr, hl71, hz72⟩, hb⟩
    refine ⟨_, rfl, ?_⟩
    clear henv a; intro a henv
    replace hst := hst.freshRd hb hr hl71 (ap_N hr.2.1 ⟨nou_bk rfl, trivial⟩)
    clear hr
    clear hb
    revert a
    refine mA rfl rfl ?_
    refine sA (v := .slice A68 n0 c69) rfl (fun _ henv => rn_extract henv rfl rfl) ?_
    refine sA (v := .agg #[.int .i64 0, .int .i64 0]) rfl (fun _ henv => rn_extract henv rfl rfl) ?_
    intro a henv
    refine seq_step rfl (op_alloc (c := #[.int .i64 0, .int .i64 0]) henv hst rfl zero_anvil_api_Spot rfl ?_)
    clear henv hst a; intro a w75 g74 henv hst
    refine sv (v := .slice A68 n0 c69) henv rfl (rn_assign henv rfl) ?_
    clear henv a; intro a henv
    refine seq_step rfl (op_store (k := 0) (c' := #[.int .i64 0, .int .i64 0]) henv hst (ty_anvil_api_Spot.size) rfl rfl rfl rfl (by simp) rfl rfl ?_)
    clear henv hst a; intro a w76 henv hst
    refine wpList_nil ?_
    refine th_n ?_
    refine wp_seq ?_
    refine region_seq ?_
    revert a
    refine mA rfl rfl ?_
    refine mA rfl rfl ?_
    intro a henv
    refine seq_step rfl (op_call henv rfl Tryd.call53 rfl (ref_text (hst.pat (k := 1) rfl) hz65 ((hkx.mono (by decide))) (by omega)) ?_)
    rintro e w77 ⟨rfl, hb⟩
    refine ⟨_, rfl, ?_⟩
    clear henv a; intro a henv
    replace hst := hst.call hb
    clear hb
    refine sv (v := .bool (decide ((textRow (es0.map vz)) = (textRow (es0.map vz))))) henv rfl (rn_eqls (s := (textRow (es0.map vz))) (t := (textRow (es0.map vz))) henv rfl rfl) ?_
    clear henv a; intro a henv
    rw [show (decide ((textRow (es0.map vz)) = (textRow (es0.map vz)))) = true from (decide_eq_true rfl)] at henv
    revert a
    refine mA rfl rfl ?_
    refine gA (v := .pointer (some ⟨g74, 0, none⟩)) rfl rfl rfl rfl (fun _ henv => rn_fieldAddr henv fd_anvil_api_Spot_0 (ty_anvil_api_Errno.size) (by decide) rfl) ?_
    refine gA (v := .int .i64 0) rfl rfl rfl rfl (fun _ henv => rn_load1 henv ty_anvil_api_Errno rfl (hst.oat (k := 0) rfl) rfl) ?_
    refine gA (v := .bool true) rfl rfl rfl rfl (fun _ henv => rn_bin henv rfl rfl rfl) ?_
    refine sA (v := .bool true) rfl (fun _ henv => rn_pick henv rfl rfl) ?_
    refine mA rfl rfl ?_
    refine gA (v := .pointer (some ⟨g74, 1, none⟩)) rfl rfl rfl rfl (fun _ henv => rn_fieldAddr henv fd_anvil_api_Spot_1 (ty_int.size) (by decide) rfl) ?_
    refine gA (v := .int .i64 0) rfl rfl rfl rfl (fun _ henv => rn_load1 henv ty_int rfl (hst.oat (k := 0) rfl) rfl) ?_
    refine gA (v := .bool true) rfl rfl rfl rfl (fun _ henv => rn_bin henv rfl rfl rfl) ?_
    refine sA (v := .bool true) rfl (fun _ henv => rn_pick henv rfl rfl) ?_
    refine mA rfl rfl ?_
    refine gA (v := .slice A68 n0 c69) rfl rfl rfl rfl (fun _ henv => rn_move henv rfl) ?_
    refine gA (v := .slice A61 n0 c62) rfl rfl rfl rfl (fun _ henv => rn_move henv rfl) ?_
    intro a henv
    refine seq_g rfl henv rfl rfl (op_call henv rfl Tryd.call27 rfl (row_is (hst.pat (k := 0) rfl) hz72 (hst.pat (k := 1) rfl) hz65 ((hkx.mono (by decide)))) ?_)
    rintro e w78 ⟨rfl, hb⟩
    refine ⟨_, rfl, ?_⟩
    clear henv a; intro a henv
    replace hst := hst.call hb
    clear hb
    revert a
    refine sA (v := .bool true) rfl (fun _ henv => rn_pick henv rfl rfl) ?_
    refine aA rfl rfl ?_
    intro a henv
    refine wpList_nil ?_
    refine th_n ?_
    refine wp_ret ?_
    refine leave henv (res1 Tryd.results7 (RV.tmp henv rfl)) ?_
    exact ⟨rfl, hst.below⟩
end Go.Proofs.YtegglooojlheoaaDoor.W
