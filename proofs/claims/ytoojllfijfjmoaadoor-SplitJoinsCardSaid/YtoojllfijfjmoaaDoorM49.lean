/- The reference's Join. Printed by pv/gen_sp9.py. No condition. -/
import Derived.Test.YtoojllfijfjmoaaDoorM47
import Derived.Test.YtoojllfijfjmoaaDoorM15

namespace Go.Proofs.YtoojllfijfjmoaaDoor.W
open Go.RowKit Anv Go.Lib
theorem es_zM (n : Nat) (w : World) : (pfEs FM (List.replicate n (none, 0, 0))).P w := fun e he => by
  rw [List.eq_of_mem_replicate he]
  exact rin_none w
theorem fM_z0 : fM (none, 0, 0) = (Value.agg #[.bool false, .slice none 0 0]).cells.toList := by
  show [Value.bool (neg 0), Value.slice none (dl 0) 0] = _
  rw [neg_zero, dl_zero]; rfl
def NMRow (w : World) (v : Value) (n : Nat) (zs : List Int) : Prop := ∃ A c es, v = .slice A n c ∧ (pfRow fM FM 2 A n c es).P w ∧ es.map zz = zs
theorem rd_preC {α : Type} {f : α → List Value} {z n m c : Nat} {w : World} {A : Option Addr} {es : List α} (hz : ∀ e, (f e).length = z) (h : Rd z w A n c (fl f es)) (hm : m ≤ n) : Rd z w A m c (fl f (es.take m)) := by
  have h1 : m * z ≤ n * z := Nat.mul_le_mul_right _ hm
  have h2 := h.len
  rw [fl_take hz]
  refine ⟨by rw [List.length_take]; omega, Nat.le_trans hm h.cap, h.big, fun hp => ?_⟩
  obtain ⟨b, off, rfl, hlt, hc⟩ := h.cells (by omega)
  exact ⟨b, off, rfl, hlt, fun i hi => by rw [hc i (by omega), List.getElem?_take_of_lt hi]⟩
set_option maxRecDepth 100000 in
set_option maxHeartbeats 4000000 in
theorem ref_join_ok {A0 : Option Addr} {n0 c0 : Nat} {es0 : List LE} {zss : List (List Int)} {k m : Nat} {w0 : World} (h0 : (pfRow fQ FQ 1 A0 n0 c0 es0).P w0) (hz0 : es0.map lz = zss) (hlen : ∀ v ∈ es0, v.2.1 ≤ 8192) (hxk : ∀ v ∈ es0, ∀ x ∈ v.2.2.2, zl (zz x) ≤ 1000) (hn0 : n0 ≤ 15) (hk4 : k ≤ 4096) (hm8 : m ≤ 8192) (hdg : degN (jnN zss k (max (szN zss k 0 n0) m) n0) ≤ m) :
    Calls Tryd.prog 19 #[.slice A0 n0 c0, .int .i64 (k : Nat), .int .i64 (m : Nat)] w0 fun e w' => ∃ v, e = .returned (.tuple #[v, .bool true]) ∧ NMRow w' v m ((jnN zss k (max (szN zss k 0 n0) m) n0).take m) ∧ Below w0.heap.size w0 w' := by
  refine enter Tryd.func19 rfl Tryd.ntmps19 rfl ?_
  intro a henv hst
  have hlen0 := h0.2.1
  have hbig0 := Nat.le_trans h0.1.cap h0.1.big
  unfold maxLen at hbig0
  replace hst := hst.argRow h0
  clear h0
  refine wp_seq ?_
  refine region_seq ?_
  revert a
  refine aA rfl rfl ?_
  refine aA rfl rfl ?_
  intro a henv
  refine wpList_nil ?_
  refine th_n ?_
  refine wp_seq ?_
  refine region_seq ?_
  refine sv (v := .int .i64 0) henv rfl (rn_assign henv rfl) ?_
  clear henv a; intro a henv
  refine wpList_nil ?_
  refine th_n ?_
  refine wp_seq ?_
  refine wp_seq ?_
  refine region_seq ?_
  refine sv (v := .int .i64 0) henv rfl (rn_assign henv rfl) ?_
  clear henv a; intro a henv
  refine wpList_nil ?_
  refine th_n ?_
  refine wp_block ?_
  refine wp_loop_ghost (fun mz a w => ∃ i : Nat, ∃ T : Nat, n0 - i = mz ∧ Env 89 a [(0, .slice A0 n0 c0), (1, .int .i64 (k : Nat)), (2, .int .i64 (m : Nat)), (8, .int .i64 (T : Nat)), (9, .int .i64 (i : Nat))] ∧ St w0 w [] [pfRow fQ FQ 1 A0 n0 c0 es0] ∧ i ≤ n0 ∧ T = szN zss k 0 i ∧ T ≤ 65536) _ ⟨0, 0, rfl, henv.sub ⟨rfl, rfl, rfl, rfl, rfl, trivial⟩, hst.pick [] [0] (by decide), (Nat.zero_le _), rfl, (by omega)⟩ ?_
  clear henv hst a
  rintro mz a w51 ⟨i, T, rfl, henv, hst, hi, hT, hTb⟩
  refine wp_seq ?_
  refine wp_seq ?_
  refine region_seq ?_
  revert a
  refine mA rfl rfl ?_
  refine mA rfl rfl ?_
  refine sA (v := .int .i64 (n0 : Nat)) rfl (fun _ henv => rn_len henv Tryd.underlying31 rfl) ?_
  refine sA (v := .bool (decide (((i : Nat) : Int) < ((n0 : Nat) : Int)))) rfl (fun _ henv => rn_bin henv rfl rfl rfl) ?_
  intro a henv
  refine wpList_nil ?_
  refine th_n ?_
  refine if_split henv rfl (fun hc52 => ?_) (fun hc52 => ?_)
  · have hlt0 : i < n0 := by have := of_decide_eq_true hc52; omega
    obtain ⟨⟨A, n, c, es⟩, he0⟩ : ∃ e, es0[i]? = some e := ⟨_, List.getElem?_eq_getElem (by omega)⟩
    replace hst := hst.elem (k := 0) rfl he0
    replace hst : St w0 _ [] [pfRow fM FM 2 A n c es, pfRow fQ FQ 1 A0 n0 c0 es0] := hst
    have hel := (hst.pat (k := 0) rfl).2.1
    have hn8 : n ≤ 8192 := hlen _ (List.mem_of_getElem? he0)
    obtain ⟨hxi, hxl⟩ := part_at hz0 he0 hel
    have hik : i * k ≤ 57344 := Nat.mul_le_mul (show i ≤ 14 by omega) hk4
    refine wp_skip ?_
    refine th_n ?_
    refine wp_seq ?_
    refine wp_block ?_
    refine region_seq ?_
    revert a
    refine mA rfl rfl ?_
    refine mA rfl rfl ?_
    refine mA rfl rfl ?_
    refine sA (v := .int .i64 (i * k : Nat)) rfl (fun _ henv => rn_mul henv rfl rfl (by rw [IntWalk.i64_in _ (by omega)]; omega)) ?_
    refine mA rfl rfl ?_
    refine mA rfl rfl ?_
    refine sA (v := .pointer (some ⟨ab A0, ao A0 + i * 1, none⟩)) rfl (fun _ henv => rn_idxR (i := i) henv Tryd.underlying31 (ty_anvil_anvilref20_Poly.size) rfl rfl (by omega) rfl (show (pfRow fQ FQ 1 A0 n0 c0 es0).P _ from (hst.pat (k := 1) rfl)).1) ?_
    refine sA (v := .slice A n c) rfl (fun _ henv => rn_loadE1 (i := i) (j := 0) (e := (A, n, c, es)) henv ty_anvil_anvilref20_Poly rfl rfl fQ_len (by decide) (show (pfRow fQ FQ 1 A0 n0 c0 es0).P _ from (hst.pat (k := 1) rfl)).1 (by omega) he0 rfl) ?_
    refine sA (v := .int .i64 (n : Nat)) rfl (fun _ henv => rn_len henv Tryd.underlying33 rfl) ?_
    refine sA (v := .int .i64 ((i * k) + n : Nat)) rfl (fun _ henv => rn_add henv rfl rfl (by rw [IntWalk.i64_in _ (by omega)]; omega)) ?_
    refine sA (v := .int .i64 (max T ((i * k) + n) : Nat)) rfl (fun _ henv => rn_maxN (m := T) (n := (i * k) + n) henv rfl rfl) ?_
    refine aA rfl rfl ?_
    intro a henv
    refine wpList_nil ?_
    refine bl_n (th_n ?_)
    refine region_seq ?_
    revert a
    refine mA rfl rfl ?_
    refine sA (v := .int .i64 (i + 1 : Nat)) rfl (fun _ henv => rn_add henv rfl rfl (by rw [IntWalk.i64_in _ (by omega)]; omega)) ?_
    refine aA rfl rfl ?_
    intro a henv
    refine wpList_nil ?_
    exact th_n ⟨_, (by omega), ⟨i + 1, max T ((i * k) + n), rfl, henv.sub ⟨rfl, rfl, rfl, rfl, rfl, trivial⟩, hst.pick [] [1] (by decide), (by omega), (by rw [hT, szN, hxl]), (by omega)⟩⟩
  · obtain rfl : n0 = i := by have := of_decide_eq_false hc52; omega
    refine wp_exit ?_
    refine th_x (th_x (bl_x (th_n ?_)))
    refine wp_seq ?_
    rw [← hT] at hdg
    refine region_seq ?_
    revert a
    refine mA rfl rfl ?_
    refine mA rfl rfl ?_
    refine sA (v := .int .i64 (max T m : Nat)) rfl (fun _ henv => rn_maxN (m := T) (n := m) henv rfl rfl) ?_
    intro a henv
    refine seq_step rfl (op_makeS (f := fM) (e0 := (none, 0, 0)) (q := notU) (n := max T m) henv hst rfl Tryd.underlying33 inf_anvil_anvilref02_Int rfl rfl fM_z0 rfl rfl rfl (by omega) (by unfold maxLen; omega) ?_)
    clear henv hst a; intro a w54 g53 henv hst
    replace hst := hst.addMs (es_zM (max T m) _) ⟨nou_rowS, trivial⟩
    refine sv (v := .slice (some ⟨g53, 0, none⟩) (max T m) (max T m)) henv rfl (rn_assign henv rfl) ?_
    clear henv a; intro a henv
    refine wpList_nil ?_
    refine th_n ?_
    refine wp_seq ?_
    refine wp_seq ?_
    refine region_seq ?_
    refine sv (v := .int .i64 0) henv rfl (rn_assign henv rfl) ?_
    clear henv a; intro a henv
    refine wpList_nil ?_
    refine th_n ?_
    refine wp_block ?_
    refine wp_loop_ghost (fun mz a w => ∃ i : Nat, ∃ os : List NE, n0 - i = mz ∧ Env 89 a [(0, .slice A0 n0 c0), (1, .int .i64 (k : Nat)), (2, .int .i64 (m : Nat)), (10, .slice (some ⟨g53, 0, none⟩) (max T m) (max T m)), (11, .int .i64 (i : Nat))] ∧ St w0 w [rowS notU 68 2 (some ⟨g53, 0, none⟩) (max T m) (max T m) (fl fM os)] [pfRow fQ FQ 1 A0 n0 c0 es0, pfEs FM os] ∧ i ≤ n0 ∧ os.map zz = jnN zss k (max T m) i ∧ Zk (1000 + 8192 * i) (os.map zz)) _ ⟨0, (List.replicate (max T m) (none, 0, 0)), rfl, henv.sub ⟨rfl, rfl, rfl, rfl, rfl, trivial⟩, hst.pick [0] [1, 0] (by decide), (Nat.zero_le _), (by rw [List.map_replicate]; rfl), (fun z hz => by rw [List.map_replicate] at hz; rw [List.eq_of_mem_replicate hz]; exact Nat.le_trans (by rw [zl_zero]; omega) (Nat.zero_le _))⟩ ?_
    clear henv hst a
    rintro mz a w55 ⟨i, os, rfl, henv, hst, hi, ho, hkz⟩
    refine wp_seq ?_
    refine wp_seq ?_
    refine region_seq ?_
    revert a
    refine mA rfl rfl ?_
    refine mA rfl rfl ?_
    refine sA (v := .int .i64 (n0 : Nat)) rfl (fun _ henv => rn_len henv Tryd.underlying31 rfl) ?_
    refine sA (v := .bool (decide (((i : Nat) : Int) < ((n0 : Nat) : Int)))) rfl (fun _ henv => rn_bin henv rfl rfl rfl) ?_
    intro a henv
    refine wpList_nil ?_
    refine th_n ?_
    refine if_split henv rfl (fun hc56 => ?_) (fun hc56 => ?_)
    · have hlt0 : i < n0 := by have := of_decide_eq_true hc56; omega
      obtain ⟨⟨A, n, c, es⟩, he0⟩ : ∃ e, es0[i]? = some e := ⟨_, List.getElem?_eq_getElem (by omega)⟩
      replace hst := hst.elem (k := 0) rfl he0
      replace hst : St w0 _ [rowS notU 68 2 (some ⟨g53, 0, none⟩) (max T m) (max T m) (fl fM os)] [pfRow fM FM 2 A n c es, pfRow fQ FQ 1 A0 n0 c0 es0, pfEs FM os] := hst
      have hel := (hst.pat (k := 0) rfl).2.1
      have hn8 : n ≤ 8192 := hlen _ (List.mem_of_getElem? he0)
      obtain ⟨hxi, hxl⟩ := part_at hz0 he0 hel
      have hik : i * k ≤ 57344 := Nat.mul_le_mul (show i ≤ 14 by omega) hk4
      have hsz : i * k + n ≤ max T m := by have := sz_at zss k 0 (i := i) hlt0; rw [hxl, ← hT] at this; omega
      refine wp_skip ?_
      refine th_n ?_
      refine wp_seq ?_
      refine wp_block ?_
      refine wp_seq ?_
      refine region_seq ?_
      refine sv (v := .int .i64 0) henv rfl (rn_assign henv rfl) ?_
      clear henv a; intro a henv
      refine wpList_nil ?_
      refine th_n ?_
      refine wp_block ?_
      refine wp_loop_ghost (fun mz a w => ∃ j : Nat, ∃ ps : List NE, n - j = mz ∧ Env 89 a [(0, .slice A0 n0 c0), (1, .int .i64 (k : Nat)), (2, .int .i64 (m : Nat)), (10, .slice (some ⟨g53, 0, none⟩) (max T m) (max T m)), (11, .int .i64 (i : Nat)), (12, .int .i64 (j : Nat))] ∧ St w0 w [rowS notU 68 2 (some ⟨g53, 0, none⟩) (max T m) (max T m) (fl fM ps)] [pfRow fQ FQ 1 A0 n0 c0 es0, pfRow fM FM 2 A n c es, pfEs FM ps] ∧ j ≤ n ∧ ps.map zz = adN (zss.getD i []) (i * k) (jnN zss k (max T m) i) j ∧ Zk (1000 + 8192 * i + j) (ps.map zz)) _ ⟨0, os, rfl, henv.sub ⟨rfl, rfl, rfl, rfl, rfl, rfl, trivial⟩, hst.pick [0] [1, 0, 2] (by decide), (Nat.zero_le _), ho, hkz⟩ ?_
      clear henv hst a
      rintro mz a w57 ⟨j, ps, rfl, henv, hst, hj, ho2, hkz2⟩
      refine wp_seq ?_
      refine wp_seq ?_
      refine region_seq ?_
      revert a
      refine mA rfl rfl ?_
      refine mA rfl rfl ?_
      refine mA rfl rfl ?_
      refine sA (v := .pointer (some ⟨ab A0, ao A0 + i * 1, none⟩)) rfl (fun _ henv => rn_idxR (i := i) henv Tryd.underlying31 (ty_anvil_anvilref20_Poly.size) rfl rfl (by omega) rfl (show (pfRow fQ FQ 1 A0 n0 c0 es0).P _ from (hst.pat (k := 0) rfl)).1) ?_
      refine sA (v := .slice A n c) rfl (fun _ henv => rn_loadE1 (i := i) (j := 0) (e := (A, n, c, es)) henv ty_anvil_anvilref20_Poly rfl rfl fQ_len (by decide) (show (pfRow fQ FQ 1 A0 n0 c0 es0).P _ from (hst.pat (k := 0) rfl)).1 (by omega) he0 rfl) ?_
      refine sA (v := .int .i64 (n : Nat)) rfl (fun _ henv => rn_len henv Tryd.underlying33 rfl) ?_
      refine sA (v := .bool (decide (((j : Nat) : Int) < ((n : Nat) : Int)))) rfl (fun _ henv => rn_bin henv rfl rfl rfl) ?_
      intro a henv
      refine wpList_nil ?_
      refine th_n ?_
      refine if_split henv rfl (fun hc58 => ?_) (fun hc58 => ?_)
      · have hlt : j < n := by have := of_decide_eq_true hc58; omega
        obtain ⟨⟨C, d, x⟩, he1⟩ : ∃ e, es[j]? = some e := ⟨_, List.getElem?_eq_getElem (by omega)⟩
        have hpl : ps.length = max T m := by rw [← List.length_map (f := zz), ho2, adN_len, jnN_len]
        obtain ⟨⟨E, f, y⟩, he2⟩ : ∃ e, ps[i * k + j]? = some e := ⟨_, List.getElem?_eq_getElem (by omega)⟩
        replace hst := hst.elem (k := 1) rfl he1
        replace hst := hst.elemE (k := 3) rfl he2
        replace hst : St w0 _ [rowS notU 68 2 (some ⟨g53, 0, none⟩) (max T m) (max T m) (fl fM ps)] [pfR E f y, pfR C d x, pfRow fQ FQ 1 A0 n0 c0 es0, pfRow fM FM 2 A n c es, pfEs FM ps] := hst
        have hx1 : zl x ≤ 1000 := hxk _ (List.mem_of_getElem? he0) _ (List.mem_of_getElem? he1)
        have hy1 : zl y ≤ 1000 + 8192 * i + j := hkz2.es rfl _ (List.mem_of_getElem? he2)
        have hdx := dl_zl x
        have hdy := dl_zl y
        refine wp_skip ?_
        refine th_n ?_
        refine wp_seq ?_
        refine wp_block ?_
        refine region_any (n := 24) (Sk [] [pfR E f y, pfR C d x, pfRow fQ FQ 1 A0 n0 c0 es0, pfRow fM FM 2 A n c es, pfEs FM ps] [23] [rowS notU 68 2 (some ⟨g53, 0, none⟩) (max T m) (max T m) (fl fM ps)]) mixed rfl henv hst ?_
        clear henv hst; intro w59 henv hst
        refine tM (i := 0) [22, 23] rfl (by kernel_rfl) (fun _ _ _ h => h) henv rfl rfl ?_
        clear henv a; intro a henv
        refine tM (i := 1) [3, 5, 22, 23] rfl (by kernel_rfl) (fun _ _ _ h => h) henv rfl rfl ?_
        clear henv a; intro a henv
        refine tM (i := 2) [3, 5, 22, 23] rfl (by kernel_rfl) (fun _ _ _ h => h) henv rfl rfl ?_
        clear henv a; intro a henv
        refine tA (i := 3) [5, 22, 23] (v := .int .i64 (i * k : Nat)) rfl (by kernel_rfl) (fun _ _ _ h => h) henv rfl (fun _ => rn_mul henv rfl rfl (by rw [IntWalk.i64_in _ (by omega)]; omega)) ?_
        clear henv a; intro a henv
        refine tM (i := 4) [5, 22, 23] rfl (by kernel_rfl) (fun _ _ _ h => h) henv rfl rfl ?_
        clear henv a; intro a henv
        refine tA (i := 5) [22, 23] (v := .int .i64 ((i * k) + j : Nat)) rfl (by kernel_rfl) (fun _ _ _ h => h) henv rfl (fun _ => rn_add henv rfl rfl (by rw [IntWalk.i64_in _ (by omega)]; omega)) ?_
        clear henv a; intro a henv
        refine tM (i := 6) [12, 13, 21, 22, 23] rfl (by kernel_rfl) (fun _ _ _ h => h) henv rfl rfl ?_
        clear henv a; intro a henv
        refine tM (i := 7) [9, 11, 12, 13, 21, 22, 23] rfl (by kernel_rfl) (fun _ _ _ h => h) henv rfl rfl ?_
        clear henv a; intro a henv
        refine tM (i := 8) [9, 11, 12, 13, 21, 22, 23] rfl (by kernel_rfl) (fun _ _ _ h => h) henv rfl rfl ?_
        clear henv a; intro a henv
        refine tA (i := 9) [11, 12, 13, 21, 22, 23] (v := .int .i64 (i * k : Nat)) rfl (by kernel_rfl) (fun _ _ _ h => h) henv rfl (fun _ => rn_mul henv rfl rfl (by rw [IntWalk.i64_in _ (by omega)]; omega)) ?_
        clear henv a; intro a henv
        refine tM (i := 10) [11, 12, 13, 21, 22, 23] rfl (by kernel_rfl) (fun _ _ _ h => h) henv rfl rfl ?_
        clear henv a; intro a henv
        refine tA (i := 11) [12, 13, 21, 22, 23] (v := .int .i64 ((i * k) + j : Nat)) rfl (by kernel_rfl) (fun _ _ _ h => h) henv rfl (fun _ => rn_add henv rfl rfl (by rw [IntWalk.i64_in _ (by omega)]; omega)) ?_
        clear henv a; intro a henv
        refine sAny_take (i := 12) [13, 21, 22, 23] (fun w' => (rowS notU 68 2 (some ⟨g53, 0, none⟩) (max T m) (max T m) (fl fM ps)).P w') (v := .pointer (some ⟨ab (some ⟨g53, 0, none⟩), ao (some ⟨g53, 0, none⟩) + ((i * k) + j) * 2, none⟩)) rfl (by kernel_rfl) (fun _ _ _ h => h) (fun _ _ hj hS => (hS.two rfl hj).owns (k := 0) rfl) henv rfl (hst.owns (k := 0) rfl) (fun w' hg => rn_idxR (i := (i * k) + j) henv Tryd.underlying33 (ty_anvil_anvilref02_Int.size) rfl rfl (by omega) rfl (rowS_rd hg)) ?_
        clear henv a; intro a henv
        refine sAny_take (i := 13) [21, 22, 23] (fun w' => (rowS notU 68 2 (some ⟨g53, 0, none⟩) (max T m) (max T m) (fl fM ps)).P w') (v := .agg #[.bool (neg y), .slice E (dl y) f]) rfl (by kernel_rfl) (fun _ _ _ h => h) (fun _ _ hj hS => (hS.two rfl hj).owns (k := 0) rfl) henv rfl (hst.owns (k := 0) rfl) (fun w' hg => rn_loadE (i := (i * k) + j) (e := (E, f, y)) henv ty_anvil_anvilref02_Int rfl rfl fM_len (rowS_rd hg) (by omega) he2 rfl) ?_
        clear henv a; intro a henv
        refine tM (i := 14) [16, 17, 19, 20, 21, 22, 23] rfl (by kernel_rfl) (fun _ _ _ h => h) henv rfl rfl ?_
        clear henv a; intro a henv
        refine tM (i := 15) [16, 17, 19, 20, 21, 22, 23] rfl (by kernel_rfl) (fun _ _ _ h => h) henv rfl rfl ?_
        clear henv a; intro a henv
        refine sAny_take (i := 16) [17, 19, 20, 21, 22, 23] (fun w' => (pfRow fQ FQ 1 A0 n0 c0 es0).P w') (v := .pointer (some ⟨ab A0, ao A0 + i * 1, none⟩)) rfl (by kernel_rfl) (fun _ _ _ h => h) (fun _ _ _ hS => hS.1.pat (k := 2) rfl) henv rfl (hst.pat (k := 2) rfl) (fun w' hg => rn_idxR (i := i) henv Tryd.underlying31 (ty_anvil_anvilref20_Poly.size) rfl rfl (by omega) rfl (show (pfRow fQ FQ 1 A0 n0 c0 es0).P _ from hg).1) ?_
        clear henv a; intro a henv
        refine sAny_take (i := 17) [19, 20, 21, 22, 23] (fun w' => (pfRow fQ FQ 1 A0 n0 c0 es0).P w') (v := .slice A n c) rfl (by kernel_rfl) (fun _ _ _ h => h) (fun _ _ _ hS => hS.1.pat (k := 2) rfl) henv rfl (hst.pat (k := 2) rfl) (fun w' hg => rn_loadE1 (i := i) (j := 0) (e := (A, n, c, es)) henv ty_anvil_anvilref20_Poly rfl rfl fQ_len (by decide) (show (pfRow fQ FQ 1 A0 n0 c0 es0).P _ from hg).1 (by omega) he0 rfl) ?_
        clear henv a; intro a henv
        refine tM (i := 18) (rg 19 5) rfl (by kernel_rfl) (fun _ _ _ h => h) henv rfl rfl ?_
        clear henv a; intro a henv
        refine sAny_take (i := 19) [20, 21, 22, 23] (fun w' => (pfRow fM FM 2 A n c es).P w') (v := .pointer (some ⟨ab A, ao A + j * 2, none⟩)) rfl (by kernel_rfl) (fun _ _ _ h => h) (fun _ _ _ hS => hS.1.pat (k := 3) rfl) henv rfl (hst.pat (k := 3) rfl) (fun w' hg => rn_idxR (i := j) henv Tryd.underlying33 (ty_anvil_anvilref02_Int.size) rfl rfl (by omega) rfl (show (pfRow fM FM 2 A n c es).P _ from hg).1) ?_
        clear henv a; intro a henv
        refine sAny_take (i := 20) [21, 22, 23] (fun w' => (pfRow fM FM 2 A n c es).P w') (v := .agg #[.bool (neg x), .slice C (dl x) d]) rfl (by kernel_rfl) (fun _ _ _ h => h) (fun _ _ _ hS => hS.1.pat (k := 3) rfl) henv rfl (hst.pat (k := 3) rfl) (fun w' hg => rn_loadE (i := j) (e := (C, d, x)) henv ty_anvil_anvilref02_Int rfl rfl fM_len (show (pfRow fM FM 2 A n c es).P _ from hg).1 (by omega) he1 rfl) ?_
        clear henv a; intro a henv
        have hs60 := dl_add y x
        refine sAny_one (i := 21) (by kernel_rfl) rfl rfl (op_call henv rfl Tryd.call38 rfl (add_r (x := y) (y := x) (show RIn _ E f y from hst.pat (k := 0) rfl) (show RIn _ C d x from hst.pat (k := 1) rfl) (by omega) (by omega)) ?_)
        rintro e w64 ⟨_, rfl, ⟨A61, c62, rfl, hz63⟩, hb⟩
        refine ⟨_, rfl, ?_⟩
        clear henv a; intro a henv
        replace hst := (hst.call hb).addR hz63 ⟨nou_rowS, trivial⟩
        clear hz63
        clear hb
        refine ⟨.inr ⟨hst.kn.pick [] (rg 1 5), .inr (hst.kn.pick [0] [])⟩, ?_⟩
        refine sAny_take (i := 22) [23] (fun w' => (rowS notU 68 2 (some ⟨g53, 0, none⟩) (max T m) (max T m) (fl fM ps)).P w') (v := .pointer (some ⟨ab (some ⟨g53, 0, none⟩), ao (some ⟨g53, 0, none⟩) + ((i * k) + j) * 2, none⟩)) rfl (by kernel_rfl) (fun _ _ _ h => h) (fun _ _ hj hS => (hS.two rfl hj).owns (k := 0) rfl) henv rfl (hst.owns (k := 0) rfl) (fun w' hg => rn_idxR (i := (i * k) + j) henv Tryd.underlying33 (ty_anvil_anvilref02_Int.size) rfl rfl (by omega) rfl (rowS_rd hg)) ?_
        clear henv a; intro a henv
        refine sAny_one (i := 23) (by kernel_rfl) rfl rfl (op_storeS (i := (i * k) + j) (e := (A61, c62, (y + x))) (k := 0) henv hst (ty_anvil_anvilref02_Int.size) rfl rfl rfl rfl fM_len (by omega) hpl rfl rfl rfl ?_)
        clear henv hst a; intro a w65 henv hst
        replace hst := hst.setEs (e := (A61, c62, (y + x))) (i := 5) (j := 0) rfl rfl ((i * k) + j)
        refine ⟨.inr ⟨hst.kn.pick [] (rg 2 5), .inl rfl⟩, ?_⟩
        refine sAny_done (by kernel_rfl) ?_ _
        refine bl_n (th_n ?_)
        refine region_seq ?_
        revert a
        refine mA rfl rfl ?_
        refine sA (v := .int .i64 (j + 1 : Nat)) rfl (fun _ henv => rn_add henv rfl rfl (by rw [IntWalk.i64_in _ (by omega)]; omega)) ?_
        refine aA rfl rfl ?_
        intro a henv
        refine wpList_nil ?_
        exact th_n ⟨_, (by omega), ⟨j + 1, (ps.set ((i * k) + j) (A61, c62, (y + x))), rfl, henv.sub ⟨rfl, rfl, rfl, rfl, rfl, rfl, trivial⟩, hst.pick [0] [4, 5, 0] (by decide), (by omega), (ad_step ho2 hxi he1 he2), (zk_set hkz2 (by have := zl_addm y x; omega) (by omega))⟩⟩
      · obtain rfl : j = n := by have := of_decide_eq_false hc58; omega
        refine wp_exit ?_
        refine th_x (th_x (bl_x (bl_n (th_n ?_))))
        refine region_seq ?_
        revert a
        refine mA rfl rfl ?_
        refine sA (v := .int .i64 (i + 1 : Nat)) rfl (fun _ henv => rn_add henv rfl rfl (by rw [IntWalk.i64_in _ (by omega)]; omega)) ?_
        refine aA rfl rfl ?_
        intro a henv
        refine wpList_nil ?_
        exact th_n ⟨_, (by omega), ⟨i + 1, ps, rfl, henv.sub ⟨rfl, rfl, rfl, rfl, rfl, trivial⟩, hst.pick [0] [0, 2] (by decide), (by omega), (by rw [ho2, jnN, hxl]), (hkz2.mono (by omega))⟩⟩
    · obtain rfl : n0 = i := by have := of_decide_eq_false hc56; omega
      refine wp_exit ?_
      refine th_x (th_x (bl_x (th_n ?_)))
      refine wp_seq ?_
      refine wp_seq ?_
      refine region_seq ?_
      revert a
      refine mA rfl rfl ?_
      refine aA rfl rfl ?_
      intro a henv
      refine wpList_nil ?_
      refine th_n ?_
      refine wp_block ?_
      have hol : os.length = max T m := by rw [← List.length_map (f := zz), ho, jnN_len]
      have hmT : m ≤ max T m := by omega
      refine wp_loop_ghost (fun mz a w => ∃ j : Nat, max T m - j = mz ∧ Env 89 a [(2, .int .i64 (m : Nat)), (10, .slice (some ⟨g53, 0, none⟩) (max T m) (max T m)), (13, .int .i64 (j : Nat))] ∧ St w0 w [rowS notU 68 2 (some ⟨g53, 0, none⟩) (max T m) (max T m) (fl fM os)] [pfEs FM os] ∧ j ≤ max T m ∧ m ≤ j) _ ⟨m, rfl, henv.sub ⟨rfl, rfl, rfl, trivial⟩, hst.pick [0] [1] (by decide), hmT, (Nat.le_refl _)⟩ ?_
      clear henv hst a
      rintro mz a w66 ⟨j, rfl, henv, hst, hj, hmj⟩
      refine wp_seq ?_
      refine wp_seq ?_
      refine region_seq ?_
      revert a
      refine mA rfl rfl ?_
      refine mA rfl rfl ?_
      refine sA (v := .int .i64 (max T m : Nat)) rfl (fun _ henv => rn_len henv Tryd.underlying33 rfl) ?_
      refine sA (v := .bool (decide (((j : Nat) : Int) < ((max T m : Nat) : Int)))) rfl (fun _ henv => rn_bin henv rfl rfl rfl) ?_
      intro a henv
      refine wpList_nil ?_
      refine th_n ?_
      refine if_split henv rfl (fun hc67 => ?_) (fun hc67 => ?_)
      · have hlt : j < max T m := by have := of_decide_eq_true hc67; omega
        obtain ⟨⟨E, f, y⟩, he2⟩ : ∃ e, os[j]? = some e := ⟨_, List.getElem?_eq_getElem (by omega)⟩
        have hgj : (os.map zz).getD j 0 = y := by rw [List.getD_eq_getElem?_getD, List.getElem?_map, he2]; rfl
        replace hst := hst.elemE (k := 0) rfl he2
        replace hst : St w0 _ [rowS notU 68 2 (some ⟨g53, 0, none⟩) (max T m) (max T m) (fl fM os)] [pfR E f y, pfEs FM os] := hst
        have hy0 : y = 0 := by rw [← hgj, ho]; exact deg_all.1 hdg j hmj (by rw [jnN_len]; omega)
        refine wp_skip ?_
        refine th_n ?_
        refine wp_seq ?_
        refine wp_block ?_
        refine wp_seq ?_
        refine region_seq ?_
        revert a
        refine mA rfl rfl ?_
        refine mA rfl rfl ?_
        refine sA (v := .pointer (some ⟨ab (some ⟨g53, 0, none⟩), ao (some ⟨g53, 0, none⟩) + j * 2, none⟩)) rfl (fun _ henv => rn_idxR (i := j) henv Tryd.underlying33 (ty_anvil_anvilref02_Int.size) rfl rfl (by omega) rfl (rowS_rd (hst.owns (k := 0) rfl))) ?_
        refine sA (v := .agg #[.bool (neg y), .slice E (dl y) f]) rfl (fun _ henv => rn_loadE (i := j) (e := (E, f, y)) henv ty_anvil_anvilref02_Int rfl rfl fM_len (rowS_rd (hst.owns (k := 0) rfl)) (by omega) he2 rfl) ?_
        intro a henv
        refine seq_step rfl (op_call henv rfl Tryd.call39 rfl (sign_r (z := y)) ?_)
        rintro e w68 ⟨rfl, hb⟩
        refine ⟨_, rfl, ?_⟩
        clear henv a; intro a henv
        replace hst := hst.call hb
        clear hb
        refine sv (v := .bool (y.sign != (0 : Int))) henv rfl (rn_bin henv rfl rfl rfl) ?_
        clear henv a; intro a henv
        rw [show (y.sign != (0 : Int)) = false from (by rw [hy0]; rfl)] at henv
        refine wpList_nil ?_
        refine th_n ?_
        refine if_f henv rfl (rfl) ?_
        refine wp_skip ?_
        refine bl_n (th_n ?_)
        refine region_seq ?_
        revert a
        refine mA rfl rfl ?_
        refine sA (v := .int .i64 (j + 1 : Nat)) rfl (fun _ henv => rn_add henv rfl rfl (by rw [IntWalk.i64_in _ (by omega)]; omega)) ?_
        refine aA rfl rfl ?_
        intro a henv
        refine wpList_nil ?_
        exact th_n ⟨_, (by omega), ⟨j + 1, rfl, henv.sub ⟨rfl, rfl, rfl, trivial⟩, hst.pick [0] [1] (by decide), (by omega), (by omega)⟩⟩
      · have hjn : j = max T m := by have := of_decide_eq_false hc67; omega
        refine wp_exit ?_
        refine th_x (th_x (bl_x (th_n ?_)))
        refine wp_seq ?_
        refine region_seq ?_
        revert a
        refine mA rfl rfl ?_
        refine mA rfl rfl ?_
        refine sA (v := .slice (some ⟨g53, 0, none⟩) m (max T m)) rfl (fun _ henv => rn_sliceTo (m := m) henv Tryd.underlying33 (ty_anvil_anvilref02_Int.size) rfl rfl (by omega)) ?_
        refine aA rfl rfl ?_
        refine aA rfl rfl ?_
        intro a henv
        refine wpList_nil ?_
        refine th_n ?_
        refine wp_ret ?_
        refine leave henv (res2 Tryd.results19 (RV.tmp henv rfl) (RV.tmp henv rfl)) ?_
        exact ⟨_, rfl, ⟨_, _, _, rfl, ⟨rd_preC fM_len (rowS_rd (hst.owns (k := 0) rfl)) hmT, (by rw [List.length_take, hol]; omega), (hst.subEs (es' := os.take m) (i := 0) rfl fun _ hx => List.mem_of_mem_take hx).pat (k := 0) rfl⟩, (by rw [List.map_take, ho, hT])⟩, hst.below⟩
set_option maxRecDepth 100000 in
set_option maxHeartbeats 4000000 in
theorem ref_join_bad {A0 : Option Addr} {n0 c0 : Nat} {es0 : List LE} {zss : List (List Int)} {k m : Nat} {w0 : World} (h0 : (pfRow fQ FQ 1 A0 n0 c0 es0).P w0) (hz0 : es0.map lz = zss) (hlen : ∀ v ∈ es0, v.2.1 ≤ 8192) (hxk : ∀ v ∈ es0, ∀ x ∈ v.2.2.2, zl (zz x) ≤ 1000) (hn0 : n0 ≤ 15) (hk4 : k ≤ 4096) (hm8 : m ≤ 8192) (hdg : ¬ degN (jnN zss k (max (szN zss k 0 n0) m) n0) ≤ m) :
    Calls Tryd.prog 19 #[.slice A0 n0 c0, .int .i64 (k : Nat), .int .i64 (m : Nat)] w0 fun e w' => e = .returned (.tuple #[.slice none 0 0, .bool false]) ∧ Below w0.heap.size w0 w' := by
  refine enter Tryd.func19 rfl Tryd.ntmps19 rfl ?_
  intro a henv hst
  have hlen0 := h0.2.1
  have hbig0 := Nat.le_trans h0.1.cap h0.1.big
  unfold maxLen at hbig0
  replace hst := hst.argRow h0
  clear h0
  refine wp_seq ?_
  refine region_seq ?_
  revert a
  refine aA rfl rfl ?_
  refine aA rfl rfl ?_
  intro a henv
  refine wpList_nil ?_
  refine th_n ?_
  refine wp_seq ?_
  refine region_seq ?_
  refine sv (v := .int .i64 0) henv rfl (rn_assign henv rfl) ?_
  clear henv a; intro a henv
  refine wpList_nil ?_
  refine th_n ?_
  refine wp_seq ?_
  refine wp_seq ?_
  refine region_seq ?_
  refine sv (v := .int .i64 0) henv rfl (rn_assign henv rfl) ?_
  clear henv a; intro a henv
  refine wpList_nil ?_
  refine th_n ?_
  refine wp_block ?_
  refine wp_loop_ghost (fun mz a w => ∃ i : Nat, ∃ T : Nat, n0 - i = mz ∧ Env 89 a [(0, .slice A0 n0 c0), (1, .int .i64 (k : Nat)), (2, .int .i64 (m : Nat)), (8, .int .i64 (T : Nat)), (9, .int .i64 (i : Nat))] ∧ St w0 w [] [pfRow fQ FQ 1 A0 n0 c0 es0] ∧ i ≤ n0 ∧ T = szN zss k 0 i ∧ T ≤ 65536) _ ⟨0, 0, rfl, henv.sub ⟨rfl, rfl, rfl, rfl, rfl, trivial⟩, hst.pick [] [0] (by decide), (Nat.zero_le _), rfl, (by omega)⟩ ?_
  clear henv hst a
  rintro mz a w51 ⟨i, T, rfl, henv, hst, hi, hT, hTb⟩
  refine wp_seq ?_
  refine wp_seq ?_
  refine region_seq ?_
  revert a
  refine mA rfl rfl ?_
  refine mA rfl rfl ?_
  refine sA (v := .int .i64 (n0 : Nat)) rfl (fun _ henv => rn_len henv Tryd.underlying31 rfl) ?_
  refine sA (v := .bool (decide (((i : Nat) : Int) < ((n0 : Nat) : Int)))) rfl (fun _ henv => rn_bin henv rfl rfl rfl) ?_
  intro a henv
  refine wpList_nil ?_
  refine th_n ?_
  refine if_split henv rfl (fun hc52 => ?_) (fun hc52 => ?_)
  · have hlt0 : i < n0 := by have := of_decide_eq_true hc52; omega
    obtain ⟨⟨A, n, c, es⟩, he0⟩ : ∃ e, es0[i]? = some e := ⟨_, List.getElem?_eq_getElem (by omega)⟩
    replace hst := hst.elem (k := 0) rfl he0
    replace hst : St w0 _ [] [pfRow fM FM 2 A n c es, pfRow fQ FQ 1 A0 n0 c0 es0] := hst
    have hel := (hst.pat (k := 0) rfl).2.1
    have hn8 : n ≤ 8192 := hlen _ (List.mem_of_getElem? he0)
    obtain ⟨hxi, hxl⟩ := part_at hz0 he0 hel
    have hik : i * k ≤ 57344 := Nat.mul_le_mul (show i ≤ 14 by omega) hk4
    refine wp_skip ?_
    refine th_n ?_
    refine wp_seq ?_
    refine wp_block ?_
    refine region_seq ?_
    revert a
    refine mA rfl rfl ?_
    refine mA rfl rfl ?_
    refine mA rfl rfl ?_
    refine sA (v := .int .i64 (i * k : Nat)) rfl (fun _ henv => rn_mul henv rfl rfl (by rw [IntWalk.i64_in _ (by omega)]; omega)) ?_
    refine mA rfl rfl ?_
    refine mA rfl rfl ?_
    refine sA (v := .pointer (some ⟨ab A0, ao A0 + i * 1, none⟩)) rfl (fun _ henv => rn_idxR (i := i) henv Tryd.underlying31 (ty_anvil_anvilref20_Poly.size) rfl rfl (by omega) rfl (show (pfRow fQ FQ 1 A0 n0 c0 es0).P _ from (hst.pat (k := 1) rfl)).1) ?_
    refine sA (v := .slice A n c) rfl (fun _ henv => rn_loadE1 (i := i) (j := 0) (e := (A, n, c, es)) henv ty_anvil_anvilref20_Poly rfl rfl fQ_len (by decide) (show (pfRow fQ FQ 1 A0 n0 c0 es0).P _ from (hst.pat (k := 1) rfl)).1 (by omega) he0 rfl) ?_
    refine sA (v := .int .i64 (n : Nat)) rfl (fun _ henv => rn_len henv Tryd.underlying33 rfl) ?_
    refine sA (v := .int .i64 ((i * k) + n : Nat)) rfl (fun _ henv => rn_add henv rfl rfl (by rw [IntWalk.i64_in _ (by omega)]; omega)) ?_
    refine sA (v := .int .i64 (max T ((i * k) + n) : Nat)) rfl (fun _ henv => rn_maxN (m := T) (n := (i * k) + n) henv rfl rfl) ?_
    refine aA rfl rfl ?_
    intro a henv
    refine wpList_nil ?_
    refine bl_n (th_n ?_)
    refine region_seq ?_
    revert a
    refine mA rfl rfl ?_
    refine sA (v := .int .i64 (i + 1 : Nat)) rfl (fun _ henv => rn_add henv rfl rfl (by rw [IntWalk.i64_in _ (by omega)]; omega)) ?_
    refine aA rfl rfl ?_
    intro a henv
    refine wpList_nil ?_
    exact th_n ⟨_, (by omega), ⟨i + 1, max T ((i * k) + n), rfl, henv.sub ⟨rfl, rfl, rfl, rfl, rfl, trivial⟩, hst.pick [] [1] (by decide), (by omega), (by rw [hT, szN, hxl]), (by omega)⟩⟩
  · obtain rfl : n0 = i := by have := of_decide_eq_false hc52; omega
    refine wp_exit ?_
    refine th_x (th_x (bl_x (th_n ?_)))
    refine wp_seq ?_
    rw [← hT] at hdg
    refine region_seq ?_
    revert a
    refine mA rfl rfl ?_
    refine mA rfl rfl ?_
    refine sA (v := .int .i64 (max T m : Nat)) rfl (fun _ henv => rn_maxN (m := T) (n := m) henv rfl rfl) ?_
    intro a henv
    refine seq_step rfl (op_makeS (f := fM) (e0 := (none, 0, 0)) (q := notU) (n := max T m) henv hst rfl Tryd.underlying33 inf_anvil_anvilref02_Int rfl rfl fM_z0 rfl rfl rfl (by omega) (by unfold maxLen; omega) ?_)
    clear henv hst a; intro a w54 g53 henv hst
    replace hst := hst.addMs (es_zM (max T m) _) ⟨nou_rowS, trivial⟩
    refine sv (v := .slice (some ⟨g53, 0, none⟩) (max T m) (max T m)) henv rfl (rn_assign henv rfl) ?_
    clear henv a; intro a henv
    refine wpList_nil ?_
    refine th_n ?_
    refine wp_seq ?_
    refine wp_seq ?_
    refine region_seq ?_
    refine sv (v := .int .i64 0) henv rfl (rn_assign henv rfl) ?_
    clear henv a; intro a henv
    refine wpList_nil ?_
    refine th_n ?_
    refine wp_block ?_
    refine wp_loop_ghost (fun mz a w => ∃ i : Nat, ∃ os : List NE, n0 - i = mz ∧ Env 89 a [(0, .slice A0 n0 c0), (1, .int .i64 (k : Nat)), (2, .int .i64 (m : Nat)), (10, .slice (some ⟨g53, 0, none⟩) (max T m) (max T m)), (11, .int .i64 (i : Nat))] ∧ St w0 w [rowS notU 68 2 (some ⟨g53, 0, none⟩) (max T m) (max T m) (fl fM os)] [pfRow fQ FQ 1 A0 n0 c0 es0, pfEs FM os] ∧ i ≤ n0 ∧ os.map zz = jnN zss k (max T m) i ∧ Zk (1000 + 8192 * i) (os.map zz)) _ ⟨0, (List.replicate (max T m) (none, 0, 0)), rfl, henv.sub ⟨rfl, rfl, rfl, rfl, rfl, trivial⟩, hst.pick [0] [1, 0] (by decide), (Nat.zero_le _), (by rw [List.map_replicate]; rfl), (fun z hz => by rw [List.map_replicate] at hz; rw [List.eq_of_mem_replicate hz]; exact Nat.le_trans (by rw [zl_zero]; omega) (Nat.zero_le _))⟩ ?_
    clear henv hst a
    rintro mz a w55 ⟨i, os, rfl, henv, hst, hi, ho, hkz⟩
    refine wp_seq ?_
    refine wp_seq ?_
    refine region_seq ?_
    revert a
    refine mA rfl rfl ?_
    refine mA rfl rfl ?_
    refine sA (v := .int .i64 (n0 : Nat)) rfl (fun _ henv => rn_len henv Tryd.underlying31 rfl) ?_
    refine sA (v := .bool (decide (((i : Nat) : Int) < ((n0 : Nat) : Int)))) rfl (fun _ henv => rn_bin henv rfl rfl rfl) ?_
    intro a henv
    refine wpList_nil ?_
    refine th_n ?_
    refine if_split henv rfl (fun hc56 => ?_) (fun hc56 => ?_)
    · have hlt0 : i < n0 := by have := of_decide_eq_true hc56; omega
      obtain ⟨⟨A, n, c, es⟩, he0⟩ : ∃ e, es0[i]? = some e := ⟨_, List.getElem?_eq_getElem (by omega)⟩
      replace hst := hst.elem (k := 0) rfl he0
      replace hst : St w0 _ [rowS notU 68 2 (some ⟨g53, 0, none⟩) (max T m) (max T m) (fl fM os)] [pfRow fM FM 2 A n c es, pfRow fQ FQ 1 A0 n0 c0 es0, pfEs FM os] := hst
      have hel := (hst.pat (k := 0) rfl).2.1
      have hn8 : n ≤ 8192 := hlen _ (List.mem_of_getElem? he0)
      obtain ⟨hxi, hxl⟩ := part_at hz0 he0 hel
      have hik : i * k ≤ 57344 := Nat.mul_le_mul (show i ≤ 14 by omega) hk4
      have hsz : i * k + n ≤ max T m := by have := sz_at zss k 0 (i := i) hlt0; rw [hxl, ← hT] at this; omega
      refine wp_skip ?_
      refine th_n ?_
      refine wp_seq ?_
      refine wp_block ?_
      refine wp_seq ?_
      refine region_seq ?_
      refine sv (v := .int .i64 0) henv rfl (rn_assign henv rfl) ?_
      clear henv a; intro a henv
      refine wpList_nil ?_
      refine th_n ?_
      refine wp_block ?_
      refine wp_loop_ghost (fun mz a w => ∃ j : Nat, ∃ ps : List NE, n - j = mz ∧ Env 89 a [(0, .slice A0 n0 c0), (1, .int .i64 (k : Nat)), (2, .int .i64 (m : Nat)), (10, .slice (some ⟨g53, 0, none⟩) (max T m) (max T m)), (11, .int .i64 (i : Nat)), (12, .int .i64 (j : Nat))] ∧ St w0 w [rowS notU 68 2 (some ⟨g53, 0, none⟩) (max T m) (max T m) (fl fM ps)] [pfRow fQ FQ 1 A0 n0 c0 es0, pfRow fM FM 2 A n c es, pfEs FM ps] ∧ j ≤ n ∧ ps.map zz = adN (zss.getD i []) (i * k) (jnN zss k (max T m) i) j ∧ Zk (1000 + 8192 * i + j) (ps.map zz)) _ ⟨0, os, rfl, henv.sub ⟨rfl, rfl, rfl, rfl, rfl, rfl, trivial⟩, hst.pick [0] [1, 0, 2] (by decide), (Nat.zero_le _), ho, hkz⟩ ?_
      clear henv hst a
      rintro mz a w57 ⟨j, ps, rfl, henv, hst, hj, ho2, hkz2⟩
      refine wp_seq ?_
      refine wp_seq ?_
      refine region_seq ?_
      revert a
      refine mA rfl rfl ?_
      refine mA rfl rfl ?_
      refine mA rfl rfl ?_
      refine sA (v := .pointer (some ⟨ab A0, ao A0 + i * 1, none⟩)) rfl (fun _ henv => rn_idxR (i := i) henv Tryd.underlying31 (ty_anvil_anvilref20_Poly.size) rfl rfl (by omega) rfl (show (pfRow fQ FQ 1 A0 n0 c0 es0).P _ from (hst.pat (k := 0) rfl)).1) ?_
      refine sA (v := .slice A n c) rfl (fun _ henv => rn_loadE1 (i := i) (j := 0) (e := (A, n, c, es)) henv ty_anvil_anvilref20_Poly rfl rfl fQ_len (by decide) (show (pfRow fQ FQ 1 A0 n0 c0 es0).P _ from (hst.pat (k := 0) rfl)).1 (by omega) he0 rfl) ?_
      refine sA (v := .int .i64 (n : Nat)) rfl (fun _ henv => rn_len henv Tryd.underlying33 rfl) ?_
      refine sA (v := .bool (decide (((j : Nat) : Int) < ((n : Nat) : Int)))) rfl (fun _ henv => rn_bin henv rfl rfl rfl) ?_
      intro a henv
      refine wpList_nil ?_
      refine th_n ?_
      refine if_split henv rfl (fun hc58 => ?_) (fun hc58 => ?_)
      · have hlt : j < n := by have := of_decide_eq_true hc58; omega
        obtain ⟨⟨C, d, x⟩, he1⟩ : ∃ e, es[j]? = some e := ⟨_, List.getElem?_eq_getElem (by omega)⟩
        have hpl : ps.length = max T m := by rw [← List.length_map (f := zz), ho2, adN_len, jnN_len]
        obtain ⟨⟨E, f, y⟩, he2⟩ : ∃ e, ps[i * k + j]? = some e := ⟨_, List.getElem?_eq_getElem (by omega)⟩
        replace hst := hst.elem (k := 1) rfl he1
        replace hst := hst.elemE (k := 3) rfl he2
        replace hst : St w0 _ [rowS notU 68 2 (some ⟨g53, 0, none⟩) (max T m) (max T m) (fl fM ps)] [pfR E f y, pfR C d x, pfRow fQ FQ 1 A0 n0 c0 es0, pfRow fM FM 2 A n c es, pfEs FM ps] := hst
        have hx1 : zl x ≤ 1000 := hxk _ (List.mem_of_getElem? he0) _ (List.mem_of_getElem? he1)
        have hy1 : zl y ≤ 1000 + 8192 * i + j := hkz2.es rfl _ (List.mem_of_getElem? he2)
        have hdx := dl_zl x
        have hdy := dl_zl y
        refine wp_skip ?_
        refine th_n ?_
        refine wp_seq ?_
        refine wp_block ?_
        refine region_any (n := 24) (Sk [] [pfR E f y, pfR C d x, pfRow fQ FQ 1 A0 n0 c0 es0, pfRow fM FM 2 A n c es, pfEs FM ps] [23] [rowS notU 68 2 (some ⟨g53, 0, none⟩) (max T m) (max T m) (fl fM ps)]) mixed rfl henv hst ?_
        clear henv hst; intro w59 henv hst
        refine tM (i := 0) [22, 23] rfl (by kernel_rfl) (fun _ _ _ h => h) henv rfl rfl ?_
        clear henv a; intro a henv
        refine tM (i := 1) [3, 5, 22, 23] rfl (by kernel_rfl) (fun _ _ _ h => h) henv rfl rfl ?_
        clear henv a; intro a henv
        refine tM (i := 2) [3, 5, 22, 23] rfl (by kernel_rfl) (fun _ _ _ h => h) henv rfl rfl ?_
        clear henv a; intro a henv
        refine tA (i := 3) [5, 22, 23] (v := .int .i64 (i * k : Nat)) rfl (by kernel_rfl) (fun _ _ _ h => h) henv rfl (fun _ => rn_mul henv rfl rfl (by rw [IntWalk.i64_in _ (by omega)]; omega)) ?_
        clear henv a; intro a henv
        refine tM (i := 4) [5, 22, 23] rfl (by kernel_rfl) (fun _ _ _ h => h) henv rfl rfl ?_
        clear henv a; intro a henv
        refine tA (i := 5) [22, 23] (v := .int .i64 ((i * k) + j : Nat)) rfl (by kernel_rfl) (fun _ _ _ h => h) henv rfl (fun _ => rn_add henv rfl rfl (by rw [IntWalk.i64_in _ (by omega)]; omega)) ?_
        clear henv a; intro a henv
        refine tM (i := 6) [12, 13, 21, 22, 23] rfl (by kernel_rfl) (fun _ _ _ h => h) henv rfl rfl ?_
        clear henv a; intro a henv
        refine tM (i := 7) [9, 11, 12, 13, 21, 22, 23] rfl (by kernel_rfl) (fun _ _ _ h => h) henv rfl rfl ?_
        clear henv a; intro a henv
        refine tM (i := 8) [9, 11, 12, 13, 21, 22, 23] rfl (by kernel_rfl) (fun _ _ _ h => h) henv rfl rfl ?_
        clear henv a; intro a henv
        refine tA (i := 9) [11, 12, 13, 21, 22, 23] (v := .int .i64 (i * k : Nat)) rfl (by kernel_rfl) (fun _ _ _ h => h) henv rfl (fun _ => rn_mul henv rfl rfl (by rw [IntWalk.i64_in _ (by omega)]; omega)) ?_
        clear henv a; intro a henv
        refine tM (i := 10) [11, 12, 13, 21, 22, 23] rfl (by kernel_rfl) (fun _ _ _ h => h) henv rfl rfl ?_
        clear henv a; intro a henv
        refine tA (i := 11) [12, 13, 21, 22, 23] (v := .int .i64 ((i * k) + j : Nat)) rfl (by kernel_rfl) (fun _ _ _ h => h) henv rfl (fun _ => rn_add henv rfl rfl (by rw [IntWalk.i64_in _ (by omega)]; omega)) ?_
        clear henv a; intro a henv
        refine sAny_take (i := 12) [13, 21, 22, 23] (fun w' => (rowS notU 68 2 (some ⟨g53, 0, none⟩) (max T m) (max T m) (fl fM ps)).P w') (v := .pointer (some ⟨ab (some ⟨g53, 0, none⟩), ao (some ⟨g53, 0, none⟩) + ((i * k) + j) * 2, none⟩)) rfl (by kernel_rfl) (fun _ _ _ h => h) (fun _ _ hj hS => (hS.two rfl hj).owns (k := 0) rfl) henv rfl (hst.owns (k := 0) rfl) (fun w' hg => rn_idxR (i := (i * k) + j) henv Tryd.underlying33 (ty_anvil_anvilref02_Int.size) rfl rfl (by omega) rfl (rowS_rd hg)) ?_
        clear henv a; intro a henv
        refine sAny_take (i := 13) [21, 22, 23] (fun w' => (rowS notU 68 2 (some ⟨g53, 0, none⟩) (max T m) (max T m) (fl fM ps)).P w') (v := .agg #[.bool (neg y), .slice E (dl y) f]) rfl (by kernel_rfl) (fun _ _ _ h => h) (fun _ _ hj hS => (hS.two rfl hj).owns (k := 0) rfl) henv rfl (hst.owns (k := 0) rfl) (fun w' hg => rn_loadE (i := (i * k) + j) (e := (E, f, y)) henv ty_anvil_anvilref02_Int rfl rfl fM_len (rowS_rd hg) (by omega) he2 rfl) ?_
        clear henv a; intro a henv
        refine tM (i := 14) [16, 17, 19, 20, 21, 22, 23] rfl (by kernel_rfl) (fun _ _ _ h => h) henv rfl rfl ?_
        clear henv a; intro a henv
        refine tM (i := 15) [16, 17, 19, 20, 21, 22, 23] rfl (by kernel_rfl) (fun _ _ _ h => h) henv rfl rfl ?_
        clear henv a; intro a henv
        refine sAny_take (i := 16) [17, 19, 20, 21, 22, 23] (fun w' => (pfRow fQ FQ 1 A0 n0 c0 es0).P w') (v := .pointer (some ⟨ab A0, ao A0 + i * 1, none⟩)) rfl (by kernel_rfl) (fun _ _ _ h => h) (fun _ _ _ hS => hS.1.pat (k := 2) rfl) henv rfl (hst.pat (k := 2) rfl) (fun w' hg => rn_idxR (i := i) henv Tryd.underlying31 (ty_anvil_anvilref20_Poly.size) rfl rfl (by omega) rfl (show (pfRow fQ FQ 1 A0 n0 c0 es0).P _ from hg).1) ?_
        clear henv a; intro a henv
        refine sAny_take (i := 17) [19, 20, 21, 22, 23] (fun w' => (pfRow fQ FQ 1 A0 n0 c0 es0).P w') (v := .slice A n c) rfl (by kernel_rfl) (fun _ _ _ h => h) (fun _ _ _ hS => hS.1.pat (k := 2) rfl) henv rfl (hst.pat (k := 2) rfl) (fun w' hg => rn_loadE1 (i := i) (j := 0) (e := (A, n, c, es)) henv ty_anvil_anvilref20_Poly rfl rfl fQ_len (by decide) (show (pfRow fQ FQ 1 A0 n0 c0 es0).P _ from hg).1 (by omega) he0 rfl) ?_
        clear henv a; intro a henv
        refine tM (i := 18) (rg 19 5) rfl (by kernel_rfl) (fun _ _ _ h => h) henv rfl rfl ?_
        clear henv a; intro a henv
        refine sAny_take (i := 19) [20, 21, 22, 23] (fun w' => (pfRow fM FM 2 A n c es).P w') (v := .pointer (some ⟨ab A, ao A + j * 2, none⟩)) rfl (by kernel_rfl) (fun _ _ _ h => h) (fun _ _ _ hS => hS.1.pat (k := 3) rfl) henv rfl (hst.pat (k := 3) rfl) (fun w' hg => rn_idxR (i := j) henv Tryd.underlying33 (ty_anvil_anvilref02_Int.size) rfl rfl (by omega) rfl (show (pfRow fM FM 2 A n c es).P _ from hg).1) ?_
        clear henv a; intro a henv
        refine sAny_take (i := 20) [21, 22, 23] (fun w' => (pfRow fM FM 2 A n c es).P w') (v := .agg #[.bool (neg x), .slice C (dl x) d]) rfl (by kernel_rfl) (fun _ _ _ h => h) (fun _ _ _ hS => hS.1.pat (k := 3) rfl) henv rfl (hst.pat (k := 3) rfl) (fun w' hg => rn_loadE (i := j) (e := (C, d, x)) henv ty_anvil_anvilref02_Int rfl rfl fM_len (show (pfRow fM FM 2 A n c es).P _ from hg).1 (by omega) he1 rfl) ?_
        clear henv a; intro a henv
        have hs60 := dl_add y x
        refine sAny_one (i := 21) (by kernel_rfl) rfl rfl (op_call henv rfl Tryd.call38 rfl (add_r (x := y) (y := x) (show RIn _ E f y from hst.pat (k := 0) rfl) (show RIn _ C d x from hst.pat (k := 1) rfl) (by omega) (by omega)) ?_)
        rintro e w64 ⟨_, rfl, ⟨A61, c62, rfl, hz63⟩, hb⟩
        refine ⟨_, rfl, ?_⟩
        clear henv a; intro a henv
        replace hst := (hst.call hb).addR hz63 ⟨nou_rowS, trivial⟩
        clear hz63
        clear hb
        refine ⟨.inr ⟨hst.kn.pick [] (rg 1 5), .inr (hst.kn.pick [0] [])⟩, ?_⟩
        refine sAny_take (i := 22) [23] (fun w' => (rowS notU 68 2 (some ⟨g53, 0, none⟩) (max T m) (max T m) (fl fM ps)).P w') (v := .pointer (some ⟨ab (some ⟨g53, 0, none⟩), ao (some ⟨g53, 0, none⟩) + ((i * k) + j) * 2, none⟩)) rfl (by kernel_rfl) (fun _ _ _ h => h) (fun _ _ hj hS => (hS.two rfl hj).owns (k := 0) rfl) henv rfl (hst.owns (k := 0) rfl) (fun w' hg => rn_idxR (i := (i * k) + j) henv Tryd.underlying33 (ty_anvil_anvilref02_Int.size) rfl rfl (by omega) rfl (rowS_rd hg)) ?_
        clear henv a; intro a henv
        refine sAny_one (i := 23) (by kernel_rfl) rfl rfl (op_storeS (i := (i * k) + j) (e := (A61, c62, (y + x))) (k := 0) henv hst (ty_anvil_anvilref02_Int.size) rfl rfl rfl rfl fM_len (by omega) hpl rfl rfl rfl ?_)
        clear henv hst a; intro a w65 henv hst
        replace hst := hst.setEs (e := (A61, c62, (y + x))) (i := 5) (j := 0) rfl rfl ((i * k) + j)
        refine ⟨.inr ⟨hst.kn.pick [] (rg 2 5), .inl rfl⟩, ?_⟩
        refine sAny_done (by kernel_rfl) ?_ _
        refine bl_n (th_n ?_)
        refine region_seq ?_
        revert a
        refine mA rfl rfl ?_
        refine sA (v := .int .i64 (j + 1 : Nat)) rfl (fun _ henv => rn_add henv rfl rfl (by rw [IntWalk.i64_in _ (by omega)]; omega)) ?_
        refine aA rfl rfl ?_
        intro a henv
        refine wpList_nil ?_
        exact th_n ⟨_, (by omega), ⟨j + 1, (ps.set ((i * k) + j) (A61, c62, (y + x))), rfl, henv.sub ⟨rfl, rfl, rfl, rfl, rfl, rfl, trivial⟩, hst.pick [0] [4, 5, 0] (by decide), (by omega), (ad_step ho2 hxi he1 he2), (zk_set hkz2 (by have := zl_addm y x; omega) (by omega))⟩⟩
      · obtain rfl : j = n := by have := of_decide_eq_false hc58; omega
        refine wp_exit ?_
        refine th_x (th_x (bl_x (bl_n (th_n ?_))))
        refine region_seq ?_
        revert a
        refine mA rfl rfl ?_
        refine sA (v := .int .i64 (i + 1 : Nat)) rfl (fun _ henv => rn_add henv rfl rfl (by rw [IntWalk.i64_in _ (by omega)]; omega)) ?_
        refine aA rfl rfl ?_
        intro a henv
        refine wpList_nil ?_
        exact th_n ⟨_, (by omega), ⟨i + 1, ps, rfl, henv.sub ⟨rfl, rfl, rfl, rfl, rfl, trivial⟩, hst.pick [0] [0, 2] (by decide), (by omega), (by rw [ho2, jnN, hxl]), (hkz2.mono (by omega))⟩⟩
    · obtain rfl : n0 = i := by have := of_decide_eq_false hc56; omega
      refine wp_exit ?_
      refine th_x (th_x (bl_x (th_n ?_)))
      refine wp_seq ?_
      refine wp_seq ?_
      refine region_seq ?_
      revert a
      refine mA rfl rfl ?_
      refine aA rfl rfl ?_
      intro a henv
      refine wpList_nil ?_
      refine th_n ?_
      refine wp_block ?_
      have hol : os.length = max T m := by rw [← List.length_map (f := zz), ho, jnN_len]
      have hmT : m ≤ max T m := by omega
      refine wp_loop_ghost (fun mz a w => ∃ j : Nat, max T m - j = mz ∧ Env 89 a [(2, .int .i64 (m : Nat)), (10, .slice (some ⟨g53, 0, none⟩) (max T m) (max T m)), (13, .int .i64 (j : Nat))] ∧ St w0 w [rowS notU 68 2 (some ⟨g53, 0, none⟩) (max T m) (max T m) (fl fM os)] [pfEs FM os] ∧ j ≤ max T m ∧ m ≤ j ∧ ∀ i, m ≤ i → i < j → (os.map zz).getD i 0 = 0) _ ⟨m, rfl, henv.sub ⟨rfl, rfl, rfl, trivial⟩, hst.pick [0] [1] (by decide), hmT, (Nat.le_refl _), (fun i h1 h2 => by omega)⟩ ?_
      clear henv hst a
      rintro mz a w66 ⟨j, rfl, henv, hst, hj, hmj, hz⟩
      refine wp_seq ?_
      refine wp_seq ?_
      refine region_seq ?_
      revert a
      refine mA rfl rfl ?_
      refine mA rfl rfl ?_
      refine sA (v := .int .i64 (max T m : Nat)) rfl (fun _ henv => rn_len henv Tryd.underlying33 rfl) ?_
      refine sA (v := .bool (decide (((j : Nat) : Int) < ((max T m : Nat) : Int)))) rfl (fun _ henv => rn_bin henv rfl rfl rfl) ?_
      intro a henv
      refine wpList_nil ?_
      refine th_n ?_
      refine if_split henv rfl (fun hc67 => ?_) (fun hc67 => ?_)
      · have hlt : j < max T m := by have := of_decide_eq_true hc67; omega
        obtain ⟨⟨E, f, y⟩, he2⟩ : ∃ e, os[j]? = some e := ⟨_, List.getElem?_eq_getElem (by omega)⟩
        have hgj : (os.map zz).getD j 0 = y := by rw [List.getD_eq_getElem?_getD, List.getElem?_map, he2]; rfl
        replace hst := hst.elemE (k := 0) rfl he2
        replace hst : St w0 _ [rowS notU 68 2 (some ⟨g53, 0, none⟩) (max T m) (max T m) (fl fM os)] [pfR E f y, pfEs FM os] := hst
        refine wp_skip ?_
        refine th_n ?_
        refine wp_seq ?_
        refine wp_block ?_
        refine wp_seq ?_
        refine region_seq ?_
        revert a
        refine mA rfl rfl ?_
        refine mA rfl rfl ?_
        refine sA (v := .pointer (some ⟨ab (some ⟨g53, 0, none⟩), ao (some ⟨g53, 0, none⟩) + j * 2, none⟩)) rfl (fun _ henv => rn_idxR (i := j) henv Tryd.underlying33 (ty_anvil_anvilref02_Int.size) rfl rfl (by omega) rfl (rowS_rd (hst.owns (k := 0) rfl))) ?_
        refine sA (v := .agg #[.bool (neg y), .slice E (dl y) f]) rfl (fun _ henv => rn_loadE (i := j) (e := (E, f, y)) henv ty_anvil_anvilref02_Int rfl rfl fM_len (rowS_rd (hst.owns (k := 0) rfl)) (by omega) he2 rfl) ?_
        intro a henv
        refine seq_step rfl (op_call henv rfl Tryd.call39 rfl (sign_r (z := y)) ?_)
        rintro e w68 ⟨rfl, hb⟩
        refine ⟨_, rfl, ?_⟩
        clear henv a; intro a henv
        replace hst := hst.call hb
        clear hb
        refine sv (v := .bool (y.sign != (0 : Int))) henv rfl (rn_bin henv rfl rfl rfl) ?_
        clear henv a; intro a henv
        refine wpList_nil ?_
        refine th_n ?_
        refine if_split henv rfl (fun hc69 => ?_) (fun hc69 => ?_)
        · refine wp_seq ?_
          refine region_seq ?_
          revert a
          refine aA rfl rfl ?_
          refine aA rfl rfl ?_
          intro a henv
          refine wpList_nil ?_
          refine th_n ?_
          refine wp_ret ?_
          refine bl_r (th_r (th_r (bl_r (th_r ?_))))
          refine leave henv (res2 Tryd.results19 (RV.tmp henv rfl) (RV.tmp henv rfl)) ?_
          exact ⟨rfl, hst.below⟩
        · have hx0 : y = 0 := Int.sign_eq_zero_iff_zero.1 (by have := hc69; simpa using this)
          refine wp_skip ?_
          refine bl_n (th_n ?_)
          refine region_seq ?_
          revert a
          refine mA rfl rfl ?_
          refine sA (v := .int .i64 (j + 1 : Nat)) rfl (fun _ henv => rn_add henv rfl rfl (by rw [IntWalk.i64_in _ (by omega)]; omega)) ?_
          refine aA rfl rfl ?_
          intro a henv
          refine wpList_nil ?_
          exact th_n ⟨_, (by omega), ⟨j + 1, rfl, henv.sub ⟨rfl, rfl, rfl, trivial⟩, hst.pick [0] [1] (by decide), (by omega), (by omega), (fun i h1 h2 => by rcases Nat.lt_or_ge i j with h3 | h3; exact hz i h1 h3; rw [show i = j by omega, hgj]; exact hx0)⟩⟩
      · have hjn : j = max T m := by have := of_decide_eq_false hc67; omega
        refine wp_exit ?_
        refine th_x (th_x (bl_x (th_n ?_)))
        refine wp_seq ?_
        refine region_seq ?_
        revert a
        refine mA rfl rfl ?_
        refine mA rfl rfl ?_
        refine sA (v := .slice (some ⟨g53, 0, none⟩) m (max T m)) rfl (fun _ henv => rn_sliceTo (m := m) henv Tryd.underlying33 (ty_anvil_anvilref02_Int.size) rfl rfl (by omega)) ?_
        refine aA rfl rfl ?_
        refine aA rfl rfl ?_
        intro a henv
        refine wpList_nil ?_
        refine th_n ?_
        refine wp_ret ?_
        refine leave henv (res2 Tryd.results19 (RV.tmp henv rfl) (RV.tmp henv rfl)) ?_
        exact absurd (deg_all.2 fun i h1 h2 => by rw [← ho]; exact hz i h1 (by rw [jnN_len] at h2; omega)) hdg
set_option maxRecDepth 100000 in
set_option maxHeartbeats 2000000 in
theorem sp_join_a0 {A0 : Option Addr} {n0 c0 : Nat} {k m : Int} {w0 : World} (h1 : k < 1) :
    Calls Tryd.prog 18 #[.slice A0 n0 c0, .int .i64 k, .int .i64 m] w0 fun e w' => e = .returned (.tuple #[.slice none 0 0, .int .i64 2]) ∧ Below w0.heap.size w0 w' := by
  refine enter Tryd.func18 rfl Tryd.ntmps18 rfl ?_
  intro a henv hst
  refine wp_seq ?_
  refine region_seq ?_
  revert a
  refine aA rfl rfl ?_
  refine aA rfl rfl ?_
  intro a henv
  refine wpList_nil ?_
  refine th_n ?_
  refine wp_seq ?_
  refine wp_seq ?_
  refine region_seq ?_
  revert a
  refine mA rfl rfl ?_
  refine sA (v := .bool (decide (k < (1 : Int)))) rfl (fun _ henv => rn_bin henv rfl rfl rfl) ?_
  intro a henv
  rw [show (decide (k < (1 : Int))) = true from (decide_eq_true (by omega))] at henv
  revert a
  refine mA rfl rfl ?_
  refine kA rfl rfl rfl rfl rfl ?_
  refine kA rfl rfl rfl rfl rfl ?_
  refine sA (v := .bool true) rfl (fun _ henv => rn_pick henv rfl rfl) ?_
  refine mA rfl rfl ?_
  refine kA rfl rfl rfl rfl rfl ?_
  refine kA rfl rfl rfl rfl rfl ?_
  refine sA (v := .bool true) rfl (fun _ henv => rn_pick henv rfl rfl) ?_
  refine mA rfl rfl ?_
  refine kA rfl rfl rfl rfl rfl ?_
  refine kA rfl rfl rfl rfl rfl ?_
  refine sA (v := .bool true) rfl (fun _ henv => rn_pick henv rfl rfl) ?_
  intro a henv
  refine wpList_nil ?_
  refine th_n ?_
  refine if_t henv rfl (rfl) ?_
  refine wp_seq ?_
  refine region_seq ?_
  revert a
  refine aA rfl rfl ?_
  refine aA rfl rfl ?_
  intro a henv
  refine wpList_nil ?_
  refine th_n ?_
  refine wp_ret ?_
  refine th_r ?_
  refine leave henv (res2 Tryd.results18 (RV.tmp henv rfl) (RV.tmp henv rfl)) ?_
  exact ⟨rfl, hst.below⟩
set_option maxRecDepth 100000 in
set_option maxHeartbeats 2000000 in
theorem sp_join_a1 {A0 : Option Addr} {n0 c0 : Nat} {k m : Int} {w0 : World} (_u0 : 1 ≤ k) (h1 : 4096 < k) :
    Calls Tryd.prog 18 #[.slice A0 n0 c0, .int .i64 k, .int .i64 m] w0 fun e w' => e = .returned (.tuple #[.slice none 0 0, .int .i64 2]) ∧ Below w0.heap.size w0 w' := by
  refine enter Tryd.func18 rfl Tryd.ntmps18 rfl ?_
  intro a henv hst
  refine wp_seq ?_
  refine region_seq ?_
  revert a
  refine aA rfl rfl ?_
  refine aA rfl rfl ?_
  intro a henv
  refine wpList_nil ?_
  refine th_n ?_
  refine wp_seq ?_
  refine wp_seq ?_
  refine region_seq ?_
  revert a
  refine mA rfl rfl ?_
  refine sA (v := .bool (decide (k < (1 : Int)))) rfl (fun _ henv => rn_bin henv rfl rfl rfl) ?_
  intro a henv
  rw [show (decide (k < (1 : Int))) = false from (decide_eq_false (by omega))] at henv
  revert a
  refine mA rfl rfl ?_
  refine gA (v := .int .i64 k) rfl rfl rfl rfl (fun _ henv => rn_move henv rfl) ?_
  refine gA (v := .bool (decide (k > (4096 : Int)))) rfl rfl rfl rfl (fun _ henv => rn_bin henv rfl rfl rfl) ?_
  intro a henv
  rw [show (decide (k > (4096 : Int))) = true from (decide_eq_true (by omega))] at henv
  revert a
  refine sA (v := .bool true) rfl (fun _ henv => rn_pick henv rfl rfl) ?_
  refine mA rfl rfl ?_
  refine kA rfl rfl rfl rfl rfl ?_
  refine kA rfl rfl rfl rfl rfl ?_
  refine sA (v := .bool true) rfl (fun _ henv => rn_pick henv rfl rfl) ?_
  refine mA rfl rfl ?_
  refine kA rfl rfl rfl rfl rfl ?_
  refine kA rfl rfl rfl rfl rfl ?_
  refine sA (v := .bool true) rfl (fun _ henv => rn_pick henv rfl rfl) ?_
  intro a henv
  refine wpList_nil ?_
  refine th_n ?_
  refine if_t henv rfl (rfl) ?_
  refine wp_seq ?_
  refine region_seq ?_
  revert a
  refine aA rfl rfl ?_
  refine aA rfl rfl ?_
  intro a henv
  refine wpList_nil ?_
  refine th_n ?_
  refine wp_ret ?_
  refine th_r ?_
  refine leave henv (res2 Tryd.results18 (RV.tmp henv rfl) (RV.tmp henv rfl)) ?_
  exact ⟨rfl, hst.below⟩
set_option maxRecDepth 100000 in
set_option maxHeartbeats 2000000 in
theorem sp_join_a2 {A0 : Option Addr} {n0 c0 : Nat} {k m : Int} {w0 : World} (h0 : 1 ≤ k) (h2 : k ≤ 4096) (h1 : m < 0) :
    Calls Tryd.prog 18 #[.slice A0 n0 c0, .int .i64 k, .int .i64 m] w0 fun e w' => e = .returned (.tuple #[.slice none 0 0, .int .i64 2]) ∧ Below w0.heap.size w0 w' := by
  refine enter Tryd.func18 rfl Tryd.ntmps18 rfl ?_
  intro a henv hst
  refine wp_seq ?_
  refine region_seq ?_
  revert a
  refine aA rfl rfl ?_
  refine aA rfl rfl ?_
  intro a henv
  refine wpList_nil ?_
  refine th_n ?_
  refine wp_seq ?_
  refine wp_seq ?_
  refine region_seq ?_
  revert a
  refine mA rfl rfl ?_
  refine sA (v := .bool (decide (k < (1 : Int)))) rfl (fun _ henv => rn_bin henv rfl rfl rfl) ?_
  intro a henv
  rw [show (decide (k < (1 : Int))) = false from (decide_eq_false (by omega))] at henv
  revert a
  refine mA rfl rfl ?_
  refine gA (v := .int .i64 k) rfl rfl rfl rfl (fun _ henv => rn_move henv rfl) ?_
  refine gA (v := .bool (decide (k > (4096 : Int)))) rfl rfl rfl rfl (fun _ henv => rn_bin henv rfl rfl rfl) ?_
  intro a henv
  rw [show (decide (k > (4096 : Int))) = false from (decide_eq_false (by omega))] at henv
  revert a
  refine sA (v := .bool false) rfl (fun _ henv => rn_pick henv rfl rfl) ?_
  refine mA rfl rfl ?_
  refine gA (v := .int .i64 m) rfl rfl rfl rfl (fun _ henv => rn_move henv rfl) ?_
  refine gA (v := .bool (decide (m < (0 : Int)))) rfl rfl rfl rfl (fun _ henv => rn_bin henv rfl rfl rfl) ?_
  intro a henv
  rw [show (decide (m < (0 : Int))) = true from (decide_eq_true (by omega))] at henv
  revert a
  refine sA (v := .bool true) rfl (fun _ henv => rn_pick henv rfl rfl) ?_
  refine mA rfl rfl ?_
  refine kA rfl rfl rfl rfl rfl ?_
  refine kA rfl rfl rfl rfl rfl ?_
  refine sA (v := .bool true) rfl (fun _ henv => rn_pick henv rfl rfl) ?_
  intro a henv
  refine wpList_nil ?_
  refine th_n ?_
  refine if_t henv rfl (rfl) ?_
  refine wp_seq ?_
  refine region_seq ?_
  revert a
  refine aA rfl rfl ?_
  refine aA rfl rfl ?_
  intro a henv
  refine wpList_nil ?_
  refine th_n ?_
  refine wp_ret ?_
  refine th_r ?_
  refine leave henv (res2 Tryd.results18 (RV.tmp henv rfl) (RV.tmp henv rfl)) ?_
  exact ⟨rfl, hst.below⟩
set_option maxRecDepth 100000 in
set_option maxHeartbeats 2000000 in
theorem sp_join_a3 {A0 : Option Addr} {n0 c0 : Nat} {k m : Int} {w0 : World} (h0 : 1 ≤ k) (h2 : k ≤ 4096) (_u3 : 0 ≤ m) (h1 : 8192 < m) :
    Calls Tryd.prog 18 #[.slice A0 n0 c0, .int .i64 k, .int .i64 m] w0 fun e w' => e = .returned (.tuple #[.slice none 0 0, .int .i64 2]) ∧ Below w0.heap.size w0 w' := by
  refine enter Tryd.func18 rfl Tryd.ntmps18 rfl ?_
  intro a henv hst
  refine wp_seq ?_
  refine region_seq ?_
  revert a
  refine aA rfl rfl ?_
  refine aA rfl rfl ?_
  intro a henv
  refine wpList_nil ?_
  refine th_n ?_
  refine wp_seq ?_
  refine wp_seq ?_
  refine region_seq ?_
  revert a
  refine mA rfl rfl ?_
  refine sA (v := .bool (decide (k < (1 : Int)))) rfl (fun _ henv => rn_bin henv rfl rfl rfl) ?_
  intro a henv
  rw [show (decide (k < (1 : Int))) = false from (decide_eq_false (by omega))] at henv
  revert a
  refine mA rfl rfl ?_
  refine gA (v := .int .i64 k) rfl rfl rfl rfl (fun _ henv => rn_move henv rfl) ?_
  refine gA (v := .bool (decide (k > (4096 : Int)))) rfl rfl rfl rfl (fun _ henv => rn_bin henv rfl rfl rfl) ?_
  intro a henv
  rw [show (decide (k > (4096 : Int))) = false from (decide_eq_false (by omega))] at henv
  revert a
  refine sA (v := .bool false) rfl (fun _ henv => rn_pick henv rfl rfl) ?_
  refine mA rfl rfl ?_
  refine gA (v := .int .i64 m) rfl rfl rfl rfl (fun _ henv => rn_move henv rfl) ?_
  refine gA (v := .bool (decide (m < (0 : Int)))) rfl rfl rfl rfl (fun _ henv => rn_bin henv rfl rfl rfl) ?_
  intro a henv
  rw [show (decide (m < (0 : Int))) = false from (decide_eq_false (by omega))] at henv
  revert a
  refine sA (v := .bool false) rfl (fun _ henv => rn_pick henv rfl rfl) ?_
  refine mA rfl rfl ?_
  refine gA (v := .int .i64 m) rfl rfl rfl rfl (fun _ henv => rn_move henv rfl) ?_
  refine gA (v := .bool (decide (m > (8192 : Int)))) rfl rfl rfl rfl (fun _ henv => rn_bin henv rfl rfl rfl) ?_
  intro a henv
  rw [show (decide (m > (8192 : Int))) = true from (decide_eq_true (by omega))] at henv
  refine sv (v := .bool true) henv rfl (rn_pick henv rfl rfl) ?_
  clear henv a; intro a henv
  refine wpList_nil ?_
  refine th_n ?_
  refine if_t henv rfl (rfl) ?_
  refine wp_seq ?_
  refine region_seq ?_
  revert a
  refine aA rfl rfl ?_
  refine aA rfl rfl ?_
  intro a henv
  refine wpList_nil ?_
  refine th_n ?_
  refine wp_ret ?_
  refine th_r ?_
  refine leave henv (res2 Tryd.results18 (RV.tmp henv rfl) (RV.tmp henv rfl)) ?_
  exact ⟨rfl, hst.below⟩
theorem sp_join_arg {A0 : Option Addr} {n0 c0 : Nat} {k m : Int} {w0 : World} (h : k < 1 ∨ 4096 < k ∨ m < 0 ∨ 8192 < m) :
    Calls Tryd.prog 18 #[.slice A0 n0 c0, .int .i64 k, .int .i64 m] w0 fun e w' => e = .returned (.tuple #[.slice none 0 0, .int .i64 2]) ∧ Below w0.heap.size w0 w' := by
  by_cases h1 : k < 1
  · exact sp_join_a0 h1
  by_cases h2 : 4096 < k
  · exact sp_join_a1 (by omega) h2
  by_cases h3 : m < 0
  · exact sp_join_a2 (by omega) (by omega) h3
  · exact sp_join_a3 (by omega) (by omega) (by omega) (by omega)
set_option maxRecDepth 100000 in
set_option maxHeartbeats 4000000 in
theorem sp_join_zero {A0 : Option Addr} {n0 c0 : Nat} {es0 : List LE} {zss : List (List Int)} {k : Nat} {w0 : World} (h0 : (pfRow fL FL 1 A0 n0 c0 es0).P w0) (hz0 : es0.map lz = zss) (hlen : ∀ v ∈ es0, v.2.1 ≤ 8192) (hxk : ∀ v ∈ es0, ∀ x ∈ v.2.2.2, zl (zz x) ≤ 1000) (hn0 : n0 ≤ 15) (hk1 : 1 ≤ k) (hk4 : k ≤ 4096) (hdg : ¬ (((degN (jnN zss k (szN zss k 0 n0) n0) : Nat) : Int) - 1 ≥ (0 : Nat))) :
    Calls Tryd.prog 18 #[.slice A0 n0 c0, .int .i64 (k : Nat), .int .i64 (0 : Nat)] w0 fun e w' => e = .returned (.tuple #[.slice none 0 0, .int .i64 0]) ∧ Below w0.heap.size w0 w' := by
  refine enter Tryd.func18 rfl Tryd.ntmps18 rfl ?_
  intro a henv hst
  have hlen0 := h0.2.1
  have hbig0 := Nat.le_trans h0.1.cap h0.1.big
  unfold maxLen at hbig0
  replace hst := hst.argRow h0
  clear h0
  refine wp_seq ?_
  refine region_seq ?_
  revert a
  refine aA rfl rfl ?_
  refine aA rfl rfl ?_
  intro a henv
  refine wpList_nil ?_
  refine th_n ?_
  refine wp_seq ?_
  refine wp_seq ?_
  refine region_seq ?_
  revert a
  refine mA rfl rfl ?_
  refine sA (v := .bool (decide (((k : Nat) : Int) < (1 : Int)))) rfl (fun _ henv => rn_bin henv rfl rfl rfl) ?_
  intro a henv
  rw [show (decide (((k : Nat) : Int) < (1 : Int))) = false from (decide_eq_false (by omega))] at henv
  revert a
  refine mA rfl rfl ?_
  refine gA (v := .int .i64 (k : Nat)) rfl rfl rfl rfl (fun _ henv => rn_move henv rfl) ?_
  refine gA (v := .bool (decide (((k : Nat) : Int) > (4096 : Int)))) rfl rfl rfl rfl (fun _ henv => rn_bin henv rfl rfl rfl) ?_
  intro a henv
  rw [show (decide (((k : Nat) : Int) > (4096 : Int))) = false from (decide_eq_false (by omega))] at henv
  revert a
  refine sA (v := .bool false) rfl (fun _ henv => rn_pick henv rfl rfl) ?_
  refine mA rfl rfl ?_
  refine gA (v := .int .i64 (0 : Nat)) rfl rfl rfl rfl (fun _ henv => rn_move henv rfl) ?_
  refine gA (v := .bool (decide (((0 : Nat) : Int) < (0 : Int)))) rfl rfl rfl rfl (fun _ henv => rn_bin henv rfl rfl rfl) ?_
  intro a henv
  rw [show (decide (((0 : Nat) : Int) < (0 : Int))) = false from (decide_eq_false (by omega))] at henv
  revert a
  refine sA (v := .bool false) rfl (fun _ henv => rn_pick henv rfl rfl) ?_
  refine mA rfl rfl ?_
  refine gA (v := .int .i64 (0 : Nat)) rfl rfl rfl rfl (fun _ henv => rn_move henv rfl) ?_
  refine gA (v := .bool (decide (((0 : Nat) : Int) > (8192 : Int)))) rfl rfl rfl rfl (fun _ henv => rn_bin henv rfl rfl rfl) ?_
  intro a henv
  rw [show (decide (((0 : Nat) : Int) > (8192 : Int))) = false from (decide_eq_false (by omega))] at henv
  refine sv (v := .bool false) henv rfl (rn_pick henv rfl rfl) ?_
  clear henv a; intro a henv
  refine wpList_nil ?_
  refine th_n ?_
  refine if_f henv rfl (rfl) ?_
  refine wp_skip ?_
  refine th_n ?_
  refine wp_seq ?_
  refine wp_seq ?_
  refine region_seq ?_
  revert a
  refine mA rfl rfl ?_
  refine sA (v := .int .i64 (n0 : Nat)) rfl (fun _ henv => rn_len henv Tryd.underlying26 rfl) ?_
  refine sA (v := .bool (decide (((n0 : Nat) : Int) > (15 : Int)))) rfl (fun _ henv => rn_bin henv rfl rfl rfl) ?_
  intro a henv
  rw [show (decide (((n0 : Nat) : Int) > (15 : Int))) = false from (decide_eq_false (by omega))] at henv
  refine wpList_nil ?_
  refine th_n ?_
  refine if_f henv rfl (rfl) ?_
  refine wp_skip ?_
  refine th_n ?_
  refine wp_seq ?_
  refine region_seq ?_
  revert a
  refine mA rfl rfl ?_
  refine aA rfl rfl ?_
  intro a henv
  refine wpList_nil ?_
  refine th_n ?_
  refine wp_seq ?_
  refine wp_seq ?_
  refine region_seq ?_
  revert a
  refine mA rfl rfl ?_
  refine sA (v := .int .i64 (n0 : Nat)) rfl (fun _ henv => rn_len henv Tryd.underlying26 rfl) ?_
  refine mA rfl rfl ?_
  intro a henv
  refine wpList_nil ?_
  refine th_n ?_
  refine wp_block ?_
  refine wp_loop_ghost (fun mz a w => ∃ i : Nat, ∃ T : Nat, n0 - i = mz ∧ Env 98 a [(0, .slice A0 n0 c0), (1, .int .i64 (k : Nat)), (2, .int .i64 (0 : Nat)), (8, .int .i64 (T : Nat)), (34, .slice A0 n0 c0), (35, .int .i64 (n0 : Nat)), (36, .int .i64 (i : Nat))] ∧ St w0 w [] [pfRow fL FL 1 A0 n0 c0 es0] ∧ i ≤ n0 ∧ T = szN zss k 0 i ∧ T ≤ 65536) _ ⟨0, 0, rfl, henv.sub ⟨rfl, rfl, rfl, rfl, rfl, rfl, rfl, trivial⟩, hst.pick [] [0] (by decide), (Nat.zero_le _), rfl, (by omega)⟩ ?_
  clear henv hst a
  rintro mz a w51 ⟨i, T, rfl, henv, hst, hi, hT, hTb⟩
  refine wp_seq ?_
  refine region_seq ?_
  refine sv (v := .bool (decide (((i : Nat) : Int) < ((n0 : Nat) : Int)))) henv rfl (rn_bin henv rfl rfl rfl) ?_
  clear henv a; intro a henv
  refine wpList_nil ?_
  refine th_n ?_
  refine wp_seq ?_
  refine if_split henv rfl (fun hc52 => ?_) (fun hc52 => ?_)
  · have hlt0 : i < n0 := by have := of_decide_eq_true hc52; omega
    obtain ⟨⟨A, n, c, es⟩, he0⟩ : ∃ e, es0[i]? = some e := ⟨_, List.getElem?_eq_getElem (by omega)⟩
    replace hst := hst.elem (k := 0) rfl he0
    replace hst : St w0 _ [] [pfRow fN FN 2 A n c es, pfRow fL FL 1 A0 n0 c0 es0] := hst
    have hel := (hst.pat (k := 0) rfl).2.1
    have hn8 : n ≤ 8192 := hlen _ (List.mem_of_getElem? he0)
    obtain ⟨hxi, hxl⟩ := part_at hz0 he0 hel
    have hik : i * k ≤ 57344 := Nat.mul_le_mul (show i ≤ 14 by omega) hk4
    refine wp_skip ?_
    refine th_n ?_
    refine wp_seq ?_
    refine wp_block ?_
    refine wp_seq ?_
    refine region_seq ?_
    revert a
    refine mA rfl rfl ?_
    refine sA (v := .pointer (some ⟨ab A0, ao A0 + i * 1, none⟩)) rfl (fun _ henv => rn_idxR (i := i) henv Tryd.underlying26 (ty__integer_Int.size) rfl rfl (by omega) rfl (show (pfRow fL FL 1 A0 n0 c0 es0).P _ from (hst.pat (k := 1) rfl)).1) ?_
    refine sA (v := .slice A n c) rfl (fun _ henv => rn_loadE1 (i := i) (j := 0) (e := (A, n, c, es)) henv ty__integer_Int rfl rfl fL_len (by decide) (show (pfRow fL FL 1 A0 n0 c0 es0).P _ from (hst.pat (k := 1) rfl)).1 (by omega) he0 rfl) ?_
    refine aA rfl rfl ?_
    refine aA rfl rfl ?_
    intro a henv
    refine wpList_nil ?_
    refine th_n ?_
    refine wp_seq ?_
    refine wp_seq ?_
    refine region_seq ?_
    revert a
    refine mA rfl rfl ?_
    refine sA (v := .int .i64 (n : Nat)) rfl (fun _ henv => rn_len henv Tryd.underlying24 rfl) ?_
    refine sA (v := .bool (decide (((n : Nat) : Int) > (8192 : Int)))) rfl (fun _ henv => rn_bin henv rfl rfl rfl) ?_
    intro a henv
    rw [show (decide (((n : Nat) : Int) > (8192 : Int))) = false from (decide_eq_false (by omega))] at henv
    refine wpList_nil ?_
    refine th_n ?_
    refine if_f henv rfl (rfl) ?_
    refine wp_skip ?_
    refine th_n ?_
    refine region_seq ?_
    revert a
    refine mA rfl rfl ?_
    refine mA rfl rfl ?_
    refine mA rfl rfl ?_
    refine sA (v := .int .i64 (i * k : Nat)) rfl (fun _ henv => rn_mul henv rfl rfl (by rw [IntWalk.i64_in _ (by omega)]; omega)) ?_
    refine mA rfl rfl ?_
    refine sA (v := .int .i64 (n : Nat)) rfl (fun _ henv => rn_len henv Tryd.underlying24 rfl) ?_
    refine sA (v := .int .i64 ((i * k) + n : Nat)) rfl (fun _ henv => rn_add henv rfl rfl (by rw [IntWalk.i64_in _ (by omega)]; omega)) ?_
    refine sA (v := .int .i64 (max T ((i * k) + n) : Nat)) rfl (fun _ henv => rn_maxN (m := T) (n := (i * k) + n) henv rfl rfl) ?_
    refine aA rfl rfl ?_
    intro a henv
    refine wpList_nil ?_
    refine bl_n (th_n ?_)
    refine region_seq ?_
    revert a
    refine sA (v := .int .i64 (i + 1 : Nat)) rfl (fun _ henv => rn_add henv rfl rfl (by rw [IntWalk.i64_in _ (by omega)]; omega)) ?_
    refine mA rfl rfl ?_
    intro a henv
    refine wpList_nil ?_
    exact th_n ⟨_, (by omega), ⟨i + 1, max T ((i * k) + n), rfl, henv.sub ⟨rfl, rfl, rfl, rfl, rfl, rfl, rfl, trivial⟩, hst.pick [] [1] (by decide), (by omega), (by rw [hT, szN, hxl]), (by omega)⟩⟩
  · obtain rfl : n0 = i := by have := of_decide_eq_false hc52; omega
    refine wp_exit ?_
    refine th_x (th_x (bl_x (th_n ?_)))
    refine wp_seq ?_
    refine region_seq ?_
    refine sv (v := .int .i64 (T : Nat)) henv rfl (rn_move henv rfl) ?_
    clear henv a; intro a henv
    refine seq_step rfl (op_makeS (f := fN) (e0 := (none, 0, 0)) (q := notU) (n := T) henv hst rfl Tryd.underlying24 inf_anvil_integer_Int rfl rfl fN_zero rfl rfl rfl (by omega) (by unfold maxLen; omega) ?_)
    clear henv hst a; intro a w54 g53 henv hst
    replace hst := hst.addNs (es_zeros T _) ⟨nou_rowS, trivial⟩
    refine sv (v := .slice (some ⟨g53, 0, none⟩) T T) henv rfl (rn_assign henv rfl) ?_
    clear henv a; intro a henv
    refine wpList_nil ?_
    refine th_n ?_
    refine wp_seq ?_
    refine wp_seq ?_
    refine region_seq ?_
    revert a
    refine mA rfl rfl ?_
    refine sA (v := .int .i64 (n0 : Nat)) rfl (fun _ henv => rn_len henv Tryd.underlying26 rfl) ?_
    refine mA rfl rfl ?_
    intro a henv
    refine wpList_nil ?_
    refine th_n ?_
    refine wp_block ?_
    refine wp_loop_ghost (fun mz a w => ∃ i : Nat, ∃ os : List NE, n0 - i = mz ∧ Env 98 a [(1, .int .i64 (k : Nat)), (2, .int .i64 (0 : Nat)), (11, .slice (some ⟨g53, 0, none⟩) T T), (55, .slice A0 n0 c0), (56, .int .i64 (n0 : Nat)), (57, .int .i64 (i : Nat))] ∧ St w0 w [rowS notU 39 2 (some ⟨g53, 0, none⟩) T T (fl fN os)] [pfRow fL FL 1 A0 n0 c0 es0, pfEs FN os] ∧ i ≤ n0 ∧ os.map zz = jnN zss k T i ∧ Zk (1000 + 8192 * i) (os.map zz)) _ ⟨0, (List.replicate T (none, 0, 0)), rfl, henv.sub ⟨rfl, rfl, rfl, rfl, rfl, rfl, trivial⟩, hst.pick [0] [1, 0] (by decide), (Nat.zero_le _), (by rw [List.map_replicate]; rfl), (fun z hz => by rw [List.map_replicate] at hz; rw [List.eq_of_mem_replicate hz]; exact Nat.le_trans (by rw [zl_zero]; omega) (Nat.zero_le _))⟩ ?_
    clear henv hst a
    rintro mz a w55 ⟨i, os, rfl, henv, hst, hi, ho, hkz⟩
    refine wp_seq ?_
    refine region_seq ?_
    refine sv (v := .bool (decide (((i : Nat) : Int) < ((n0 : Nat) : Int)))) henv rfl (rn_bin henv rfl rfl rfl) ?_
    clear henv a; intro a henv
    refine wpList_nil ?_
    refine th_n ?_
    refine wp_seq ?_
    refine if_split henv rfl (fun hc56 => ?_) (fun hc56 => ?_)
    · have hlt0 : i < n0 := by have := of_decide_eq_true hc56; omega
      obtain ⟨⟨A, n, c, es⟩, he0⟩ : ∃ e, es0[i]? = some e := ⟨_, List.getElem?_eq_getElem (by omega)⟩
      replace hst := hst.elem (k := 0) rfl he0
      replace hst : St w0 _ [rowS notU 39 2 (some ⟨g53, 0, none⟩) T T (fl fN os)] [pfRow fN FN 2 A n c es, pfRow fL FL 1 A0 n0 c0 es0, pfEs FN os] := hst
      have hel := (hst.pat (k := 0) rfl).2.1
      have hn8 : n ≤ 8192 := hlen _ (List.mem_of_getElem? he0)
      obtain ⟨hxi, hxl⟩ := part_at hz0 he0 hel
      have hik : i * k ≤ 57344 := Nat.mul_le_mul (show i ≤ 14 by omega) hk4
      have hsz : i * k + n ≤ T := by have := sz_at zss k 0 (i := i) hlt0; rw [hxl, ← hT] at this; exact this
      refine wp_skip ?_
      refine th_n ?_
      refine wp_seq ?_
      refine wp_block ?_
      refine wp_seq ?_
      refine region_seq ?_
      revert a
      refine mA rfl rfl ?_
      refine sA (v := .pointer (some ⟨ab A0, ao A0 + i * 1, none⟩)) rfl (fun _ henv => rn_idxR (i := i) henv Tryd.underlying26 (ty__integer_Int.size) rfl rfl (by omega) rfl (show (pfRow fL FL 1 A0 n0 c0 es0).P _ from (hst.pat (k := 1) rfl)).1) ?_
      refine sA (v := .slice A n c) rfl (fun _ henv => rn_loadE1 (i := i) (j := 0) (e := (A, n, c, es)) henv ty__integer_Int rfl rfl fL_len (by decide) (show (pfRow fL FL 1 A0 n0 c0 es0).P _ from (hst.pat (k := 1) rfl)).1 (by omega) he0 rfl) ?_
      refine aA rfl rfl ?_
      refine aA rfl rfl ?_
      intro a henv
      refine wpList_nil ?_
      refine th_n ?_
      refine wp_seq ?_
      refine region_seq ?_
      revert a
      refine mA rfl rfl ?_
      refine sA (v := .int .i64 (n : Nat)) rfl (fun _ henv => rn_len henv Tryd.underlying24 rfl) ?_
      refine mA rfl rfl ?_
      intro a henv
      refine wpList_nil ?_
      refine th_n ?_
      refine wp_block ?_
      refine wp_loop_ghost (fun mz a w => ∃ j : Nat, ∃ ps : List NE, n - j = mz ∧ Env 98 a [(1, .int .i64 (k : Nat)), (2, .int .i64 (0 : Nat)), (11, .slice (some ⟨g53, 0, none⟩) T T), (12, .int .i64 (i : Nat)), (55, .slice A0 n0 c0), (56, .int .i64 (n0 : Nat)), (57, .int .i64 (i : Nat)), (62, .slice A n c), (63, .int .i64 (n : Nat)), (64, .int .i64 (j : Nat))] ∧ St w0 w [rowS notU 39 2 (some ⟨g53, 0, none⟩) T T (fl fN ps)] [pfRow fL FL 1 A0 n0 c0 es0, pfRow fN FN 2 A n c es, pfEs FN ps] ∧ j ≤ n ∧ ps.map zz = adN (zss.getD i []) (i * k) (jnN zss k T i) j ∧ Zk (1000 + 8192 * i + j) (ps.map zz)) _ ⟨0, os, rfl, henv.sub ⟨rfl, rfl, rfl, rfl, rfl, rfl, rfl, rfl, rfl, rfl, trivial⟩, hst.pick [0] [1, 0, 2] (by decide), (Nat.zero_le _), ho, hkz⟩ ?_
      clear henv hst a
      rintro mz a w57 ⟨j, ps, rfl, henv, hst, hj, ho2, hkz2⟩
      refine wp_seq ?_
      refine region_seq ?_
      refine sv (v := .bool (decide (((j : Nat) : Int) < ((n : Nat) : Int)))) henv rfl (rn_bin henv rfl rfl rfl) ?_
      clear henv a; intro a henv
      refine wpList_nil ?_
      refine th_n ?_
      refine wp_seq ?_
      refine if_split henv rfl (fun hc58 => ?_) (fun hc58 => ?_)
      · have hlt : j < n := by have := of_decide_eq_true hc58; omega
        obtain ⟨⟨C, d, x⟩, he1⟩ : ∃ e, es[j]? = some e := ⟨_, List.getElem?_eq_getElem (by omega)⟩
        have hpl : ps.length = T := by rw [← List.length_map (f := zz), ho2, adN_len, jnN_len]
        obtain ⟨⟨E, f, y⟩, he2⟩ : ∃ e, ps[i * k + j]? = some e := ⟨_, List.getElem?_eq_getElem (by omega)⟩
        replace hst := hst.elem (k := 1) rfl he1
        replace hst := hst.elemE (k := 3) rfl he2
        replace hst : St w0 _ [rowS notU 39 2 (some ⟨g53, 0, none⟩) T T (fl fN ps)] [pfZ E f y, pfZ C d x, pfRow fL FL 1 A0 n0 c0 es0, pfRow fN FN 2 A n c es, pfEs FN ps] := hst
        have hx1 : zl x ≤ 1000 := hxk _ (List.mem_of_getElem? he0) _ (List.mem_of_getElem? he1)
        have hy1 : zl y ≤ 1000 + 8192 * i + j := hkz2.es rfl _ (List.mem_of_getElem? he2)
        refine wp_skip ?_
        refine th_n ?_
        refine wp_seq ?_
        refine wp_block ?_
        refine wp_seq ?_
        refine region_seq ?_
        revert a
        refine mA rfl rfl ?_
        refine sA (v := .pointer (some ⟨ab A, ao A + j * 2, none⟩)) rfl (fun _ henv => rn_idxR (i := j) henv Tryd.underlying24 (ty_anvil_integer_Int.size) rfl rfl (by omega) rfl (show (pfRow fN FN 2 A n c es).P _ from (hst.pat (k := 3) rfl)).1) ?_
        refine sA (v := .agg #[.bool (neg x), .slice C (zl x) d]) rfl (fun _ henv => rn_loadE (i := j) (e := (C, d, x)) henv ty_anvil_integer_Int rfl rfl fN_len (show (pfRow fN FN 2 A n c es).P _ from (hst.pat (k := 3) rfl)).1 (by omega) he1 rfl) ?_
        intro a henv
        refine seq_step rfl (op_alloc (c := #[.bool (neg 0), .slice none (zl 0) 0]) henv hst rfl zero_anvil_integer_Int zcells ?_)
        clear henv hst a; intro a w60 g59 henv hst
        refine sv (v := .int .i64 (j : Nat)) henv rfl (rn_assign henv rfl) ?_
        clear henv a; intro a henv
        refine seq_step rfl (op_store (k := 0) (c' := #[.bool (neg x), .slice C (zl x) d]) henv hst (ty_anvil_integer_Int.size) rfl rfl rfl rfl (by simp) rfl rfl ?_)
        clear henv hst a; intro a w61 henv hst
        refine wpList_nil ?_
        refine th_n ?_
        refine region_any (n := 18) (Sk [bk g59 #[.bool (neg x), .slice C (zl x) d] 39] [pfZ E f y, pfZ C d x, pfRow fL FL 1 A0 n0 c0 es0, pfRow fN FN 2 A n c es, pfEs FN ps] [17] [rowS notU 39 2 (some ⟨g53, 0, none⟩) T T (fl fN ps)]) mixed rfl henv hst ?_
        clear henv hst; intro w62 henv hst
        refine tM (i := 0) [16, 17] rfl (by kernel_rfl) (fun _ _ _ h => h) henv rfl rfl ?_
        clear henv a; intro a henv
        refine tM (i := 1) [3, 5, 16, 17] rfl (by kernel_rfl) (fun _ _ _ h => h) henv rfl rfl ?_
        clear henv a; intro a henv
        refine tM (i := 2) [3, 5, 16, 17] rfl (by kernel_rfl) (fun _ _ _ h => h) henv rfl rfl ?_
        clear henv a; intro a henv
        refine tA (i := 3) [5, 16, 17] (v := .int .i64 (i * k : Nat)) rfl (by kernel_rfl) (fun _ _ _ h => h) henv rfl (fun _ => rn_mul henv rfl rfl (by rw [IntWalk.i64_in _ (by omega)]; omega)) ?_
        clear henv a; intro a henv
        refine tM (i := 4) [5, 16, 17] rfl (by kernel_rfl) (fun _ _ _ h => h) henv rfl rfl ?_
        clear henv a; intro a henv
        refine tA (i := 5) [16, 17] (v := .int .i64 ((i * k) + j : Nat)) rfl (by kernel_rfl) (fun _ _ _ h => h) henv rfl (fun _ => rn_add henv rfl rfl (by rw [IntWalk.i64_in _ (by omega)]; omega)) ?_
        clear henv a; intro a henv
        refine tM (i := 6) [12, 13, 15, 16, 17] rfl (by kernel_rfl) (fun _ _ _ h => h) henv rfl rfl ?_
        clear henv a; intro a henv
        refine tM (i := 7) [9, 11, 12, 13, 15, 16, 17] rfl (by kernel_rfl) (fun _ _ _ h => h) henv rfl rfl ?_
        clear henv a; intro a henv
        refine tM (i := 8) [9, 11, 12, 13, 15, 16, 17] rfl (by kernel_rfl) (fun _ _ _ h => h) henv rfl rfl ?_
        clear henv a; intro a henv
        refine tA (i := 9) [11, 12, 13, 15, 16, 17] (v := .int .i64 (i * k : Nat)) rfl (by kernel_rfl) (fun _ _ _ h => h) henv rfl (fun _ => rn_mul henv rfl rfl (by rw [IntWalk.i64_in _ (by omega)]; omega)) ?_
        clear henv a; intro a henv
        refine tM (i := 10) [11, 12, 13, 15, 16, 17] rfl (by kernel_rfl) (fun _ _ _ h => h) henv rfl rfl ?_
        clear henv a; intro a henv
        refine tA (i := 11) [12, 13, 15, 16, 17] (v := .int .i64 ((i * k) + j : Nat)) rfl (by kernel_rfl) (fun _ _ _ h => h) henv rfl (fun _ => rn_add henv rfl rfl (by rw [IntWalk.i64_in _ (by omega)]; omega)) ?_
        clear henv a; intro a henv
        refine sAny_take (i := 12) [13, 15, 16, 17] (fun w' => (rowS notU 39 2 (some ⟨g53, 0, none⟩) T T (fl fN ps)).P w') (v := .pointer (some ⟨ab (some ⟨g53, 0, none⟩), ao (some ⟨g53, 0, none⟩) + ((i * k) + j) * 2, none⟩)) rfl (by kernel_rfl) (fun _ _ _ h => h) (fun _ _ hj hS => (hS.two rfl hj).owns (k := 0) rfl) henv rfl (hst.owns (k := 1) rfl) (fun w' hg => rn_idxR (i := (i * k) + j) henv Tryd.underlying24 (ty_anvil_integer_Int.size) rfl rfl (by omega) rfl (rowS_rd hg)) ?_
        clear henv a; intro a henv
        refine sAny_take (i := 13) [15, 16, 17] (fun w' => (rowS notU 39 2 (some ⟨g53, 0, none⟩) T T (fl fN ps)).P w') (v := .agg #[.bool (neg y), .slice E (zl y) f]) rfl (by kernel_rfl) (fun _ _ _ h => h) (fun _ _ hj hS => (hS.two rfl hj).owns (k := 0) rfl) henv rfl (hst.owns (k := 1) rfl) (fun w' hg => rn_loadE (i := (i * k) + j) (e := (E, f, y)) henv ty_anvil_integer_Int rfl rfl fN_len (rowS_rd hg) (by omega) he2 rfl) ?_
        clear henv a; intro a henv
        refine tL (i := 14) 0 0 [15, 16, 17] rfl (by kernel_rfl) (fun _ _ _ h => h) henv rfl ty_anvil_integer_Int rfl hst rfl rfl rfl ?_
        clear henv a; intro a henv
        have hs63 := zl_add y x
        refine sAny_one (i := 15) (by kernel_rfl) rfl rfl (op_call henv rfl Tryd.call36 rfl (add_z (x := y) (y := x) (show ZIn _ E f y from hst.pat (k := 0) rfl) (show ZIn _ C d x from hst.pat (k := 1) rfl) (by omega) (by omega)) ?_)
        rintro e w67 ⟨_, rfl, ⟨A64, c65, rfl, hz66⟩, hb⟩
        refine ⟨_, rfl, ?_⟩
        clear henv a; intro a henv
        replace hst := (hst.call hb).addZ hz66 ⟨nou_bk rfl, nou_rowS, trivial⟩
        clear hz66
        clear hb
        refine ⟨.inr ⟨hst.kn.pick [0] (rg 1 5), .inr (hst.kn.pick [1] [])⟩, ?_⟩
        refine sAny_take (i := 16) [17] (fun w' => (rowS notU 39 2 (some ⟨g53, 0, none⟩) T T (fl fN ps)).P w') (v := .pointer (some ⟨ab (some ⟨g53, 0, none⟩), ao (some ⟨g53, 0, none⟩) + ((i * k) + j) * 2, none⟩)) rfl (by kernel_rfl) (fun _ _ _ h => h) (fun _ _ hj hS => (hS.two rfl hj).owns (k := 0) rfl) henv rfl (hst.owns (k := 1) rfl) (fun w' hg => rn_idxR (i := (i * k) + j) henv Tryd.underlying24 (ty_anvil_integer_Int.size) rfl rfl (by omega) rfl (rowS_rd hg)) ?_
        clear henv a; intro a henv
        refine sAny_one (i := 17) (by kernel_rfl) rfl rfl (op_storeS (i := (i * k) + j) (e := (A64, c65, (y + x))) (k := 1) henv hst (ty_anvil_integer_Int.size) rfl rfl rfl rfl fN_len (by omega) hpl rfl rfl rfl ?_)
        clear henv hst a; intro a w68 henv hst
        replace hst := hst.setEs (e := (A64, c65, (y + x))) (i := 5) (j := 0) rfl rfl ((i * k) + j)
        refine ⟨.inr ⟨hst.kn.pick [0] (rg 2 5), .inl rfl⟩, ?_⟩
        refine sAny_done (by kernel_rfl) ?_ _
        refine bl_n (th_n ?_)
        refine region_seq ?_
        revert a
        refine sA (v := .int .i64 (j + 1 : Nat)) rfl (fun _ henv => rn_add henv rfl rfl (by rw [IntWalk.i64_in _ (by omega)]; omega)) ?_
        refine mA rfl rfl ?_
        intro a henv
        refine wpList_nil ?_
        exact th_n ⟨_, (by omega), ⟨j + 1, (ps.set ((i * k) + j) (A64, c65, (y + x))), rfl, henv.sub ⟨rfl, rfl, rfl, rfl, rfl, rfl, rfl, rfl, rfl, rfl, trivial⟩, hst.pick [1] [4, 5, 0] (by decide), (by omega), (ad_step ho2 hxi he1 he2), (zk_set hkz2 (by have := zl_addm y x; omega) (by omega))⟩⟩
      · obtain rfl : j = n := by have := of_decide_eq_false hc58; omega
        refine wp_exit ?_
        refine th_x (th_x (bl_x (bl_n (th_n ?_))))
        refine region_seq ?_
        revert a
        refine sA (v := .int .i64 (i + 1 : Nat)) rfl (fun _ henv => rn_add henv rfl rfl (by rw [IntWalk.i64_in _ (by omega)]; omega)) ?_
        refine mA rfl rfl ?_
        intro a henv
        refine wpList_nil ?_
        exact th_n ⟨_, (by omega), ⟨i + 1, ps, rfl, henv.sub ⟨rfl, rfl, rfl, rfl, rfl, rfl, trivial⟩, hst.pick [0] [0, 2] (by decide), (by omega), (by rw [ho2, jnN, hxl]), (hkz2.mono (by omega))⟩⟩
    · obtain rfl : n0 = i := by have := of_decide_eq_false hc56; omega
      refine wp_exit ?_
      refine th_x (th_x (bl_x (th_n ?_)))
      refine wp_seq ?_
      refine wp_seq ?_
      rw [← hT] at hdg
      refine region_seq ?_
      refine sv (v := .slice (some ⟨g53, 0, none⟩) T T) henv rfl (rn_move henv rfl) ?_
      clear henv a; intro a henv
      have hol : os.length = T := by rw [← List.length_map (f := zz), ho, jnN_len]
      refine seq_step rfl (op_call henv rfl Tryd.call37 rfl (p_deg (es0 := os) ⟨rowS_rd (hst.owns (k := 0) rfl), hol, hst.pat (k := 1) rfl⟩ ho (by omega)) ?_)
      rintro e w69 ⟨rfl, hb⟩
      refine ⟨_, rfl, ?_⟩
      clear henv a; intro a henv
      replace hst := hst.call hb
      clear hb
      revert a
      refine mA rfl rfl ?_
      refine sA (v := .bool (decide (((degN (jnN zss k T n0) : Nat) : Int) - 1 ≥ ((0 : Nat) : Int)))) rfl (fun _ henv => rn_bin henv rfl rfl rfl) ?_
      intro a henv
      rw [show (decide (((degN (jnN zss k T n0) : Nat) : Int) - 1 ≥ ((0 : Nat) : Int))) = false from (decide_eq_false hdg)] at henv
      refine wpList_nil ?_
      refine th_n ?_
      refine if_f henv rfl (rfl) ?_
      refine wp_skip ?_
      refine th_n ?_
      refine wp_seq ?_
      refine wp_seq ?_
      refine region_seq ?_
      revert a
      refine mA rfl rfl ?_
      refine sA (v := .bool (((0 : Nat) : Int) == (0 : Int))) rfl (fun _ henv => rn_bin henv rfl rfl rfl) ?_
      intro a henv
      rw [show (((0 : Nat) : Int) == (0 : Int)) = true from (by rfl)] at henv
      refine wpList_nil ?_
      refine th_n ?_
      refine if_t henv rfl (rfl) ?_
      refine wp_seq ?_
      refine region_seq ?_
      revert a
      refine aA rfl rfl ?_
      refine aA rfl rfl ?_
      intro a henv
      refine wpList_nil ?_
      refine th_n ?_
      refine wp_ret ?_
      refine th_r ?_
      refine leave henv (res2 Tryd.results18 (RV.tmp henv rfl) (RV.tmp henv rfl)) ?_
      exact ⟨rfl, hst.below⟩
end Go.Proofs.YtoojllfijfjmoaaDoor.W

/- SplitJoins: the law's walk. Printed by pv/gen_sp10.py. No condition. -/
namespace Go.Proofs.YtoojllfijfjmoaaDoor.W
open Go.RowKit Anv Go.Lib
abbrev TE := Option Addr × Nat × Nat × List Int
def fT (v : TE) : List Value := [.slice v.1 v.2.1 v.2.2.1]
def FT (v : TE) : PF := pfRow fI FI 1 v.1 v.2.1 v.2.2.1 v.2.2.2
theorem fT_len (v : TE) : (fT v).length = 1 := rfl
def lt (v : TE) : List Int := v.2.2.2
def totN (es : List TE) : Nat → Nat
  | 0 => 0
  | j + 1 => totN es j + (es.getD j (none, 0, 0, [])).2.1
theorem tot_at {es : List TE} {j n c : Nat} {A : Option Addr} {xs : List Int} (h : es[j]? = some (A, n, c, xs)) : (es.getD j (none, 0, 0, [])).2.1 = n := by
  rw [List.getD_eq_getElem?_getD, h]; rfl
theorem tot_le {es : List TE} {j n c k : Nat} {A : Option Addr} {xs : List Int} (hj : j < k) (h : es[j]? = some (A, n, c, xs)) : n ≤ totN es k := by
  induction k with
  | zero => omega
  | succ k ih =>
    rw [totN]
    rcases Nat.lt_or_ge j k with h1 | h1
    · have := ih h1; omega
    · obtain rfl : j = k := by omega
      rw [tot_at h]; omega
theorem lt_step {os : List LE} {es : List TE} {j n c d : Nat} {A B : Option Addr} {xs : List Int} {fs : List NE} (ho : os.map lz = (es.map lt).take j) (he : es[j]? = some (A, n, c, xs)) (hf : fs.map zz = xs) : (os ++ [(B, n, d, fs)]).map lz = (es.map lt).take (j + 1) := by
  rw [List.map_append, ho, take_one (x := xs) (by rw [List.getElem?_map, he]; rfl)]
  exact congrArg (fun l => _ ++ [l]) hf
theorem le_snoc {os : List LE} {e : LE} {k : Nat} (h : ∀ v ∈ os, v.2.1 ≤ k) (he : e.2.1 ≤ k) : ∀ v ∈ os ++ [e], v.2.1 ≤ k := fun v hv => by
  rcases List.mem_append.1 hv with hv | hv
  · exact h v hv
  · rw [List.mem_singleton.1 hv]; exact he
theorem i64_zl {z : Int} (h : -9223372036854775808 ≤ z ∧ z ≤ 9223372036854775807) : zl z ≤ 2 := nl_le_of_lt (by show z.natAbs < _; omega)
theorem lt_zk2 {os : List LE} {es : List TE} (ho : os.map lz = es.map lt) (hI : ∀ v ∈ es, I64 v.2.2.2) : ∀ v ∈ os, Zk 20000 (lz v) := fun v hv z hz => by
  have h1 : lz v ∈ es.map lt := ho ▸ List.mem_map_of_mem hv
  obtain ⟨u, hu, e⟩ := List.mem_map.1 h1
  rw [← e] at hz
  exact Nat.le_trans (i64_zl (hI u hu z hz)) (by decide)
theorem lt_zk {os : List LE} {es : List TE} (ho : os.map lz = es.map lt) (hI : ∀ v ∈ es, I64 v.2.2.2) : ∀ v ∈ os, ∀ x ∈ v.2.2.2, zl (zz x) ≤ 1000 := fun v hv x hx => by
  have h1 : lz v ∈ es.map lt := ho ▸ List.mem_map_of_mem hv
  obtain ⟨u, hu, e⟩ := List.mem_map.1 h1
  have h2 : zz x ∈ lt u := e ▸ List.mem_map_of_mem hx
  exact Nat.le_trans (i64_zl (hI u hu _ h2)) (by decide)
theorem row_some {B : Option Addr} {m c : Nat} {es : List NE} {w : World} (hm : m ≠ 0) (h : (pfRow fN FN 2 B m c es).P w) : ∃ ad, B = some ad := by
  obtain ⟨b, off, e, _⟩ := h.1.cells (by omega)
  exact ⟨_, e⟩
theorem zk_setI {a b p : Nat} {l : List Int} {v : Int} (h : Zk a l) (hv : zl v ≤ b) (hab : a ≤ b) : Zk b (l.set p v) := fun z hz => by
  rcases mem_set_cases hz with h1 | h1
  · exact Nat.le_trans (h z h1) hab
  · rw [h1]; exact hv
theorem zk_getD {a p : Nat} {l : List Int} (h : Zk a l) : zl (l.getD p 0) ≤ a := by
  rw [List.getD_eq_getElem?_getD]
  cases hl : l[p]? with
  | none => show zl 0 ≤ a; rw [zl_zero]; omega
  | some x => exact h x (List.mem_of_getElem? hl)
theorem ad_zk {xs l : List Int} {p a : Nat} (hx : Zk 2 xs) (h : Zk (2 + a) l) : ∀ j, Zk (2 + a + j) (adN xs p l j)
  | 0 => h
  | j + 1 => by
    have ih := ad_zk (p := p) hx h j
    rw [adN]
    refine zk_setI ih ?_ (by omega)
    have h1 := zk_getD (p := p + j) ih
    have h2 := zk_getD (p := j) hx
    have h3 := zl_addm ((adN xs p l j).getD (p + j) 0) (xs.getD j 0)
    omega
theorem jn_zk1 {es : List TE} {k T : Nat} (hI : ∀ v ∈ es, I64 v.2.2.2) (hl : ∀ i, ((es.map lt).getD i []).length ≤ 400) : ∀ i, Zk (2 + 400 * i) (jnN (es.map lt) k T i)
  | 0 => fun z hz => by
    rw [jnN] at hz
    rw [List.eq_of_mem_replicate hz, zl_zero]; omega
  | i + 1 => by
    have hx : Zk 2 ((es.map lt).getD i []) := fun z hz => by
      rw [List.getD_eq_getElem?_getD] at hz
      cases h : (es.map lt)[i]? with
      | none => rw [h] at hz; cases hz
      | some x =>
        rw [h] at hz
        obtain ⟨v, hv, e⟩ := List.mem_map.1 (List.mem_of_getElem? h)
        rw [← e] at hz
        exact i64_zl (hI v hv z hz)
    rw [jnN]
    exact (ad_zk hx (jn_zk1 hI hl i) _).mono (by have := hl i; omega)
theorem jn_zk {es : List TE} {k T n m : Nat} (hI : ∀ v ∈ es, I64 v.2.2.2) (hl : ∀ i, ((es.map lt).getD i []).length ≤ 400) (hn : n ≤ 15) : Zk 20000 ((jnN (es.map lt) k T n).take m) :=
  ((jn_zk1 hI hl n).mono (by omega)).take m
theorem part_lens {os : List LE} {es : List TE} {A : Option Addr} {n c : Nat} {w : World} (h : (pfRow fL FL 1 A n c os).P w) (ho : os.map lz = es.map lt) (hol : ∀ v ∈ os, v.2.1 ≤ 400) : ∀ i, ((es.map lt).getD i []).length ≤ 400 := fun i => by
  rw [← ho, List.getD_eq_getElem?_getD]
  cases hv : (os.map lz)[i]? with
  | none => exact Nat.zero_le _
  | some x =>
    rw [List.getElem?_map] at hv
    cases hu : os[i]? with
    | none => rw [hu] at hv; cases hv
    | some u =>
      rw [hu] at hv
      have h1 : (FL u).P w := row_at h hu
      have h2 := h1.2.1
      have h3 := hol u (List.mem_of_getElem? hu)
      have h4 : lz u = x := Option.some.inj hv
      show x.length ≤ 400
      rw [← h4]
      unfold lz
      rw [List.length_map]
      omega
set_option maxRecDepth 100000 in
set_option maxHeartbeats 8000000 in
theorem joins_wrap {A0 : Option Addr} {n0 c0 : Nat} {es0 : List TE} {k m : Int} {w0 : World} (h0 : (pfRow fT FT 1 A0 n0 c0 es0).P w0) (_hI : ∀ v ∈ es0, I64 v.2.2.2) (hs : ∀ v ∈ es0, v.2.1 ≤ 35184372088832) (hn : 100 < n0) :
    Calls Tryd.prog 4 #[.slice A0 n0 c0, .int .i64 k, .int .i64 m] w0 fun e w' => e = .returned (.bool true) ∧ Below w0.heap.size w0 w' := by
  refine enter Tryd.func4 rfl Tryd.ntmps4 rfl ?_
  intro a henv hst
  have hlen0 := h0.2.1
  have hbig0 := Nat.le_trans h0.1.cap h0.1.big
  unfold maxLen at hbig0
  replace hst := hst.argRow h0
  clear h0
  refine wp_seq ?_
  refine region_seq ?_
  refine sv (v := .bool false) henv rfl (rn_assign henv rfl) ?_
  clear henv a; intro a henv
  refine wpList_nil ?_
  refine th_n ?_
  refine wp_seq ?_
  refine wp_seq ?_
  refine region_seq ?_
  refine seq_step rfl (op_call henv rfl Tryd.call10 rfl l_works ?_)
  rintro e w51 ⟨rfl, hb⟩
  refine ⟨_, rfl, ?_⟩
  clear henv a; intro a henv
  replace hst := hst.call hb
  clear hb
  refine sv (v := .bool false) henv rfl (rn_un henv rfl rfl) ?_
  clear henv a; intro a henv
  refine wpList_nil ?_
  refine th_n ?_
  refine if_f henv rfl (rfl) ?_
  refine wp_skip ?_
  refine th_n ?_
  refine wp_seq ?_
  refine region_seq ?_
  refine sv (v := .int .i64 0) henv rfl (rn_assign henv rfl) ?_
  clear henv a; intro a henv
  refine wpList_nil ?_
  refine th_n ?_
  refine wp_seq ?_
  refine wp_seq ?_
  refine region_seq ?_
  revert a
  refine mA rfl rfl ?_
  refine sA (v := .int .i64 (n0 : Nat)) rfl (fun _ henv => rn_len henv Tryd.underlying42 rfl) ?_
  refine mA rfl rfl ?_
  intro a henv
  refine wpList_nil ?_
  refine th_n ?_
  refine wp_block ?_
  refine wp_loop_ghost (fun mz a w => ∃ j : Nat, ∃ x : Int, n0 - j = mz ∧ Env 127 a [(0, .slice A0 n0 c0), (1, .int .i64 k), (2, .int .i64 m), (7, .int .i64 x), (20, .slice A0 n0 c0), (21, .int .i64 (n0 : Nat)), (22, .int .i64 (j : Nat))] ∧ St w0 w [] [pfRow fT FT 1 A0 n0 c0 es0] ∧ j ≤ n0) _ ⟨0, 0, rfl, henv.sub ⟨rfl, rfl, rfl, rfl, rfl, rfl, rfl, trivial⟩, hst.pick [] [0] (by decide), (Nat.zero_le _)⟩ ?_
  clear henv hst a
  rintro mz a w52 ⟨j, x, rfl, henv, hst, hj⟩
  refine wp_seq ?_
  refine region_seq ?_
  refine sv (v := .bool (decide (((j : Nat) : Int) < ((n0 : Nat) : Int)))) henv rfl (rn_bin henv rfl rfl rfl) ?_
  clear henv a; intro a henv
  refine wpList_nil ?_
  refine th_n ?_
  refine wp_seq ?_
  refine if_split henv rfl (fun hc53 => ?_) (fun hc53 => ?_)
  · have hlt : j < n0 := by have := of_decide_eq_true hc53; omega
    obtain ⟨⟨A, n, c, xs⟩, he0⟩ : ∃ e, es0[j]? = some e := ⟨_, List.getElem?_eq_getElem (by omega)⟩
    replace hst := hst.elem (k := 0) rfl he0
    replace hst : St w0 _ [] [pfRow fI FI 1 A n c xs, pfRow fT FT 1 A0 n0 c0 es0] := hst
    have hn45 : n ≤ 35184372088832 := hs _ (List.mem_of_getElem? he0)
    refine wp_skip ?_
    refine th_n ?_
    refine wp_seq ?_
    refine wp_block ?_
    refine wp_seq ?_
    refine region_seq ?_
    revert a
    refine sA (v := .pointer (some ⟨ab A0, ao A0 + j * 1, none⟩)) rfl (fun _ henv => rn_idxR (i := j) henv Tryd.underlying42 (ty__int64.size) rfl rfl (by omega) rfl (show (pfRow fT FT 1 A0 n0 c0 es0).P _ from (hst.pat (k := 1) rfl)).1) ?_
    refine sA (v := .slice A n c) rfl (fun _ henv => rn_loadE1 (i := j) (j := 0) (e := (A, n, c, xs)) henv ty__int64 rfl rfl fT_len (by decide) (show (pfRow fT FT 1 A0 n0 c0 es0).P _ from (hst.pat (k := 1) rfl)).1 (by omega) he0 rfl) ?_
    refine aA rfl rfl ?_
    intro a henv
    refine wpList_nil ?_
    refine th_n ?_
    refine region_seq ?_
    revert a
    refine mA rfl rfl ?_
    refine mA rfl rfl ?_
    refine sA (v := .int .i64 (n : Nat)) rfl (fun _ henv => rn_len henv Tryd.underlying22 rfl) ?_
    refine sA (v := .int .i64 (IntKind.i64.wrap (x + ((n : Nat) : Int)))) rfl (fun _ henv => rn_add henv rfl rfl rfl) ?_
    refine aA rfl rfl ?_
    intro a henv
    refine wpList_nil ?_
    refine bl_n (th_n ?_)
    refine region_seq ?_
    revert a
    refine sA (v := .int .i64 (j + 1 : Nat)) rfl (fun _ henv => rn_add henv rfl rfl (by rw [IntWalk.i64_in _ (by omega)]; omega)) ?_
    refine mA rfl rfl ?_
    intro a henv
    refine wpList_nil ?_
    exact th_n ⟨_, (by omega), ⟨j + 1, (IntKind.i64.wrap (x + ((n : Nat) : Int))), rfl, henv.sub ⟨rfl, rfl, rfl, rfl, rfl, rfl, rfl, trivial⟩, hst.pick [] [1] (by decide), (by omega)⟩⟩
  · obtain rfl : n0 = j := by have := of_decide_eq_false hc53; omega
    refine wp_exit ?_
    refine th_x (th_x (bl_x (th_n ?_)))
    refine wp_seq ?_
    refine wp_seq ?_
    refine region_seq ?_
    revert a
    refine mA rfl rfl ?_
    refine sA (v := .bool (decide (x > (400 : Int)))) rfl (fun _ henv => rn_bin henv rfl rfl rfl) ?_
    refine mA rfl rfl ?_
    intro a henv
    rcases bool_em (decide (x > (400 : Int))) with hg54 | hg54
    · rw [hg54] at henv
      have hx55 := of_decide_eq_true hg54
      revert a
      refine kA rfl rfl rfl rfl rfl ?_
      refine kA rfl rfl rfl rfl rfl ?_
      refine kA rfl rfl rfl rfl rfl ?_
      refine sA (v := .bool true) rfl (fun _ henv => rn_pick henv rfl rfl) ?_
      intro a henv
      refine wpList_nil ?_
      refine th_n ?_
      refine if_t henv rfl (rfl) ?_
      refine wp_seq ?_
      refine region_seq ?_
      refine sv (v := .bool true) henv rfl (rn_assign henv rfl) ?_
      clear henv a; intro a henv
      refine wpList_nil ?_
      refine th_n ?_
      refine wp_ret ?_
      refine th_r ?_
      refine leave henv (res1 Tryd.results4 (RV.tmp henv rfl)) ?_
      exact ⟨rfl, hst.below⟩
    · rw [hg54] at henv
      have hx56 := of_decide_eq_false hg54
      revert a
      refine gA (v := .slice A0 n0 c0) rfl rfl rfl rfl (fun _ henv => rn_move henv rfl) ?_
      refine gA (v := .int .i64 (n0 : Nat)) rfl rfl rfl rfl (fun _ henv => rn_len henv Tryd.underlying42 rfl) ?_
      refine gA (v := .bool (decide (((n0 : Nat) : Int) > (100 : Int)))) rfl rfl rfl rfl (fun _ henv => rn_bin henv rfl rfl rfl) ?_
      intro a henv
      rw [show (decide (((n0 : Nat) : Int) > (100 : Int))) = true from (decide_eq_true (by omega))] at henv
      refine sv (v := .bool true) henv rfl (rn_pick henv rfl rfl) ?_
      clear henv a; intro a henv
      refine wpList_nil ?_
      refine th_n ?_
      refine if_t henv rfl (rfl) ?_
      refine wp_seq ?_
      refine region_seq ?_
      refine sv (v := .bool true) henv rfl (rn_assign henv rfl) ?_
      clear henv a; intro a henv
      refine wpList_nil ?_
      refine th_n ?_
      refine wp_ret ?_
      refine th_r ?_
      refine leave henv (res1 Tryd.results4 (RV.tmp henv rfl)) ?_
      exact ⟨rfl, hst.below⟩
set_option maxRecDepth 100000 in
set_option maxHeartbeats 8000000 in
theorem joins_big {A0 : Option Addr} {n0 c0 : Nat} {es0 : List TE} {k m : Int} {w0 : World} (h0 : (pfRow fT FT 1 A0 n0 c0 es0).P w0) (_hI : ∀ v ∈ es0, I64 v.2.2.2) (hs : ∀ v ∈ es0, v.2.1 ≤ 35184372088832) (hn : n0 ≤ 100) (htot : 400 < totN es0 n0) :
    Calls Tryd.prog 4 #[.slice A0 n0 c0, .int .i64 k, .int .i64 m] w0 fun e w' => e = .returned (.bool true) ∧ Below w0.heap.size w0 w' := by
  refine enter Tryd.func4 rfl Tryd.ntmps4 rfl ?_
  intro a henv hst
  have hlen0 := h0.2.1
  have hbig0 := Nat.le_trans h0.1.cap h0.1.big
  unfold maxLen at hbig0
  replace hst := hst.argRow h0
  clear h0
  refine wp_seq ?_
  refine region_seq ?_
  refine sv (v := .bool false) henv rfl (rn_assign henv rfl) ?_
  clear henv a; intro a henv
  refine wpList_nil ?_
  refine th_n ?_
  refine wp_seq ?_
  refine wp_seq ?_
  refine region_seq ?_
  refine seq_step rfl (op_call henv rfl Tryd.call10 rfl l_works ?_)
  rintro e w51 ⟨rfl, hb⟩
  refine ⟨_, rfl, ?_⟩
  clear henv a; intro a henv
  replace hst := hst.call hb
  clear hb
  refine sv (v := .bool false) henv rfl (rn_un henv rfl rfl) ?_
  clear henv a; intro a henv
  refine wpList_nil ?_
  refine th_n ?_
  refine if_f henv rfl (rfl) ?_
  refine wp_skip ?_
  refine th_n ?_
  refine wp_seq ?_
  refine region_seq ?_
  refine sv (v := .int .i64 0) henv rfl (rn_assign henv rfl) ?_
  clear henv a; intro a henv
  refine wpList_nil ?_
  refine th_n ?_
  refine wp_seq ?_
  refine wp_seq ?_
  refine region_seq ?_
  revert a
  refine mA rfl rfl ?_
  refine sA (v := .int .i64 (n0 : Nat)) rfl (fun _ henv => rn_len henv Tryd.underlying42 rfl) ?_
  refine mA rfl rfl ?_
  intro a henv
  refine wpList_nil ?_
  refine th_n ?_
  refine wp_block ?_
  refine wp_loop_ghost (fun mz a w => ∃ j : Nat, ∃ s : Nat, n0 - j = mz ∧ Env 127 a [(0, .slice A0 n0 c0), (1, .int .i64 k), (2, .int .i64 m), (7, .int .i64 (s : Nat)), (20, .slice A0 n0 c0), (21, .int .i64 (n0 : Nat)), (22, .int .i64 (j : Nat))] ∧ St w0 w [] [pfRow fT FT 1 A0 n0 c0 es0] ∧ j ≤ n0 ∧ s = totN es0 j ∧ s ≤ j * 35184372088832) _ ⟨0, 0, rfl, henv.sub ⟨rfl, rfl, rfl, rfl, rfl, rfl, rfl, trivial⟩, hst.pick [] [0] (by decide), (Nat.zero_le _), rfl, (Nat.zero_le _)⟩ ?_
  clear henv hst a
  rintro mz a w52 ⟨j, s, rfl, henv, hst, hj, hs7, htb⟩
  refine wp_seq ?_
  refine region_seq ?_
  refine sv (v := .bool (decide (((j : Nat) : Int) < ((n0 : Nat) : Int)))) henv rfl (rn_bin henv rfl rfl rfl) ?_
  clear henv a; intro a henv
  refine wpList_nil ?_
  refine th_n ?_
  refine wp_seq ?_
  refine if_split henv rfl (fun hc53 => ?_) (fun hc53 => ?_)
  · have hlt : j < n0 := by have := of_decide_eq_true hc53; omega
    obtain ⟨⟨A, n, c, xs⟩, he0⟩ : ∃ e, es0[j]? = some e := ⟨_, List.getElem?_eq_getElem (by omega)⟩
    replace hst := hst.elem (k := 0) rfl he0
    replace hst : St w0 _ [] [pfRow fI FI 1 A n c xs, pfRow fT FT 1 A0 n0 c0 es0] := hst
    have hn45 : n ≤ 35184372088832 := hs _ (List.mem_of_getElem? he0)
    refine wp_skip ?_
    refine th_n ?_
    refine wp_seq ?_
    refine wp_block ?_
    refine wp_seq ?_
    refine region_seq ?_
    revert a
    refine sA (v := .pointer (some ⟨ab A0, ao A0 + j * 1, none⟩)) rfl (fun _ henv => rn_idxR (i := j) henv Tryd.underlying42 (ty__int64.size) rfl rfl (by omega) rfl (show (pfRow fT FT 1 A0 n0 c0 es0).P _ from (hst.pat (k := 1) rfl)).1) ?_
    refine sA (v := .slice A n c) rfl (fun _ henv => rn_loadE1 (i := j) (j := 0) (e := (A, n, c, xs)) henv ty__int64 rfl rfl fT_len (by decide) (show (pfRow fT FT 1 A0 n0 c0 es0).P _ from (hst.pat (k := 1) rfl)).1 (by omega) he0 rfl) ?_
    refine aA rfl rfl ?_
    intro a henv
    refine wpList_nil ?_
    refine th_n ?_
    refine region_seq ?_
    revert a
    refine mA rfl rfl ?_
    refine mA rfl rfl ?_
    refine sA (v := .int .i64 (n : Nat)) rfl (fun _ henv => rn_len henv Tryd.underlying22 rfl) ?_
    refine sA (v := .int .i64 (s + n : Nat)) rfl (fun _ henv => rn_add henv rfl rfl (by rw [IntWalk.i64_in _ (by omega)]; omega)) ?_
    refine aA rfl rfl ?_
    intro a henv
    refine wpList_nil ?_
    refine bl_n (th_n ?_)
    refine region_seq ?_
    revert a
    refine sA (v := .int .i64 (j + 1 : Nat)) rfl (fun _ henv => rn_add henv rfl rfl (by rw [IntWalk.i64_in _ (by omega)]; omega)) ?_
    refine mA rfl rfl ?_
    intro a henv
    refine wpList_nil ?_
    exact th_n ⟨_, (by omega), ⟨j + 1, s + n, rfl, henv.sub ⟨rfl, rfl, rfl, rfl, rfl, rfl, rfl, trivial⟩, hst.pick [] [1] (by decide), (by omega), (by rw [totN, tot_at he0, hs7]), (by rw [Nat.succ_mul]; omega)⟩⟩
  · obtain rfl : n0 = j := by have := of_decide_eq_false hc53; omega
    refine wp_exit ?_
    refine th_x (th_x (bl_x (th_n ?_)))
    refine wp_seq ?_
    refine wp_seq ?_
    refine region_seq ?_
    revert a
    refine mA rfl rfl ?_
    refine sA (v := .bool (decide (((s : Nat) : Int) > (400 : Int)))) rfl (fun _ henv => rn_bin henv rfl rfl rfl) ?_
    intro a henv
    rw [show (decide (((s : Nat) : Int) > (400 : Int))) = true from (decide_eq_true (by omega))] at henv
    revert a
    refine mA rfl rfl ?_
    refine kA rfl rfl rfl rfl rfl ?_
    refine kA rfl rfl rfl rfl rfl ?_
    refine kA rfl rfl rfl rfl rfl ?_
    refine sA (v := .bool true) rfl (fun _ henv => rn_pick henv rfl rfl) ?_
    intro a henv
    refine wpList_nil ?_
    refine th_n ?_
    refine if_t henv rfl (rfl) ?_
    refine wp_seq ?_
    refine region_seq ?_
    refine sv (v := .bool true) henv rfl (rn_assign henv rfl) ?_
    clear henv a; intro a henv
    refine wpList_nil ?_
    refine th_n ?_
    refine wp_ret ?_
    refine th_r ?_
    refine leave henv (res1 Tryd.results4 (RV.tmp henv rfl)) ?_
    exact ⟨rfl, hst.below⟩
set_option maxRecDepth 100000 in
set_option maxHeartbeats 8000000 in
theorem joins_arg {A0 : Option Addr} {n0 c0 : Nat} {es0 : List TE} {k m : Int} {w0 : World} (h0 : (pfRow fT FT 1 A0 n0 c0 es0).P w0) (hI : ∀ v ∈ es0, I64 v.2.2.2) (hs : ∀ v ∈ es0, v.2.1 ≤ 35184372088832) (hn : n0 ≤ 100) (htot : totN es0 n0 ≤ 400) (hbad : k < 1 ∨ 4096 < k ∨ m < 0 ∨ 8192 < m) :
    Calls Tryd.prog 4 #[.slice A0 n0 c0, .int .i64 k, .int .i64 m] w0 fun e w' => e = .returned (.bool true) ∧ Below w0.heap.size w0 w' := by
  refine enter Tryd.func4 rfl Tryd.ntmps4 rfl ?_
  intro a henv hst
  have hlen0 := h0.2.1
  have hbig0 := Nat.le_trans h0.1.cap h0.1.big
  unfold maxLen at hbig0
  replace hst := hst.argRow h0
  clear h0
  refine wp_seq ?_
  refine region_seq ?_
  refine sv (v := .bool false) henv rfl (rn_assign henv rfl) ?_
  clear henv a; intro a henv
  refine wpList_nil ?_
  refine th_n ?_
  refine wp_seq ?_
  refine wp_seq ?_
  refine region_seq ?_
  refine seq_step rfl (op_call henv rfl Tryd.call10 rfl l_works ?_)
  rintro e w51 ⟨rfl, hb⟩
  refine ⟨_, rfl, ?_⟩
  clear henv a; intro a henv
  replace hst := hst.call hb
  clear hb
  refine sv (v := .bool false) henv rfl (rn_un henv rfl rfl) ?_
  clear henv a; intro a henv
  refine wpList_nil ?_
  refine th_n ?_
  refine if_f henv rfl (rfl) ?_
  refine wp_skip ?_
  refine th_n ?_
  refine wp_seq ?_
  refine region_seq ?_
  refine sv (v := .int .i64 0) henv rfl (rn_assign henv rfl) ?_
  clear henv a; intro a henv
  refine wpList_nil ?_
  refine th_n ?_
  refine wp_seq ?_
  refine wp_seq ?_
  refine region_seq ?_
  revert a
  refine mA rfl rfl ?_
  refine sA (v := .int .i64 (n0 : Nat)) rfl (fun _ henv => rn_len henv Tryd.underlying42 rfl) ?_
  refine mA rfl rfl ?_
  intro a henv
  refine wpList_nil ?_
  refine th_n ?_
  refine wp_block ?_
  refine wp_loop_ghost (fun mz a w => ∃ j : Nat, ∃ s : Nat, n0 - j = mz ∧ Env 127 a [(0, .slice A0 n0 c0), (1, .int .i64 k), (2, .int .i64 m), (7, .int .i64 (s : Nat)), (20, .slice A0 n0 c0), (21, .int .i64 (n0 : Nat)), (22, .int .i64 (j : Nat))] ∧ St w0 w [] [pfRow fT FT 1 A0 n0 c0 es0] ∧ j ≤ n0 ∧ s = totN es0 j ∧ s ≤ j * 35184372088832) _ ⟨0, 0, rfl, henv.sub ⟨rfl, rfl, rfl, rfl, rfl, rfl, rfl, trivial⟩, hst.pick [] [0] (by decide), (Nat.zero_le _), rfl, (Nat.zero_le _)⟩ ?_
  clear henv hst a
  rintro mz a w52 ⟨j, s, rfl, henv, hst, hj, hs7, htb⟩
  refine wp_seq ?_
  refine region_seq ?_
  refine sv (v := .bool (decide (((j : Nat) : Int) < ((n0 : Nat) : Int)))) henv rfl (rn_bin henv rfl rfl rfl) ?_
  clear henv a; intro a henv
  refine wpList_nil ?_
  refine th_n ?_
  refine wp_seq ?_
  refine if_split henv rfl (fun hc53 => ?_) (fun hc53 => ?_)
  · have hlt : j < n0 := by have := of_decide_eq_true hc53; omega
    obtain ⟨⟨A, n, c, xs⟩, he0⟩ : ∃ e, es0[j]? = some e := ⟨_, List.getElem?_eq_getElem (by omega)⟩
    replace hst := hst.elem (k := 0) rfl he0
    replace hst : St w0 _ [] [pfRow fI FI 1 A n c xs, pfRow fT FT 1 A0 n0 c0 es0] := hst
    have hn45 : n ≤ 35184372088832 := hs _ (List.mem_of_getElem? he0)
    refine wp_skip ?_
    refine th_n ?_
    refine wp_seq ?_
    refine wp_block ?_
    refine wp_seq ?_
    refine region_seq ?_
    revert a
    refine sA (v := .pointer (some ⟨ab A0, ao A0 + j * 1, none⟩)) rfl (fun _ henv => rn_idxR (i := j) henv Tryd.underlying42 (ty__int64.size) rfl rfl (by omega) rfl (show (pfRow fT FT 1 A0 n0 c0 es0).P _ from (hst.pat (k := 1) rfl)).1) ?_
    refine sA (v := .slice A n c) rfl (fun _ henv => rn_loadE1 (i := j) (j := 0) (e := (A, n, c, xs)) henv ty__int64 rfl rfl fT_len (by decide) (show (pfRow fT FT 1 A0 n0 c0 es0).P _ from (hst.pat (k := 1) rfl)).1 (by omega) he0 rfl) ?_
    refine aA rfl rfl ?_
    intro a henv
    refine wpList_nil ?_
    refine th_n ?_
    refine region_seq ?_
    revert a
    refine mA rfl rfl ?_
    refine mA rfl rfl ?_
    refine sA (v := .int .i64 (n : Nat)) rfl (fun _ henv => rn_len henv Tryd.underlying22 rfl) ?_
    refine sA (v := .int .i64 (s + n : Nat)) rfl (fun _ henv => rn_add henv rfl rfl (by rw [IntWalk.i64_in _ (by omega)]; omega)) ?_
    refine aA rfl rfl ?_
    intro a henv
    refine wpList_nil ?_
    refine bl_n (th_n ?_)
    refine region_seq ?_
    revert a
    refine sA (v := .int .i64 (j + 1 : Nat)) rfl (fun _ henv => rn_add henv rfl rfl (by rw [IntWalk.i64_in _ (by omega)]; omega)) ?_
    refine mA rfl rfl ?_
    intro a henv
    refine wpList_nil ?_
    exact th_n ⟨_, (by omega), ⟨j + 1, s + n, rfl, henv.sub ⟨rfl, rfl, rfl, rfl, rfl, rfl, rfl, trivial⟩, hst.pick [] [1] (by decide), (by omega), (by rw [totN, tot_at he0, hs7]), (by rw [Nat.succ_mul]; omega)⟩⟩
  · obtain rfl : n0 = j := by have := of_decide_eq_false hc53; omega
    refine wp_exit ?_
    refine th_x (th_x (bl_x (th_n ?_)))
    refine wp_seq ?_
    refine wp_seq ?_
    refine region_seq ?_
    revert a
    refine mA rfl rfl ?_
    refine sA (v := .bool (decide (((s : Nat) : Int) > (400 : Int)))) rfl (fun _ henv => rn_bin henv rfl rfl rfl) ?_
    intro a henv
    rw [show (decide (((s : Nat) : Int) > (400 : Int))) = false from (decide_eq_false (by omega))] at henv
    revert a
    refine mA rfl rfl ?_
    refine gA (v := .slice A0 n0 c0) rfl rfl rfl rfl (fun _ henv => rn_move henv rfl) ?_
    refine gA (v := .int .i64 (n0 : Nat)) rfl rfl rfl rfl (fun _ henv => rn_len henv Tryd.underlying42 rfl) ?_
    refine gA (v := .bool (decide (((n0 : Nat) : Int) > (100 : Int)))) rfl rfl rfl rfl (fun _ henv => rn_bin henv rfl rfl rfl) ?_
    intro a henv
    rw [show (decide (((n0 : Nat) : Int) > (100 : Int))) = false from (decide_eq_false (by omega))] at henv
    refine sv (v := .bool false) henv rfl (rn_pick henv rfl rfl) ?_
    clear henv a; intro a henv
    refine wpList_nil ?_
    refine th_n ?_
    refine if_f henv rfl (rfl) ?_
    refine wp_skip ?_
    refine th_n ?_
    refine wp_seq ?_
    refine region_seq ?_
    refine sv (v := .slice none 0 0) henv rfl (rn_assign henv rfl) ?_
    clear henv a; intro a henv
    refine wpList_nil ?_
    refine th_n ?_
    refine wp_seq ?_
    refine region_seq ?_
    refine sv (v := .slice none 0 0) henv rfl (rn_assign henv rfl) ?_
    clear henv a; intro a henv
    refine wpList_nil ?_
    refine th_n ?_
    refine wp_seq ?_
    refine wp_seq ?_
    refine region_seq ?_
    revert a
    refine mA rfl rfl ?_
    refine sA (v := .int .i64 (n0 : Nat)) rfl (fun _ henv => rn_len henv Tryd.underlying42 rfl) ?_
    refine mA rfl rfl ?_
    intro a henv
    refine wpList_nil ?_
    refine th_n ?_
    refine wp_block ?_
    replace hst := (hst.addRowS notU 24 1).nilEs FL
    replace hst : St w0 _ [rowS notU 24 1 none 0 0 (fl fL ([]))] [pfEs FL ([]), pfRow fT FT 1 A0 n0 c0 es0] := hst
    replace hst := (hst.addRowS notU 33 1).nilEs FQ
    replace hst : St w0 _ [rowS notU 33 1 none 0 0 (fl fQ ([])), rowS notU 24 1 none 0 0 (fl fL ([]))] [pfEs FQ ([]), pfEs FL ([]), pfRow fT FT 1 A0 n0 c0 es0] := hst
    refine wp_loop_ghost (fun mz a w => ∃ j : Nat, ∃ B1 : Option Addr, ∃ d1 : Nat, ∃ os : List LE, ∃ B2 : Option Addr, ∃ d2 : Nat, ∃ qs : List LE, n0 - j = mz ∧ Env 127 a [(0, .slice A0 n0 c0), (1, .int .i64 k), (2, .int .i64 m), (10, .slice B1 j d1), (11, .slice B2 j d2), (38, .slice A0 n0 c0), (39, .int .i64 (n0 : Nat)), (40, .int .i64 (j : Nat))] ∧ St w0 w [rowS notU 33 1 B2 j d2 (fl fQ qs), rowS notU 24 1 B1 j d1 (fl fL os)] [pfEs FQ qs, pfEs FL os, pfRow fT FT 1 A0 n0 c0 es0] ∧ j ≤ n0 ∧ os.map lz = (es0.map lt).take j ∧ qs.map lz = (es0.map lt).take j ∧ (∀ v ∈ os, v.2.1 ≤ 400) ∧ (∀ v ∈ qs, v.2.1 ≤ 400)) _ ⟨0, none, 0, [], none, 0, [], rfl, henv.sub ⟨rfl, rfl, rfl, rfl, rfl, rfl, rfl, rfl, trivial⟩, hst.pick [0, 1] [0, 1, 2] (by decide), (Nat.zero_le _), rfl, rfl, (fun _ h => by cases h), (fun _ h => by cases h)⟩ ?_
    clear henv hst a
    rintro mz a w54 ⟨j, B1, d1, os, B2, d2, qs, rfl, henv, hst, hj, ho, hp, hol, hql⟩
    refine wp_seq ?_
    refine region_seq ?_
    refine sv (v := .bool (decide (((j : Nat) : Int) < ((n0 : Nat) : Int)))) henv rfl (rn_bin henv rfl rfl rfl) ?_
    clear henv a; intro a henv
    refine wpList_nil ?_
    refine th_n ?_
    refine wp_seq ?_
    refine if_split henv rfl (fun hc55 => ?_) (fun hc55 => ?_)
    · have hlt : j < n0 := by have := of_decide_eq_true hc55; omega
      obtain ⟨⟨A, n, c, xs⟩, he0⟩ : ∃ e, es0[j]? = some e := ⟨_, List.getElem?_eq_getElem (by omega)⟩
      replace hst := hst.elem (k := 2) rfl he0
      replace hst : St w0 _ [rowS notU 33 1 B2 j d2 (fl fQ qs), rowS notU 24 1 B1 j d1 (fl fL os)] [pfRow fI FI 1 A n c xs, pfEs FQ qs, pfEs FL os, pfRow fT FT 1 A0 n0 c0 es0] := hst
      have hn45 : n ≤ 35184372088832 := hs _ (List.mem_of_getElem? he0)
      have hn4 : n ≤ 400 := Nat.le_trans (tot_le hlt he0) htot
      refine wp_skip ?_
      refine th_n ?_
      refine wp_seq ?_
      refine wp_block ?_
      refine wp_seq ?_
      refine region_seq ?_
      revert a
      refine sA (v := .pointer (some ⟨ab A0, ao A0 + j * 1, none⟩)) rfl (fun _ henv => rn_idxR (i := j) henv Tryd.underlying42 (ty__int64.size) rfl rfl (by omega) rfl (show (pfRow fT FT 1 A0 n0 c0 es0).P _ from (hst.pat (k := 3) rfl)).1) ?_
      refine sA (v := .slice A n c) rfl (fun _ henv => rn_loadE1 (i := j) (j := 0) (e := (A, n, c, xs)) henv ty__int64 rfl rfl fT_len (by decide) (show (pfRow fT FT 1 A0 n0 c0 es0).P _ from (hst.pat (k := 3) rfl)).1 (by omega) he0 rfl) ?_
      refine aA rfl rfl ?_
      intro a henv
      refine wpList_nil ?_
      refine th_n ?_
      refine region_seq ?_
      revert a
      refine mA rfl rfl ?_
      refine mA rfl rfl ?_
      intro a henv
      refine seq_step rfl (op_call henv rfl Tryd.call11 rfl (l_list (es0 := xs) (hst.pat (k := 0) rfl) (hI _ (List.mem_of_getElem? he0)) (by omega)) ?_)
      rintro e w61 ⟨_, rfl, ⟨A56, c57, es58, rfl, hr, hl59, hz60⟩, hb⟩
      refine ⟨_, rfl, ?_⟩
      clear henv a; intro a henv
      replace hst := hst.freshRd hb hr hl59 (ap_N hr.2.1 ⟨nou_rowS, nou_rowS, trivial⟩)
      clear hr
      clear hb
      refine seq_step rfl (op_buildSlice (z := 1) (pv := #[(0, .slice A56 n c57)]) (c := #[.slice A56 n c57]) henv hst rfl Tryd.underlying26 (ty__integer_Int.size) zero__integer_Int (by decide) (by decide) rfl (by kernel_rfl) ?_)
      clear henv hst a; intro a w63 g62 henv hst
      refine seq_step rfl (op_appendS (k := 2) (j := 0) henv hst rfl Tryd.underlying26 inf__integer_Int rfl rfl rfl rfl rfl rfl rfl rfl rfl rfl rfl (by unfold maxLen; omega) (by omega) ?_)
      clear henv hst a; intro a w66 g64 c65 henv hst
      rw [show fl fL os ++ (#[.slice A56 n c57] : Array Value).toList = fl fL (os ++ [((A56 : Option Addr), n, c57, es58)]) from fl_snoc (f := fL) os ((A56 : Option Addr), n, c57, es58)] at hst
      replace hst := hst.snocEs (e := ((A56 : Option Addr), n, c57, es58)) (i := 3) (j := 0) rfl rfl
      revert a
      refine mA rfl rfl ?_
      refine mA rfl rfl ?_
      intro a henv
      refine seq_step rfl (op_call henv rfl Tryd.call15 rfl (l_ref (es0 := xs) (hst.pat (k := 2) rfl) (hI _ (List.mem_of_getElem? he0)) (by omega)) ?_)
      rintro e w72 ⟨_, rfl, ⟨A67, c68, es69, rfl, hr, hl70, hz71⟩, hb⟩
      refine ⟨_, rfl, ?_⟩
      clear henv a; intro a henv
      replace hst := hst.freshRd hb hr hl70 (ap_M hr.2.1 ⟨nou_bk rfl, nou_rowS, nou_rowS, trivial⟩)
      clear hr
      clear hb
      refine seq_step rfl (op_buildSlice (z := 1) (pv := #[(0, .slice A67 n c68)]) (c := #[.slice A67 n c68]) henv hst rfl Tryd.underlying31 (ty_anvil_anvilref20_Poly.size) zero_anvil_anvilref20_Poly (by decide) (by decide) rfl (by kernel_rfl) ?_)
      clear henv hst a; intro a w74 g73 henv hst
      refine seq_step rfl (op_appendS (k := 2) (j := 0) henv hst rfl Tryd.underlying31 inf_anvil_anvilref20_Poly rfl rfl rfl rfl rfl rfl rfl rfl rfl rfl rfl (by unfold maxLen; omega) (by omega) ?_)
      clear henv hst a; intro a w77 g75 c76 henv hst
      rw [show fl fQ qs ++ (#[.slice A67 n c68] : Array Value).toList = fl fQ (qs ++ [((A67 : Option Addr), n, c68, es69)]) from fl_snoc (f := fQ) qs ((A67 : Option Addr), n, c68, es69)] at hst
      replace hst := hst.snocEs (e := ((A67 : Option Addr), n, c68, es69)) (i := 4) (j := 0) rfl rfl
      revert a
      refine aA rfl rfl ?_
      refine aA rfl rfl ?_
      intro a henv
      refine wpList_nil ?_
      refine bl_n (th_n ?_)
      refine region_seq ?_
      revert a
      refine sA (v := .int .i64 (j + 1 : Nat)) rfl (fun _ henv => rn_add henv rfl rfl (by rw [IntWalk.i64_in _ (by omega)]; omega)) ?_
      refine mA rfl rfl ?_
      intro a henv
      refine wpList_nil ?_
      exact th_n ⟨_, (by omega), ⟨j + 1, (some ⟨g64, 0, none⟩), c65, (os ++ [((A56 : Option Addr), n, c57, es58)]), (some ⟨g75, 0, none⟩), c76, (qs ++ [((A67 : Option Addr), n, c68, es69)]), rfl, henv.sub ⟨rfl, rfl, rfl, rfl, rfl, rfl, rfl, rfl, trivial⟩, hst.pick [2, 3] [0, 2, 7] (by decide), (by omega), (lt_step ho he0 hz60), (lt_step hp he0 hz71), (le_snoc hol (by omega)), (le_snoc hql (by omega))⟩⟩
    · obtain rfl : n0 = j := by have := of_decide_eq_false hc55; omega
      refine wp_exit ?_
      refine th_x (th_x (bl_x (th_n ?_)))
      refine wp_seq ?_
      have htk : (es0.map lt).take n0 = es0.map lt := List.take_of_length_le (by rw [List.length_map]; omega)
      rw [htk] at ho hp
      have hol1 : os.length = n0 := map_len ho (by rw [List.length_map]; exact hlen0)
      have hql1 : qs.length = n0 := map_len hp (by rw [List.length_map]; exact hlen0)
      replace hst := hst.giveRow (k := 1) (j := 1) rfl rfl hol1
      replace hst : St w0 _ [rowS notU 33 1 B2 n0 d2 (fl fQ qs)] [pfRow fL FL 1 B1 n0 d1 os, pfRd 1 B1 n0 d1 (fl fL os), pfEs FQ qs, pfEs FL os, pfRow fT FT 1 A0 n0 c0 es0] := hst
      replace hst := hst.giveRow (k := 0) (j := 2) rfl rfl hql1
      replace hst : St w0 _ [] [pfRow fQ FQ 1 B2 n0 d2 qs, pfRd 1 B2 n0 d2 (fl fQ qs), pfRow fL FL 1 B1 n0 d1 os, pfRd 1 B1 n0 d1 (fl fL os), pfEs FQ qs, pfEs FL os, pfRow fT FT 1 A0 n0 c0 es0] := hst
      refine region_seq ?_
      revert a
      refine mA rfl rfl ?_
      refine mA rfl rfl ?_
      refine mA rfl rfl ?_
      intro a henv
      refine seq_step rfl (op_call henv rfl Tryd.call18 rfl (sp_join_arg hbad) ?_)
      rintro e w78 ⟨rfl, hb⟩
      refine ⟨_, rfl, ?_⟩
      clear henv a; intro a henv
      replace hst := hst.call hb
      clear hb
      revert a
      refine mA rfl rfl ?_
      refine sA (v := .slice none 0 0) rfl (fun _ henv => rn_extract henv rfl rfl) ?_
      refine sA (v := .int .i64 2) rfl (fun _ henv => rn_extract henv rfl rfl) ?_
      refine aA rfl rfl ?_
      refine aA rfl rfl ?_
      intro a henv
      refine wpList_nil ?_
      refine th_n ?_
      refine wp_seq ?_
      refine wp_block ?_
      refine wp_seq ?_
      refine region_seq ?_
      revert a
      refine mA rfl rfl ?_
      refine sA (v := .bool (decide (k < (1 : Int)))) rfl (fun _ henv => rn_bin henv rfl rfl rfl) ?_
      refine mA rfl rfl ?_
      intro a henv
      rcases bool_em (decide (k < (1 : Int))) with hg79 | hg79
      · rw [hg79] at henv
        have hx80 := of_decide_eq_true hg79
        revert a
        refine kA rfl rfl rfl rfl rfl ?_
        refine kA rfl rfl rfl rfl rfl ?_
        refine sA (v := .bool true) rfl (fun _ henv => rn_pick henv rfl rfl) ?_
        refine mA rfl rfl ?_
        refine kA rfl rfl rfl rfl rfl ?_
        refine kA rfl rfl rfl rfl rfl ?_
        refine sA (v := .bool true) rfl (fun _ henv => rn_pick henv rfl rfl) ?_
        refine mA rfl rfl ?_
        refine kA rfl rfl rfl rfl rfl ?_
        refine kA rfl rfl rfl rfl rfl ?_
        refine sA (v := .bool true) rfl (fun _ henv => rn_pick henv rfl rfl) ?_
        refine aA rfl rfl ?_
        intro a henv
        refine wpList_nil ?_
        refine th_n ?_
        refine if_t henv rfl (rfl) ?_
        refine wp_seq ?_
        refine region_seq ?_
        revert a
        refine mA rfl rfl ?_
        refine sA (v := .bool true) rfl (fun _ henv => rn_nilS (A := none) henv Tryd.underlying24 rfl) ?_
        refine mA rfl rfl ?_
        refine gA (v := .int .i64 2) rfl rfl rfl rfl (fun _ henv => rn_move henv rfl) ?_
        refine gA (v := .bool true) rfl rfl rfl rfl (fun _ henv => rn_bin henv rfl rfl rfl) ?_
        refine sA (v := .bool true) rfl (fun _ henv => rn_pick henv rfl rfl) ?_
        refine aA rfl rfl ?_
        intro a henv
        refine wpList_nil ?_
        refine th_n ?_
        refine wp_ret ?_
        refine bl_r (th_r ?_)
        refine leave henv (res1 Tryd.results4 (RV.tmp henv rfl)) ?_
        exact ⟨rfl, hst.below⟩
      · rw [hg79] at henv
        have hx81 := of_decide_eq_false hg79
        revert a
        refine gA (v := .int .i64 k) rfl rfl rfl rfl (fun _ henv => rn_move henv rfl) ?_
        refine gA (v := .bool (decide (k > (4096 : Int)))) rfl rfl rfl rfl (fun _ henv => rn_bin henv rfl rfl rfl) ?_
        refine sA (v := .bool (decide (k > (4096 : Int)))) rfl (fun _ henv => rn_pick henv rfl rfl) ?_
        refine mA rfl rfl ?_
        intro a henv
        rcases bool_em (decide (k > (4096 : Int))) with hg82 | hg82
        · rw [hg82] at henv
          have hx83 := of_decide_eq_true hg82
          revert a
          refine kA rfl rfl rfl rfl rfl ?_
          refine kA rfl rfl rfl rfl rfl ?_
          refine sA (v := .bool true) rfl (fun _ henv => rn_pick henv rfl rfl) ?_
          refine mA rfl rfl ?_
          refine kA rfl rfl rfl rfl rfl ?_
          refine kA rfl rfl rfl rfl rfl ?_
          refine sA (v := .bool true) rfl (fun _ henv => rn_pick henv rfl rfl) ?_
          refine aA rfl rfl ?_
          intro a henv
          refine wpList_nil ?_
          refine th_n ?_
          refine if_t henv rfl (rfl) ?_
          refine wp_seq ?_
          refine region_seq ?_
          revert a
          refine mA rfl rfl ?_
          refine sA (v := .bool true) rfl (fun _ henv => rn_nilS (A := none) henv Tryd.underlying24 rfl) ?_
          refine mA rfl rfl ?_
          refine gA (v := .int .i64 2) rfl rfl rfl rfl (fun _ henv => rn_move henv rfl) ?_
          refine gA (v := .bool true) rfl rfl rfl rfl (fun _ henv => rn_bin henv rfl rfl rfl) ?_
          refine sA (v := .bool true) rfl (fun _ henv => rn_pick henv rfl rfl) ?_
          refine aA rfl rfl ?_
          intro a henv
          refine wpList_nil ?_
          refine th_n ?_
          refine wp_ret ?_
          refine bl_r (th_r ?_)
          refine leave henv (res1 Tryd.results4 (RV.tmp henv rfl)) ?_
          exact ⟨rfl, hst.below⟩
        · rw [hg82] at henv
          have hx84 := of_decide_eq_false hg82
          revert a
          refine gA (v := .int .i64 m) rfl rfl rfl rfl (fun _ henv => rn_move henv rfl) ?_
          refine gA (v := .bool (decide (m < (0 : Int)))) rfl rfl rfl rfl (fun _ henv => rn_bin henv rfl rfl rfl) ?_
          refine sA (v := .bool (decide (m < (0 : Int)))) rfl (fun _ henv => rn_pick henv rfl rfl) ?_
          refine mA rfl rfl ?_
          intro a henv
          rcases bool_em (decide (m < (0 : Int))) with hg85 | hg85
          · rw [hg85] at henv
            have hx86 := of_decide_eq_true hg85
            revert a
            refine kA rfl rfl rfl rfl rfl ?_
            refine kA rfl rfl rfl rfl rfl ?_
            refine sA (v := .bool true) rfl (fun _ henv => rn_pick henv rfl rfl) ?_
            refine aA rfl rfl ?_
            intro a henv
            refine wpList_nil ?_
            refine th_n ?_
            refine if_t henv rfl (rfl) ?_
            refine wp_seq ?_
            refine region_seq ?_
            revert a
            refine mA rfl rfl ?_
            refine sA (v := .bool true) rfl (fun _ henv => rn_nilS (A := none) henv Tryd.underlying24 rfl) ?_
            refine mA rfl rfl ?_
            refine gA (v := .int .i64 2) rfl rfl rfl rfl (fun _ henv => rn_move henv rfl) ?_
            refine gA (v := .bool true) rfl rfl rfl rfl (fun _ henv => rn_bin henv rfl rfl rfl) ?_
            refine sA (v := .bool true) rfl (fun _ henv => rn_pick henv rfl rfl) ?_
            refine aA rfl rfl ?_
            intro a henv
            refine wpList_nil ?_
            refine th_n ?_
            refine wp_ret ?_
            refine bl_r (th_r ?_)
            refine leave henv (res1 Tryd.results4 (RV.tmp henv rfl)) ?_
            exact ⟨rfl, hst.below⟩
          · rw [hg85] at henv
            have hx87 := of_decide_eq_false hg85
            revert a
            refine gA (v := .int .i64 m) rfl rfl rfl rfl (fun _ henv => rn_move henv rfl) ?_
            refine gA (v := .bool (decide (m > (8192 : Int)))) rfl rfl rfl rfl (fun _ henv => rn_bin henv rfl rfl rfl) ?_
            refine sA (v := .bool (decide (m > (8192 : Int)))) rfl (fun _ henv => rn_pick henv rfl rfl) ?_
            refine aA rfl rfl ?_
            intro a henv
            refine wpList_nil ?_
            refine th_n ?_
            refine if_split henv rfl (fun hc88 => ?_) (fun hc88 => ?_)
            · have hx89 := of_decide_eq_true hc88
              refine wp_seq ?_
              refine region_seq ?_
              revert a
              refine mA rfl rfl ?_
              refine sA (v := .bool true) rfl (fun _ henv => rn_nilS (A := none) henv Tryd.underlying24 rfl) ?_
              refine mA rfl rfl ?_
              refine gA (v := .int .i64 2) rfl rfl rfl rfl (fun _ henv => rn_move henv rfl) ?_
              refine gA (v := .bool true) rfl rfl rfl rfl (fun _ henv => rn_bin henv rfl rfl rfl) ?_
              refine sA (v := .bool true) rfl (fun _ henv => rn_pick henv rfl rfl) ?_
              refine aA rfl rfl ?_
              intro a henv
              refine wpList_nil ?_
              refine th_n ?_
              refine wp_ret ?_
              refine bl_r (th_r ?_)
              refine leave henv (res1 Tryd.results4 (RV.tmp henv rfl)) ?_
              exact ⟨rfl, hst.below⟩
            · have hx9 := of_decide_eq_false hc88
              exfalso; omega
set_option maxRecDepth 100000 in
set_option maxHeartbeats 8000000 in
theorem joins_many {A0 : Option Addr} {n0 c0 : Nat} {es0 : List TE} {k m : Int} {w0 : World} (h0 : (pfRow fT FT 1 A0 n0 c0 es0).P w0) (hI : ∀ v ∈ es0, I64 v.2.2.2) (hs : ∀ v ∈ es0, v.2.1 ≤ 35184372088832) (hn : n0 ≤ 100) (htot : totN es0 n0 ≤ 400) (hk1 : 1 ≤ k) (hk4 : k ≤ 4096) (hm0 : 0 ≤ m) (hm8 : m ≤ 8192) (hn15 : 15 < n0) :
    Calls Tryd.prog 4 #[.slice A0 n0 c0, .int .i64 k, .int .i64 m] w0 fun e w' => e = .returned (.bool true) ∧ Below w0.heap.size w0 w' := by
  refine enter Tryd.func4 rfl Tryd.ntmps4 rfl ?_
  intro a henv hst
  have hlen0 := h0.2.1
  have hbig0 := Nat.le_trans h0.1.cap h0.1.big
  unfold maxLen at hbig0
  replace hst := hst.argRow h0
  clear h0
  refine wp_seq ?_
  refine region_seq ?_
  refine sv (v := .bool false) henv rfl (rn_assign henv rfl) ?_
  clear henv a; intro a henv
  refine wpList_nil ?_
  refine th_n ?_
  refine wp_seq ?_
  refine wp_seq ?_
  refine region_seq ?_
  refine seq_step rfl (op_call henv rfl Tryd.call10 rfl l_works ?_)
  rintro e w51 ⟨rfl, hb⟩
  refine ⟨_, rfl, ?_⟩
  clear henv a; intro a henv
  replace hst := hst.call hb
  clear hb
  refine sv (v := .bool false) henv rfl (rn_un henv rfl rfl) ?_
  clear henv a; intro a henv
  refine wpList_nil ?_
  refine th_n ?_
  refine if_f henv rfl (rfl) ?_
  refine wp_skip ?_
  refine th_n ?_
  refine wp_seq ?_
  refine region_seq ?_
  refine sv (v := .int .i64 0) henv rfl (rn_assign henv rfl) ?_
  clear henv a; intro a henv
  refine wpList_nil ?_
  refine th_n ?_
  refine wp_seq ?_
  refine wp_seq ?_
  refine region_seq ?_
  revert a
  refine mA rfl rfl ?_
  refine sA (v := .int .i64 (n0 : Nat)) rfl (fun _ henv => rn_len henv Tryd.underlying42 rfl) ?_
  refine mA rfl rfl ?_
  intro a henv
  refine wpList_nil ?_
  refine th_n ?_
  refine wp_block ?_
  refine wp_loop_ghost (fun mz a w => ∃ j : Nat, ∃ s : Nat, n0 - j = mz ∧ Env 127 a [(0, .slice A0 n0 c0), (1, .int .i64 k), (2, .int .i64 m), (7, .int .i64 (s : Nat)), (20, .slice A0 n0 c0), (21, .int .i64 (n0 : Nat)), (22, .int .i64 (j : Nat))] ∧ St w0 w [] [pfRow fT FT 1 A0 n0 c0 es0] ∧ j ≤ n0 ∧ s = totN es0 j ∧ s ≤ j * 35184372088832) _ ⟨0, 0, rfl, henv.sub ⟨rfl, rfl, rfl, rfl, rfl, rfl, rfl, trivial⟩, hst.pick [] [0] (by decide), (Nat.zero_le _), rfl, (Nat.zero_le _)⟩ ?_
  clear henv hst a
  rintro mz a w52 ⟨j, s, rfl, henv, hst, hj, hs7, htb⟩
  refine wp_seq ?_
  refine region_seq ?_
  refine sv (v := .bool (decide (((j : Nat) : Int) < ((n0 : Nat) : Int)))) henv rfl (rn_bin henv rfl rfl rfl) ?_
  clear henv a; intro a henv
  refine wpList_nil ?_
  refine th_n ?_
  refine wp_seq ?_
  refine if_split henv rfl (fun hc53 => ?_) (fun hc53 => ?_)
  · have hlt : j < n0 := by have := of_decide_eq_true hc53; omega
    obtain ⟨⟨A, n, c, xs⟩, he0⟩ : ∃ e, es0[j]? = some e := ⟨_, List.getElem?_eq_getElem (by omega)⟩
    replace hst := hst.elem (k := 0) rfl he0
    replace hst : St w0 _ [] [pfRow fI FI 1 A n c xs, pfRow fT FT 1 A0 n0 c0 es0] := hst
    have hn45 : n ≤ 35184372088832 := hs _ (List.mem_of_getElem? he0)
    refine wp_skip ?_
    refine th_n ?_
    refine wp_seq ?_
    refine wp_block ?_
    refine wp_seq ?_
    refine region_seq ?_
    revert a
    refine sA (v := .pointer (some ⟨ab A0, ao A0 + j * 1, none⟩)) rfl (fun _ henv => rn_idxR (i := j) henv Tryd.underlying42 (ty__int64.size) rfl rfl (by omega) rfl (show (pfRow fT FT 1 A0 n0 c0 es0).P _ from (hst.pat (k := 1) rfl)).1) ?_
    refine sA (v := .slice A n c) rfl (fun _ henv => rn_loadE1 (i := j) (j := 0) (e := (A, n, c, xs)) henv ty__int64 rfl rfl fT_len (by decide) (show (pfRow fT FT 1 A0 n0 c0 es0).P _ from (hst.pat (k := 1) rfl)).1 (by omega) he0 rfl) ?_
    refine aA rfl rfl ?_
    intro a henv
    refine wpList_nil ?_
    refine th_n ?_
    refine region_seq ?_
    revert a
    refine mA rfl rfl ?_
    refine mA rfl rfl ?_
    refine sA (v := .int .i64 (n : Nat)) rfl (fun _ henv => rn_len henv Tryd.underlying22 rfl) ?_
    refine sA (v := .int .i64 (s + n : Nat)) rfl (fun _ henv => rn_add henv rfl rfl (by rw [IntWalk.i64_in _ (by omega)]; omega)) ?_
    refine aA rfl rfl ?_
    intro a henv
    refine wpList_nil ?_
    refine bl_n (th_n ?_)
    refine region_seq ?_
    revert a
    refine sA (v := .int .i64 (j + 1 : Nat)) rfl (fun _ henv => rn_add henv rfl rfl (by rw [IntWalk.i64_in _ (by omega)]; omega)) ?_
    refine mA rfl rfl ?_
    intro a henv
    refine wpList_nil ?_
    exact th_n ⟨_, (by omega), ⟨j + 1, s + n, rfl, henv.sub ⟨rfl, rfl, rfl, rfl, rfl, rfl, rfl, trivial⟩, hst.pick [] [1] (by decide), (by omega), (by rw [totN, tot_at he0, hs7]), (by rw [Nat.succ_mul]; omega)⟩⟩
  · obtain rfl : n0 = j := by have := of_decide_eq_false hc53; omega
    refine wp_exit ?_
    refine th_x (th_x (bl_x (th_n ?_)))
    refine wp_seq ?_
    refine wp_seq ?_
    refine region_seq ?_
    revert a
    refine mA rfl rfl ?_
    refine sA (v := .bool (decide (((s : Nat) : Int) > (400 : Int)))) rfl (fun _ henv => rn_bin henv rfl rfl rfl) ?_
    intro a henv
    rw [show (decide (((s : Nat) : Int) > (400 : Int))) = false from (decide_eq_false (by omega))] at henv
    revert a
    refine mA rfl rfl ?_
    refine gA (v := .slice A0 n0 c0) rfl rfl rfl rfl (fun _ henv => rn_move henv rfl) ?_
    refine gA (v := .int .i64 (n0 : Nat)) rfl rfl rfl rfl (fun _ henv => rn_len henv Tryd.underlying42 rfl) ?_
    refine gA (v := .bool (decide (((n0 : Nat) : Int) > (100 : Int)))) rfl rfl rfl rfl (fun _ henv => rn_bin henv rfl rfl rfl) ?_
    intro a henv
    rw [show (decide (((n0 : Nat) : Int) > (100 : Int))) = false from (decide_eq_false (by omega))] at henv
    refine sv (v := .bool false) henv rfl (rn_pick henv rfl rfl) ?_
    clear henv a; intro a henv
    refine wpList_nil ?_
    refine th_n ?_
    refine if_f henv rfl (rfl) ?_
    refine wp_skip ?_
    refine th_n ?_
    refine wp_seq ?_
    refine region_seq ?_
    refine sv (v := .slice none 0 0) henv rfl (rn_assign henv rfl) ?_
    clear henv a; intro a henv
    refine wpList_nil ?_
    refine th_n ?_
    refine wp_seq ?_
    refine region_seq ?_
    refine sv (v := .slice none 0 0) henv rfl (rn_assign henv rfl) ?_
    clear henv a; intro a henv
    refine wpList_nil ?_
    refine th_n ?_
    refine wp_seq ?_
    refine wp_seq ?_
    refine region_seq ?_
    revert a
    refine mA rfl rfl ?_
    refine sA (v := .int .i64 (n0 : Nat)) rfl (fun _ henv => rn_len henv Tryd.underlying42 rfl) ?_
    refine mA rfl rfl ?_
    intro a henv
    refine wpList_nil ?_
    refine th_n ?_
    refine wp_block ?_
    replace hst := (hst.addRowS notU 24 1).nilEs FL
    replace hst : St w0 _ [rowS notU 24 1 none 0 0 (fl fL ([]))] [pfEs FL ([]), pfRow fT FT 1 A0 n0 c0 es0] := hst
    replace hst := (hst.addRowS notU 33 1).nilEs FQ
    replace hst : St w0 _ [rowS notU 33 1 none 0 0 (fl fQ ([])), rowS notU 24 1 none 0 0 (fl fL ([]))] [pfEs FQ ([]), pfEs FL ([]), pfRow fT FT 1 A0 n0 c0 es0] := hst
    refine wp_loop_ghost (fun mz a w => ∃ j : Nat, ∃ B1 : Option Addr, ∃ d1 : Nat, ∃ os : List LE, ∃ B2 : Option Addr, ∃ d2 : Nat, ∃ qs : List LE, n0 - j = mz ∧ Env 127 a [(0, .slice A0 n0 c0), (1, .int .i64 k), (2, .int .i64 m), (10, .slice B1 j d1), (11, .slice B2 j d2), (38, .slice A0 n0 c0), (39, .int .i64 (n0 : Nat)), (40, .int .i64 (j : Nat))] ∧ St w0 w [rowS notU 33 1 B2 j d2 (fl fQ qs), rowS notU 24 1 B1 j d1 (fl fL os)] [pfEs FQ qs, pfEs FL os, pfRow fT FT 1 A0 n0 c0 es0] ∧ j ≤ n0 ∧ os.map lz = (es0.map lt).take j ∧ qs.map lz = (es0.map lt).take j ∧ (∀ v ∈ os, v.2.1 ≤ 400) ∧ (∀ v ∈ qs, v.2.1 ≤ 400)) _ ⟨0, none, 0, [], none, 0, [], rfl, henv.sub ⟨rfl, rfl, rfl, rfl, rfl, rfl, rfl, rfl, trivial⟩, hst.pick [0, 1] [0, 1, 2] (by decide), (Nat.zero_le _), rfl, rfl, (fun _ h => by cases h), (fun _ h => by cases h)⟩ ?_
    clear henv hst a
    rintro mz a w54 ⟨j, B1, d1, os, B2, d2, qs, rfl, henv, hst, hj, ho, hp, hol, hql⟩
    refine wp_seq ?_
    refine region_seq ?_
    refine sv (v := .bool (decide (((j : Nat) : Int) < ((n0 : Nat) : Int)))) henv rfl (rn_bin henv rfl rfl rfl) ?_
    clear henv a; intro a henv
    refine wpList_nil ?_
    refine th_n ?_
    refine wp_seq ?_
    refine if_split henv rfl (fun hc55 => ?_) (fun hc55 => ?_)
    · have hlt : j < n0 := by have := of_decide_eq_true hc55; omega
      obtain ⟨⟨A, n, c, xs⟩, he0⟩ : ∃ e, es0[j]? = some e := ⟨_, List.getElem?_eq_getElem (by omega)⟩
      replace hst := hst.elem (k := 2) rfl he0
      replace hst : St w0 _ [rowS notU 33 1 B2 j d2 (fl fQ qs), rowS notU 24 1 B1 j d1 (fl fL os)] [pfRow fI FI 1 A n c xs, pfEs FQ qs, pfEs FL os, pfRow fT FT 1 A0 n0 c0 es0] := hst
      have hn45 : n ≤ 35184372088832 := hs _ (List.mem_of_getElem? he0)
      have hn4 : n ≤ 400 := Nat.le_trans (tot_le hlt he0) htot
      refine wp_skip ?_
      refine th_n ?_
      refine wp_seq ?_
      refine wp_block ?_
      refine wp_seq ?_
      refine region_seq ?_
      revert a
      refine sA (v := .pointer (some ⟨ab A0, ao A0 + j * 1, none⟩)) rfl (fun _ henv => rn_idxR (i := j) henv Tryd.underlying42 (ty__int64.size) rfl rfl (by omega) rfl (show (pfRow fT FT 1 A0 n0 c0 es0).P _ from (hst.pat (k := 3) rfl)).1) ?_
      refine sA (v := .slice A n c) rfl (fun _ henv => rn_loadE1 (i := j) (j := 0) (e := (A, n, c, xs)) henv ty__int64 rfl rfl fT_len (by decide) (show (pfRow fT FT 1 A0 n0 c0 es0).P _ from (hst.pat (k := 3) rfl)).1 (by omega) he0 rfl) ?_
      refine aA rfl rfl ?_
      intro a henv
      refine wpList_nil ?_
      refine th_n ?_
      refine region_seq ?_
      revert a
      refine mA rfl rfl ?_
      refine mA rfl rfl ?_
      intro a henv
      refine seq_step rfl (op_call henv rfl Tryd.call11 rfl (l_list (es0 := xs) (hst.pat (k := 0) rfl) (hI _ (List.mem_of_getElem? he0)) (by omega)) ?_)
      rintro e w61 ⟨_, rfl, ⟨A56, c57, es58, rfl, hr, hl59, hz60⟩, hb⟩
      refine ⟨_, rfl, ?_⟩
      clear henv a; intro a henv
      replace hst := hst.freshRd hb hr hl59 (ap_N hr.2.1 ⟨nou_rowS, nou_rowS, trivial⟩)
      clear hr
      clear hb
      refine seq_step rfl (op_buildSlice (z := 1) (pv := #[(0, .slice A56 n c57)]) (c := #[.slice A56 n c57]) henv hst rfl Tryd.underlying26 (ty__integer_Int.size) zero__integer_Int (by decide) (by decide) rfl (by kernel_rfl) ?_)
      clear henv hst a; intro a w63 g62 henv hst
      refine seq_step rfl (op_appendS (k := 2) (j := 0) henv hst rfl Tryd.underlying26 inf__integer_Int rfl rfl rfl rfl rfl rfl rfl rfl rfl rfl rfl (by unfold maxLen; omega) (by omega) ?_)
      clear henv hst a; intro a w66 g64 c65 henv hst
      rw [show fl fL os ++ (#[.slice A56 n c57] : Array Value).toList = fl fL (os ++ [((A56 : Option Addr), n, c57, es58)]) from fl_snoc (f := fL) os ((A56 : Option Addr), n, c57, es58)] at hst
      replace hst := hst.snocEs (e := ((A56 : Option Addr), n, c57, es58)) (i := 3) (j := 0) rfl rfl
      revert a
      refine mA rfl rfl ?_
      refine mA rfl rfl ?_
      intro a henv
      refine seq_step rfl (op_call henv rfl Tryd.call15 rfl (l_ref (es0 := xs) (hst.pat (k := 2) rfl) (hI _ (List.mem_of_getElem? he0)) (by omega)) ?_)
      rintro e w72 ⟨_, rfl, ⟨A67, c68, es69, rfl, hr, hl70, hz71⟩, hb⟩
      refine ⟨_, rfl, ?_⟩
      clear henv a; intro a henv
      replace hst := hst.freshRd hb hr hl70 (ap_M hr.2.1 ⟨nou_bk rfl, nou_rowS, nou_rowS, trivial⟩)
      clear hr
      clear hb
      refine seq_step rfl (op_buildSlice (z := 1) (pv := #[(0, .slice A67 n c68)]) (c := #[.slice A67 n c68]) henv hst rfl Tryd.underlying31 (ty_anvil_anvilref20_Poly.size) zero_anvil_anvilref20_Poly (by decide) (by decide) rfl (by kernel_rfl) ?_)
      clear henv hst a; intro a w74 g73 henv hst
      refine seq_step rfl (op_appendS (k := 2) (j := 0) henv hst rfl Tryd.underlying31 inf_anvil_anvilref20_Poly rfl rfl rfl rfl rfl rfl rfl rfl rfl rfl rfl (by unfold maxLen; omega) (by omega) ?_)
      clear henv hst a; intro a w77 g75 c76 henv hst
      rw [show fl fQ qs ++ (#[.slice A67 n c68] : Array Value).toList = fl fQ (qs ++ [((A67 : Option Addr), n, c68, es69)]) from fl_snoc (f := fQ) qs ((A67 : Option Addr), n, c68, es69)] at hst
      replace hst := hst.snocEs (e := ((A67 : Option Addr), n, c68, es69)) (i := 4) (j := 0) rfl rfl
      revert a
      refine aA rfl rfl ?_
      refine aA rfl rfl ?_
      intro a henv
      refine wpList_nil ?_
      refine bl_n (th_n ?_)
      refine region_seq ?_
      revert a
      refine sA (v := .int .i64 (j + 1 : Nat)) rfl (fun _ henv => rn_add henv rfl rfl (by rw [IntWalk.i64_in _ (by omega)]; omega)) ?_
      refine mA rfl rfl ?_
      intro a henv
      refine wpList_nil ?_
      exact th_n ⟨_, (by omega), ⟨j + 1, (some ⟨g64, 0, none⟩), c65, (os ++ [((A56 : Option Addr), n, c57, es58)]), (some ⟨g75, 0, none⟩), c76, (qs ++ [((A67 : Option Addr), n, c68, es69)]), rfl, henv.sub ⟨rfl, rfl, rfl, rfl, rfl, rfl, rfl, rfl, trivial⟩, hst.pick [2, 3] [0, 2, 7] (by decide), (by omega), (lt_step ho he0 hz60), (lt_step hp he0 hz71), (le_snoc hol (by omega)), (le_snoc hql (by omega))⟩⟩
    · obtain rfl : n0 = j := by have := of_decide_eq_false hc55; omega
      refine wp_exit ?_
      refine th_x (th_x (bl_x (th_n ?_)))
      refine wp_seq ?_
      have htk : (es0.map lt).take n0 = es0.map lt := List.take_of_length_le (by rw [List.length_map]; omega)
      rw [htk] at ho hp
      have hol1 : os.length = n0 := map_len ho (by rw [List.length_map]; exact hlen0)
      have hql1 : qs.length = n0 := map_len hp (by rw [List.length_map]; exact hlen0)
      replace hst := hst.giveRow (k := 1) (j := 1) rfl rfl hol1
      replace hst : St w0 _ [rowS notU 33 1 B2 n0 d2 (fl fQ qs)] [pfRow fL FL 1 B1 n0 d1 os, pfRd 1 B1 n0 d1 (fl fL os), pfEs FQ qs, pfEs FL os, pfRow fT FT 1 A0 n0 c0 es0] := hst
      replace hst := hst.giveRow (k := 0) (j := 2) rfl rfl hql1
      replace hst : St w0 _ [] [pfRow fQ FQ 1 B2 n0 d2 qs, pfRd 1 B2 n0 d2 (fl fQ qs), pfRow fL FL 1 B1 n0 d1 os, pfRd 1 B1 n0 d1 (fl fL os), pfEs FQ qs, pfEs FL os, pfRow fT FT 1 A0 n0 c0 es0] := hst
      refine region_seq ?_
      revert a
      refine mA rfl rfl ?_
      refine mA rfl rfl ?_
      refine mA rfl rfl ?_
      intro a henv
      refine seq_step rfl (op_call henv rfl Tryd.call18 rfl (sp_join_many hk1 hk4 hm0 hm8 hn15) ?_)
      rintro e w78 ⟨rfl, hb⟩
      refine ⟨_, rfl, ?_⟩
      clear henv a; intro a henv
      replace hst := hst.call hb
      clear hb
      revert a
      refine mA rfl rfl ?_
      refine sA (v := .slice none 0 0) rfl (fun _ henv => rn_extract henv rfl rfl) ?_
      refine sA (v := .int .i64 3) rfl (fun _ henv => rn_extract henv rfl rfl) ?_
      refine aA rfl rfl ?_
      refine aA rfl rfl ?_
      intro a henv
      refine wpList_nil ?_
      refine th_n ?_
      refine wp_seq ?_
      refine wp_block ?_
      refine wp_seq ?_
      refine region_seq ?_
      revert a
      refine mA rfl rfl ?_
      refine sA (v := .bool (decide (k < (1 : Int)))) rfl (fun _ henv => rn_bin henv rfl rfl rfl) ?_
      intro a henv
      rw [show (decide (k < (1 : Int))) = false from (decide_eq_false (by omega))] at henv
      revert a
      refine mA rfl rfl ?_
      refine gA (v := .int .i64 k) rfl rfl rfl rfl (fun _ henv => rn_move henv rfl) ?_
      refine gA (v := .bool (decide (k > (4096 : Int)))) rfl rfl rfl rfl (fun _ henv => rn_bin henv rfl rfl rfl) ?_
      intro a henv
      rw [show (decide (k > (4096 : Int))) = false from (decide_eq_false (by omega))] at henv
      revert a
      refine sA (v := .bool false) rfl (fun _ henv => rn_pick henv rfl rfl) ?_
      refine mA rfl rfl ?_
      refine gA (v := .int .i64 m) rfl rfl rfl rfl (fun _ henv => rn_move henv rfl) ?_
      refine gA (v := .bool (decide (m < (0 : Int)))) rfl rfl rfl rfl (fun _ henv => rn_bin henv rfl rfl rfl) ?_
      intro a henv
      rw [show (decide (m < (0 : Int))) = false from (decide_eq_false (by omega))] at henv
      revert a
      refine sA (v := .bool false) rfl (fun _ henv => rn_pick henv rfl rfl) ?_
      refine mA rfl rfl ?_
      refine gA (v := .int .i64 m) rfl rfl rfl rfl (fun _ henv => rn_move henv rfl) ?_
      refine gA (v := .bool (decide (m > (8192 : Int)))) rfl rfl rfl rfl (fun _ henv => rn_bin henv rfl rfl rfl) ?_
      intro a henv
      rw [show (decide (m > (8192 : Int))) = false from (decide_eq_false (by omega))] at henv
      revert a
      refine sA (v := .bool false) rfl (fun _ henv => rn_pick henv rfl rfl) ?_
      refine aA rfl rfl ?_
      intro a henv
      refine wpList_nil ?_
      refine th_n ?_
      refine if_f henv rfl (rfl) ?_
      refine wp_seq ?_
      refine region_seq ?_
      revert a
      refine mA rfl rfl ?_
      refine sA (v := .int .i64 (n0 : Nat)) rfl (fun _ henv => rn_len henv Tryd.underlying42 rfl) ?_
      refine sA (v := .bool (decide (((n0 : Nat) : Int) > (15 : Int)))) rfl (fun _ henv => rn_bin henv rfl rfl rfl) ?_
      intro a henv
      rw [show (decide (((n0 : Nat) : Int) > (15 : Int))) = true from (decide_eq_true (by omega))] at henv
      refine sv (v := .bool true) henv rfl (rn_assign henv rfl) ?_
      clear henv a; intro a henv
      refine wpList_nil ?_
      refine th_n ?_
      refine if_t henv rfl (rfl) ?_
      refine wp_seq ?_
      refine region_seq ?_
      revert a
      refine mA rfl rfl ?_
      refine sA (v := .bool true) rfl (fun _ henv => rn_nilS (A := none) henv Tryd.underlying24 rfl) ?_
      refine mA rfl rfl ?_
      refine gA (v := .int .i64 3) rfl rfl rfl rfl (fun _ henv => rn_move henv rfl) ?_
      refine gA (v := .bool true) rfl rfl rfl rfl (fun _ henv => rn_bin henv rfl rfl rfl) ?_
      refine sA (v := .bool true) rfl (fun _ henv => rn_pick henv rfl rfl) ?_
      refine aA rfl rfl ?_
      intro a henv
      refine wpList_nil ?_
      refine th_n ?_
      refine wp_ret ?_
      refine bl_r (th_r ?_)
      refine leave henv (res1 Tryd.results4 (RV.tmp henv rfl)) ?_
      exact ⟨rfl, hst.below⟩
set_option maxRecDepth 100000 in
set_option maxHeartbeats 8000000 in
theorem joins_bad {A0 : Option Addr} {n0 c0 : Nat} {es0 : List TE} {k m : Nat} {w0 : World} (h0 : (pfRow fT FT 1 A0 n0 c0 es0).P w0) (hI : ∀ v ∈ es0, I64 v.2.2.2) (hs : ∀ v ∈ es0, v.2.1 ≤ 35184372088832) (hn : n0 ≤ 100) (htot : totN es0 n0 ≤ 400) (hk1 : 1 ≤ k) (hk4 : k ≤ 4096) (hm8 : m ≤ 8192) (hn15 : n0 ≤ 15) (hdg : m < degN (jnN (es0.map lt) k (szN (es0.map lt) k m n0) n0)) :
    Calls Tryd.prog 4 #[.slice A0 n0 c0, .int .i64 (k : Nat), .int .i64 (m : Nat)] w0 fun e w' => e = .returned (.bool true) ∧ Below w0.heap.size w0 w' := by
  refine enter Tryd.func4 rfl Tryd.ntmps4 rfl ?_
  intro a henv hst
  have hlen0 := h0.2.1
  have hbig0 := Nat.le_trans h0.1.cap h0.1.big
  unfold maxLen at hbig0
  replace hst := hst.argRow h0
  clear h0
  refine wp_seq ?_
  refine region_seq ?_
  refine sv (v := .bool false) henv rfl (rn_assign henv rfl) ?_
  clear henv a; intro a henv
  refine wpList_nil ?_
  refine th_n ?_
  refine wp_seq ?_
  refine wp_seq ?_
  refine region_seq ?_
  refine seq_step rfl (op_call henv rfl Tryd.call10 rfl l_works ?_)
  rintro e w51 ⟨rfl, hb⟩
  refine ⟨_, rfl, ?_⟩
  clear henv a; intro a henv
  replace hst := hst.call hb
  clear hb
  refine sv (v := .bool false) henv rfl (rn_un henv rfl rfl) ?_
  clear henv a; intro a henv
  refine wpList_nil ?_
  refine th_n ?_
  refine if_f henv rfl (rfl) ?_
  refine wp_skip ?_
  refine th_n ?_
  refine wp_seq ?_
  refine region_seq ?_
  refine sv (v := .int .i64 0) henv rfl (rn_assign henv rfl) ?_
  clear henv a; intro a henv
  refine wpList_nil ?_
  refine th_n ?_
  refine wp_seq ?_
  refine wp_seq ?_
  refine region_seq ?_
  revert a
  refine mA rfl rfl ?_
  refine sA (v := .int .i64 (n0 : Nat)) rfl (fun _ henv => rn_len henv Tryd.underlying42 rfl) ?_
  refine mA rfl rfl ?_
  intro a henv
  refine wpList_nil ?_
  refine th_n ?_
  refine wp_block ?_
  refine wp_loop_ghost (fun mz a w => ∃ j : Nat, ∃ s : Nat, n0 - j = mz ∧ Env 127 a [(0, .slice A0 n0 c0), (1, .int .i64 (k : Nat)), (2, .int .i64 (m : Nat)), (7, .int .i64 (s : Nat)), (20, .slice A0 n0 c0), (21, .int .i64 (n0 : Nat)), (22, .int .i64 (j : Nat))] ∧ St w0 w [] [pfRow fT FT 1 A0 n0 c0 es0] ∧ j ≤ n0 ∧ s = totN es0 j ∧ s ≤ j * 35184372088832) _ ⟨0, 0, rfl, henv.sub ⟨rfl, rfl, rfl, rfl, rfl, rfl, rfl, trivial⟩, hst.pick [] [0] (by decide), (Nat.zero_le _), rfl, (Nat.zero_le _)⟩ ?_
  clear henv hst a
  rintro mz a w52 ⟨j, s, rfl, henv, hst, hj, hs7, htb⟩
  refine wp_seq ?_
  refine region_seq ?_
  refine sv (v := .bool (decide (((j : Nat) : Int) < ((n0 : Nat) : Int)))) henv rfl (rn_bin henv rfl rfl rfl) ?_
  clear henv a; intro a henv
  refine wpList_nil ?_
  refine th_n ?_
  refine wp_seq ?_
  refine if_split henv rfl (fun hc53 => ?_) (fun hc53 => ?_)
  · have hlt : j < n0 := by have := of_decide_eq_true hc53; omega
    obtain ⟨⟨A, n, c, xs⟩, he0⟩ : ∃ e, es0[j]? = some e := ⟨_, List.getElem?_eq_getElem (by omega)⟩
    replace hst := hst.elem (k := 0) rfl he0
    replace hst : St w0 _ [] [pfRow fI FI 1 A n c xs, pfRow fT FT 1 A0 n0 c0 es0] := hst
    have hn45 : n ≤ 35184372088832 := hs _ (List.mem_of_getElem? he0)
    refine wp_skip ?_
    refine th_n ?_
    refine wp_seq ?_
    refine wp_block ?_
    refine wp_seq ?_
    refine region_seq ?_
    revert a
    refine sA (v := .pointer (some ⟨ab A0, ao A0 + j * 1, none⟩)) rfl (fun _ henv => rn_idxR (i := j) henv Tryd.underlying42 (ty__int64.size) rfl rfl (by omega) rfl (show (pfRow fT FT 1 A0 n0 c0 es0).P _ from (hst.pat (k := 1) rfl)).1) ?_
    refine sA (v := .slice A n c) rfl (fun _ henv => rn_loadE1 (i := j) (j := 0) (e := (A, n, c, xs)) henv ty__int64 rfl rfl fT_len (by decide) (show (pfRow fT FT 1 A0 n0 c0 es0).P _ from (hst.pat (k := 1) rfl)).1 (by omega) he0 rfl) ?_
    refine aA rfl rfl ?_
    intro a henv
    refine wpList_nil ?_
    refine th_n ?_
    refine region_seq ?_
    revert a
    refine mA rfl rfl ?_
    refine mA rfl rfl ?_
    refine sA (v := .int .i64 (n : Nat)) rfl (fun _ henv => rn_len henv Tryd.underlying22 rfl) ?_
    refine sA (v := .int .i64 (s + n : Nat)) rfl (fun _ henv => rn_add henv rfl rfl (by rw [IntWalk.i64_in _ (by omega)]; omega)) ?_
    refine aA rfl rfl ?_
    intro a henv
    refine wpList_nil ?_
    refine bl_n (th_n ?_)
    refine region_seq ?_
    revert a
    refine sA (v := .int .i64 (j + 1 : Nat)) rfl (fun _ henv => rn_add henv rfl rfl (by rw [IntWalk.i64_in _ (by omega)]; omega)) ?_
    refine mA rfl rfl ?_
    intro a henv
    refine wpList_nil ?_
    exact th_n ⟨_, (by omega), ⟨j + 1, s + n, rfl, henv.sub ⟨rfl, rfl, rfl, rfl, rfl, rfl, rfl, trivial⟩, hst.pick [] [1] (by decide), (by omega), (by rw [totN, tot_at he0, hs7]), (by rw [Nat.succ_mul]; omega)⟩⟩
  · obtain rfl : n0 = j := by have := of_decide_eq_false hc53; omega
    refine wp_exit ?_
    refine th_x (th_x (bl_x (th_n ?_)))
    refine wp_seq ?_
    refine wp_seq ?_
    refine region_seq ?_
    revert a
    refine mA rfl rfl ?_
    refine sA (v := .bool (decide (((s : Nat) : Int) > (400 : Int)))) rfl (fun _ henv => rn_bin henv rfl rfl rfl) ?_
    intro a henv
    rw [show (decide (((s : Nat) : Int) > (400 : Int))) = false from (decide_eq_false (by omega))] at henv
    revert a
    refine mA rfl rfl ?_
    refine gA (v := .slice A0 n0 c0) rfl rfl rfl rfl (fun _ henv => rn_move henv rfl) ?_
    refine gA (v := .int .i64 (n0 : Nat)) rfl rfl rfl rfl (fun _ henv => rn_len henv Tryd.underlying42 rfl) ?_
    refine gA (v := .bool (decide (((n0 : Nat) : Int) > (100 : Int)))) rfl rfl rfl rfl (fun _ henv => rn_bin henv rfl rfl rfl) ?_
    intro a henv
    rw [show (decide (((n0 : Nat) : Int) > (100 : Int))) = false from (decide_eq_false (by omega))] at henv
    refine sv (v := .bool false) henv rfl (rn_pick henv rfl rfl) ?_
    clear henv a; intro a henv
    refine wpList_nil ?_
    refine th_n ?_
    refine if_f henv rfl (rfl) ?_
    refine wp_skip ?_
    refine th_n ?_
    refine wp_seq ?_
    refine region_seq ?_
    refine sv (v := .slice none 0 0) henv rfl (rn_assign henv rfl) ?_
    clear henv a; intro a henv
    refine wpList_nil ?_
    refine th_n ?_
    refine wp_seq ?_
    refine region_seq ?_
    refine sv (v := .slice none 0 0) henv rfl (rn_assign henv rfl) ?_
    clear henv a; intro a henv
    refine wpList_nil ?_
    refine th_n ?_
    refine wp_seq ?_
    refine wp_seq ?_
    refine region_seq ?_
    revert a
    refine mA rfl rfl ?_
    refine sA (v := .int .i64 (n0 : Nat)) rfl (fun _ henv => rn_len henv Tryd.underlying42 rfl) ?_
    refine mA rfl rfl ?_
    intro a henv
    refine wpList_nil ?_
    refine th_n ?_
    refine wp_block ?_
    replace hst := (hst.addRowS notU 24 1).nilEs FL
    replace hst : St w0 _ [rowS notU 24 1 none 0 0 (fl fL ([]))] [pfEs FL ([]), pfRow fT FT 1 A0 n0 c0 es0] := hst
    replace hst := (hst.addRowS notU 33 1).nilEs FQ
    replace hst : St w0 _ [rowS notU 33 1 none 0 0 (fl fQ ([])), rowS notU 24 1 none 0 0 (fl fL ([]))] [pfEs FQ ([]), pfEs FL ([]), pfRow fT FT 1 A0 n0 c0 es0] := hst
    refine wp_loop_ghost (fun mz a w => ∃ j : Nat, ∃ B1 : Option Addr, ∃ d1 : Nat, ∃ os : List LE, ∃ B2 : Option Addr, ∃ d2 : Nat, ∃ qs : List LE, n0 - j = mz ∧ Env 127 a [(0, .slice A0 n0 c0), (1, .int .i64 (k : Nat)), (2, .int .i64 (m : Nat)), (10, .slice B1 j d1), (11, .slice B2 j d2), (38, .slice A0 n0 c0), (39, .int .i64 (n0 : Nat)), (40, .int .i64 (j : Nat))] ∧ St w0 w [rowS notU 33 1 B2 j d2 (fl fQ qs), rowS notU 24 1 B1 j d1 (fl fL os)] [pfEs FQ qs, pfEs FL os, pfRow fT FT 1 A0 n0 c0 es0] ∧ j ≤ n0 ∧ os.map lz = (es0.map lt).take j ∧ qs.map lz = (es0.map lt).take j ∧ (∀ v ∈ os, v.2.1 ≤ 400) ∧ (∀ v ∈ qs, v.2.1 ≤ 400)) _ ⟨0, none, 0, [], none, 0, [], rfl, henv.sub ⟨rfl, rfl, rfl, rfl, rfl, rfl, rfl, rfl, trivial⟩, hst.pick [0, 1] [0, 1, 2] (by decide), (Nat.zero_le _), rfl, rfl, (fun _ h => by cases h), (fun _ h => by cases h)⟩ ?_
    clear henv hst a
    rintro mz a w54 ⟨j, B1, d1, os, B2, d2, qs, rfl, henv, hst, hj, ho, hp, hol, hql⟩
    refine wp_seq ?_
    refine region_seq ?_
    refine sv (v := .bool (decide (((j : Nat) : Int) < ((n0 : Nat) : Int)))) henv rfl (rn_bin henv rfl rfl rfl) ?_
    clear henv a; intro a henv
    refine wpList_nil ?_
    refine th_n ?_
    refine wp_seq ?_
    refine if_split henv rfl (fun hc55 => ?_) (fun hc55 => ?_)
    · have hlt : j < n0 := by have := of_decide_eq_true hc55; omega
      obtain ⟨⟨A, n, c, xs⟩, he0⟩ : ∃ e, es0[j]? = some e := ⟨_, List.getElem?_eq_getElem (by omega)⟩
      replace hst := hst.elem (k := 2) rfl he0
      replace hst : St w0 _ [rowS notU 33 1 B2 j d2 (fl fQ qs), rowS notU 24 1 B1 j d1 (fl fL os)] [pfRow fI FI 1 A n c xs, pfEs FQ qs, pfEs FL os, pfRow fT FT 1 A0 n0 c0 es0] := hst
      have hn45 : n ≤ 35184372088832 := hs _ (List.mem_of_getElem? he0)
      have hn4 : n ≤ 400 := Nat.le_trans (tot_le hlt he0) htot
      refine wp_skip ?_
      refine th_n ?_
      refine wp_seq ?_
      refine wp_block ?_
      refine wp_seq ?_
      refine region_seq ?_
      revert a
      refine sA (v := .pointer (some ⟨ab A0, ao A0 + j * 1, none⟩)) rfl (fun _ henv => rn_idxR (i := j) henv Tryd.underlying42 (ty__int64.size) rfl rfl (by omega) rfl (show (pfRow fT FT 1 A0 n0 c0 es0).P _ from (hst.pat (k := 3) rfl)).1) ?_
      refine sA (v := .slice A n c) rfl (fun _ henv => rn_loadE1 (i := j) (j := 0) (e := (A, n, c, xs)) henv ty__int64 rfl rfl fT_len (by decide) (show (pfRow fT FT 1 A0 n0 c0 es0).P _ from (hst.pat (k := 3) rfl)).1 (by omega) he0 rfl) ?_
      refine aA rfl rfl ?_
      intro a henv
      refine wpList_nil ?_
      refine th_n ?_
      refine region_seq ?_
      revert a
      refine mA rfl rfl ?_
      refine mA rfl rfl ?_
      intro a henv
      refine seq_step rfl (op_call henv rfl Tryd.call11 rfl (l_list (es0 := xs) (hst.pat (k := 0) rfl) (hI _ (List.mem_of_getElem? he0)) (by omega)) ?_)
      rintro e w61 ⟨_, rfl, ⟨A56, c57, es58, rfl, hr, hl59, hz60⟩, hb⟩
      refine ⟨_, rfl, ?_⟩
      clear henv a; intro a henv
      replace hst := hst.freshRd hb hr hl59 (ap_N hr.2.1 ⟨nou_rowS, nou_rowS, trivial⟩)
      clear hr
      clear hb
      refine seq_step rfl (op_buildSlice (z := 1) (pv := #[(0, .slice A56 n c57)]) (c := #[.slice A56 n c57]) henv hst rfl Tryd.underlying26 (ty__integer_Int.size) zero__integer_Int (by decide) (by decide) rfl (by kernel_rfl) ?_)
      clear henv hst a; intro a w63 g62 henv hst
      refine seq_step rfl (op_appendS (k := 2) (j := 0) henv hst rfl Tryd.underlying26 inf__integer_Int rfl rfl rfl rfl rfl rfl rfl rfl rfl rfl rfl (by unfold maxLen; omega) (by omega) ?_)
      clear henv hst a; intro a w66 g64 c65 henv hst
      rw [show fl fL os ++ (#[.slice A56 n c57] : Array Value).toList = fl fL (os ++ [((A56 : Option Addr), n, c57, es58)]) from fl_snoc (f := fL) os ((A56 : Option Addr), n, c57, es58)] at hst
      replace hst := hst.snocEs (e := ((A56 : Option Addr), n, c57, es58)) (i := 3) (j := 0) rfl rfl
      revert a
      refine mA rfl rfl ?_
      refine mA rfl rfl ?_
      intro a henv
      refine seq_step rfl (op_call henv rfl Tryd.call15 rfl (l_ref (es0 := xs) (hst.pat (k := 2) rfl) (hI _ (List.mem_of_getElem? he0)) (by omega)) ?_)
      rintro e w72 ⟨_, rfl, ⟨A67, c68, es69, rfl, hr, hl70, hz71⟩, hb⟩
      refine ⟨_, rfl, ?_⟩
      clear henv a; intro a henv
      replace hst := hst.freshRd hb hr hl70 (ap_M hr.2.1 ⟨nou_bk rfl, nou_rowS, nou_rowS, trivial⟩)
      clear hr
      clear hb
      refine seq_step rfl (op_buildSlice (z := 1) (pv := #[(0, .slice A67 n c68)]) (c := #[.slice A67 n c68]) henv hst rfl Tryd.underlying31 (ty_anvil_anvilref20_Poly.size) zero_anvil_anvilref20_Poly (by decide) (by decide) rfl (by kernel_rfl) ?_)
      clear henv hst a; intro a w74 g73 henv hst
      refine seq_step rfl (op_appendS (k := 2) (j := 0) henv hst rfl Tryd.underlying31 inf_anvil_anvilref20_Poly rfl rfl rfl rfl rfl rfl rfl rfl rfl rfl rfl (by unfold maxLen; omega) (by omega) ?_)
      clear henv hst a; intro a w77 g75 c76 henv hst
      rw [show fl fQ qs ++ (#[.slice A67 n c68] : Array Value).toList = fl fQ (qs ++ [((A67 : Option Addr), n, c68, es69)]) from fl_snoc (f := fQ) qs ((A67 : Option Addr), n, c68, es69)] at hst
      replace hst := hst.snocEs (e := ((A67 : Option Addr), n, c68, es69)) (i := 4) (j := 0) rfl rfl
      revert a
      refine aA rfl rfl ?_
      refine aA rfl rfl ?_
      intro a henv
      refine wpList_nil ?_
      refine bl_n (th_n ?_)
      refine region_seq ?_
      revert a
      refine sA (v := .int .i64 (j + 1 : Nat)) rfl (fun _ henv => rn_add henv rfl rfl (by rw [IntWalk.i64_in _ (by omega)]; omega)) ?_
      refine mA rfl rfl ?_
      intro a henv
      refine wpList_nil ?_
      exact th_n ⟨_, (by omega), ⟨j + 1, (some ⟨g64, 0, none⟩), c65, (os ++ [((A56 : Option Addr), n, c57, es58)]), (some ⟨g75, 0, none⟩), c76, (qs ++ [((A67 : Option Addr), n, c68, es69)]), rfl, henv.sub ⟨rfl, rfl, rfl, rfl, rfl, rfl, rfl, rfl, trivial⟩, hst.pick [2, 3] [0, 2, 7] (by decide), (by omega), (lt_step ho he0 hz60), (lt_step hp he0 hz71), (le_snoc hol (by omega)), (le_snoc hql (by omega))⟩⟩
    · obtain rfl : n0 = j := by have := of_decide_eq_false hc55; omega
      refine wp_exit ?_
      refine th_x (th_x (bl_x (th_n ?_)))
      refine wp_seq ?_
      have htk : (es0.map lt).take n0 = es0.map lt := List.take_of_length_le (by rw [List.length_map]; omega)
      rw [htk] at ho hp
      have hol1 : os.length = n0 := map_len ho (by rw [List.length_map]; exact hlen0)
      have hql1 : qs.length = n0 := map_len hp (by rw [List.length_map]; exact hlen0)
      replace hst := hst.giveRow (k := 1) (j := 1) rfl rfl hol1
      replace hst : St w0 _ [rowS notU 33 1 B2 n0 d2 (fl fQ qs)] [pfRow fL FL 1 B1 n0 d1 os, pfRd 1 B1 n0 d1 (fl fL os), pfEs FQ qs, pfEs FL os, pfRow fT FT 1 A0 n0 c0 es0] := hst
      replace hst := hst.giveRow (k := 0) (j := 2) rfl rfl hql1
      replace hst : St w0 _ [] [pfRow fQ FQ 1 B2 n0 d2 qs, pfRd 1 B2 n0 d2 (fl fQ qs), pfRow fL FL 1 B1 n0 d1 os, pfRd 1 B1 n0 d1 (fl fL os), pfEs FQ qs, pfEs FL os, pfRow fT FT 1 A0 n0 c0 es0] := hst
      refine region_seq ?_
      revert a
      refine mA rfl rfl ?_
      refine mA rfl rfl ?_
      refine mA rfl rfl ?_
      intro a henv
      refine seq_step rfl (op_call henv rfl Tryd.call18 rfl (sp_join_bad (hst.pat (k := 2) rfl) ho (fun v hv => Nat.le_trans (hol v hv) (by decide)) (lt_zk ho hI) hn15 hk1 hk4 hm8 (by omega)) ?_)
      rintro e w78 ⟨rfl, hb⟩
      refine ⟨_, rfl, ?_⟩
      clear henv a; intro a henv
      replace hst := hst.call hb
      clear hb
      revert a
      refine mA rfl rfl ?_
      refine sA (v := .slice none 0 0) rfl (fun _ henv => rn_extract henv rfl rfl) ?_
      refine sA (v := .int .i64 5) rfl (fun _ henv => rn_extract henv rfl rfl) ?_
      refine aA rfl rfl ?_
      refine aA rfl rfl ?_
      intro a henv
      refine wpList_nil ?_
      refine th_n ?_
      refine wp_seq ?_
      refine wp_block ?_
      refine wp_seq ?_
      refine region_seq ?_
      revert a
      refine mA rfl rfl ?_
      refine sA (v := .bool (decide (((k : Nat) : Int) < (1 : Int)))) rfl (fun _ henv => rn_bin henv rfl rfl rfl) ?_
      intro a henv
      rw [show (decide (((k : Nat) : Int) < (1 : Int))) = false from (decide_eq_false (by omega))] at henv
      revert a
      refine mA rfl rfl ?_
      refine gA (v := .int .i64 (k : Nat)) rfl rfl rfl rfl (fun _ henv => rn_move henv rfl) ?_
      refine gA (v := .bool (decide (((k : Nat) : Int) > (4096 : Int)))) rfl rfl rfl rfl (fun _ henv => rn_bin henv rfl rfl rfl) ?_
      intro a henv
      rw [show (decide (((k : Nat) : Int) > (4096 : Int))) = false from (decide_eq_false (by omega))] at henv
      revert a
      refine sA (v := .bool false) rfl (fun _ henv => rn_pick henv rfl rfl) ?_
      refine mA rfl rfl ?_
      refine gA (v := .int .i64 (m : Nat)) rfl rfl rfl rfl (fun _ henv => rn_move henv rfl) ?_
      refine gA (v := .bool (decide (((m : Nat) : Int) < (0 : Int)))) rfl rfl rfl rfl (fun _ henv => rn_bin henv rfl rfl rfl) ?_
      intro a henv
      rw [show (decide (((m : Nat) : Int) < (0 : Int))) = false from (decide_eq_false (by omega))] at henv
      revert a
      refine sA (v := .bool false) rfl (fun _ henv => rn_pick henv rfl rfl) ?_
      refine mA rfl rfl ?_
      refine gA (v := .int .i64 (m : Nat)) rfl rfl rfl rfl (fun _ henv => rn_move henv rfl) ?_
      refine gA (v := .bool (decide (((m : Nat) : Int) > (8192 : Int)))) rfl rfl rfl rfl (fun _ henv => rn_bin henv rfl rfl rfl) ?_
      intro a henv
      rw [show (decide (((m : Nat) : Int) > (8192 : Int))) = false from (decide_eq_false (by omega))] at henv
      revert a
      refine sA (v := .bool false) rfl (fun _ henv => rn_pick henv rfl rfl) ?_
      refine aA rfl rfl ?_
      intro a henv
      refine wpList_nil ?_
      refine th_n ?_
      refine if_f henv rfl (rfl) ?_
      refine wp_seq ?_
      refine region_seq ?_
      revert a
      refine mA rfl rfl ?_
      refine sA (v := .int .i64 (n0 : Nat)) rfl (fun _ henv => rn_len henv Tryd.underlying42 rfl) ?_
      refine sA (v := .bool (decide (((n0 : Nat) : Int) > (15 : Int)))) rfl (fun _ henv => rn_bin henv rfl rfl rfl) ?_
      intro a henv
      rw [show (decide (((n0 : Nat) : Int) > (15 : Int))) = false from (decide_eq_false (by omega))] at henv
      refine sv (v := .bool false) henv rfl (rn_assign henv rfl) ?_
      clear henv a; intro a henv
      refine wpList_nil ?_
      refine th_n ?_
      refine if_f henv rfl (rfl) ?_
      refine wp_skip ?_
      refine bl_n (th_n ?_)
      refine wp_seq ?_
      refine region_seq ?_
      revert a
      refine mA rfl rfl ?_
      refine mA rfl rfl ?_
      refine mA rfl rfl ?_
      intro a henv
      refine seq_step rfl (op_call henv rfl Tryd.call19 rfl (ref_join_bad (hst.pat (k := 0) rfl) hp (fun v hv => Nat.le_trans (hql v hv) (by decide)) (lt_zk hp hI) hn15 hk4 hm8 (by rw [← sz_max]; omega)) ?_)
      rintro e w79 ⟨rfl, hb⟩
      refine ⟨_, rfl, ?_⟩
      clear henv a; intro a henv
      replace hst := hst.call hb
      clear hb
      revert a
      refine mA rfl rfl ?_
      refine sA (v := .slice none 0 0) rfl (fun _ henv => rn_extract henv rfl rfl) ?_
      refine sA (v := .bool false) rfl (fun _ henv => rn_extract henv rfl rfl) ?_
      refine aA rfl rfl ?_
      refine aA rfl rfl ?_
      intro a henv
      refine wpList_nil ?_
      refine th_n ?_
      refine wp_seq ?_
      refine wp_seq ?_
      refine region_seq ?_
      revert a
      refine mA rfl rfl ?_
      refine sA (v := .bool true) rfl (fun _ henv => rn_un henv rfl rfl) ?_
      intro a henv
      refine wpList_nil ?_
      refine th_n ?_
      refine if_t henv rfl (rfl) ?_
      refine wp_seq ?_
      refine region_seq ?_
      revert a
      refine mA rfl rfl ?_
      refine sA (v := .bool true) rfl (fun _ henv => rn_nilS (A := none) henv Tryd.underlying24 rfl) ?_
      refine mA rfl rfl ?_
      refine gA (v := .int .i64 5) rfl rfl rfl rfl (fun _ henv => rn_move henv rfl) ?_
      refine gA (v := .bool true) rfl rfl rfl rfl (fun _ henv => rn_bin henv rfl rfl rfl) ?_
      refine sA (v := .bool true) rfl (fun _ henv => rn_pick henv rfl rfl) ?_
      refine aA rfl rfl ?_
      intro a henv
      refine wpList_nil ?_
      refine th_n ?_
      refine wp_ret ?_
      refine th_r ?_
      refine leave henv (res1 Tryd.results4 (RV.tmp henv rfl)) ?_
      exact ⟨rfl, hst.below⟩
set_option maxRecDepth 100000 in
set_option maxHeartbeats 8000000 in
theorem joins_zero {A0 : Option Addr} {n0 c0 : Nat} {es0 : List TE} {k : Nat} {w0 : World} (h0 : (pfRow fT FT 1 A0 n0 c0 es0).P w0) (hI : ∀ v ∈ es0, I64 v.2.2.2) (hs : ∀ v ∈ es0, v.2.1 ≤ 35184372088832) (hn : n0 ≤ 100) (htot : totN es0 n0 ≤ 400) (hk1 : 1 ≤ k) (hk4 : k ≤ 4096) (hn15 : n0 ≤ 15) (hdg : degN (jnN (es0.map lt) k (szN (es0.map lt) k 0 n0) n0) ≤ 0) :
    Calls Tryd.prog 4 #[.slice A0 n0 c0, .int .i64 (k : Nat), .int .i64 (0 : Nat)] w0 fun e w' => e = .returned (.bool true) ∧ Below w0.heap.size w0 w' := by
  refine enter Tryd.func4 rfl Tryd.ntmps4 rfl ?_
  intro a henv hst
  have hlen0 := h0.2.1
  have hbig0 := Nat.le_trans h0.1.cap h0.1.big
  unfold maxLen at hbig0
  replace hst := hst.argRow h0
  clear h0
  refine wp_seq ?_
  refine region_seq ?_
  refine sv (v := .bool false) henv rfl (rn_assign henv rfl) ?_
  clear henv a; intro a henv
  refine wpList_nil ?_
  refine th_n ?_
  refine wp_seq ?_
  refine wp_seq ?_
  refine region_seq ?_
  refine seq_step rfl (op_call henv rfl Tryd.call10 rfl l_works ?_)
  rintro e w51 ⟨rfl, hb⟩
  refine ⟨_, rfl, ?_⟩
  clear henv a; intro a henv
  replace hst := hst.call hb
  clear hb
  refine sv (v := .bool false) henv rfl (rn_un henv rfl rfl) ?_
  clear henv a; intro a henv
  refine wpList_nil ?_
  refine th_n ?_
  refine if_f henv rfl (rfl) ?_
  refine wp_skip ?_
  refine th_n ?_
  refine wp_seq ?_
  refine region_seq ?_
  refine sv (v := .int .i64 0) henv rfl (rn_assign henv rfl) ?_
  clear henv a; intro a henv
  refine wpList_nil ?_
  refine th_n ?_
  refine wp_seq ?_
  refine wp_seq ?_
  refine region_seq ?_
  revert a
  refine mA rfl rfl ?_
  refine sA (v := .int .i64 (n0 : Nat)) rfl (fun _ henv => rn_len henv Tryd.underlying42 rfl) ?_
  refine mA rfl rfl ?_
  intro a henv
  refine wpList_nil ?_
  refine th_n ?_
  refine wp_block ?_
  refine wp_loop_ghost (fun mz a w => ∃ j : Nat, ∃ s : Nat, n0 - j = mz ∧ Env 127 a [(0, .slice A0 n0 c0), (1, .int .i64 (k : Nat)), (2, .int .i64 (0 : Nat)), (7, .int .i64 (s : Nat)), (20, .slice A0 n0 c0), (21, .int .i64 (n0 : Nat)), (22, .int .i64 (j : Nat))] ∧ St w0 w [] [pfRow fT FT 1 A0 n0 c0 es0] ∧ j ≤ n0 ∧ s = totN es0 j ∧ s ≤ j * 35184372088832) _ ⟨0, 0, rfl, henv.sub ⟨rfl, rfl, rfl, rfl, rfl, rfl, rfl, trivial⟩, hst.pick [] [0] (by decide), (Nat.zero_le _), rfl, (Nat.zero_le _)⟩ ?_
  clear henv hst a
  rintro mz a w52 ⟨j, s, rfl, henv, hst, hj, hs7, htb⟩
  refine wp_seq ?_
  refine region_seq ?_
  refine sv (v := .bool (decide (((j : Nat) : Int) < ((n0 : Nat) : Int)))) henv rfl (rn_bin henv rfl rfl rfl) ?_
  clear henv a; intro a henv
  refine wpList_nil ?_
  refine th_n ?_
  refine wp_seq ?_
  refine if_split henv rfl (fun hc53 => ?_) (fun hc53 => ?_)
  · have hlt : j < n0 := by have := of_decide_eq_true hc53; omega
    obtain ⟨⟨A, n, c, xs⟩, he0⟩ : ∃ e, es0[j]? = some e := ⟨_, List.getElem?_eq_getElem (by omega)⟩
    replace hst := hst.elem (k := 0) rfl he0
    replace hst : St w0 _ [] [pfRow fI FI 1 A n c xs, pfRow fT FT 1 A0 n0 c0 es0] := hst
    have hn45 : n ≤ 35184372088832 := hs _ (List.mem_of_getElem? he0)
    refine wp_skip ?_
    refine th_n ?_
    refine wp_seq ?_
    refine wp_block ?_
    refine wp_seq ?_
    refine region_seq ?_
    revert a
    refine sA (v := .pointer (some ⟨ab A0, ao A0 + j * 1, none⟩)) rfl (fun _ henv => rn_idxR (i := j) henv Tryd.underlying42 (ty__int64.size) rfl rfl (by omega) rfl (show (pfRow fT FT 1 A0 n0 c0 es0).P _ from (hst.pat (k := 1) rfl)).1) ?_
    refine sA (v := .slice A n c) rfl (fun _ henv => rn_loadE1 (i := j) (j := 0) (e := (A, n, c, xs)) henv ty__int64 rfl rfl fT_len (by decide) (show (pfRow fT FT 1 A0 n0 c0 es0).P _ from (hst.pat (k := 1) rfl)).1 (by omega) he0 rfl) ?_
    refine aA rfl rfl ?_
    intro a henv
    refine wpList_nil ?_
    refine th_n ?_
    refine region_seq ?_
    revert a
    refine mA rfl rfl ?_
    refine mA rfl rfl ?_
    refine sA (v := .int .i64 (n : Nat)) rfl (fun _ henv => rn_len henv Tryd.underlying22 rfl) ?_
    refine sA (v := .int .i64 (s + n : Nat)) rfl (fun _ henv => rn_add henv rfl rfl (by rw [IntWalk.i64_in _ (by omega)]; omega)) ?_
    refine aA rfl rfl ?_
    intro a henv
    refine wpList_nil ?_
    refine bl_n (th_n ?_)
    refine region_seq ?_
    revert a
    refine sA (v := .int .i64 (j + 1 : Nat)) rfl (fun _ henv => rn_add henv rfl rfl (by rw [IntWalk.i64_in _ (by omega)]; omega)) ?_
    refine mA rfl rfl ?_
    intro a henv
    refine wpList_nil ?_
    exact th_n ⟨_, (by omega), ⟨j + 1, s + n, rfl, henv.sub ⟨rfl, rfl, rfl, rfl, rfl, rfl, rfl, trivial⟩, hst.pick [] [1] (by decide), (by omega), (by rw [totN, tot_at he0, hs7]), (by rw [Nat.succ_mul]; omega)⟩⟩
  · obtain rfl : n0 = j := by have := of_decide_eq_false hc53; omega
    refine wp_exit ?_
    refine th_x (th_x (bl_x (th_n ?_)))
    refine wp_seq ?_
    refine wp_seq ?_
    refine region_seq ?_
    revert a
    refine mA rfl rfl ?_
    refine sA (v := .bool (decide (((s : Nat) : Int) > (400 : Int)))) rfl (fun _ henv => rn_bin henv rfl rfl rfl) ?_
    intro a henv
    rw [show (decide (((s : Nat) : Int) > (400 : Int))) = false from (decide_eq_false (by omega))] at henv
    revert a
    refine mA rfl rfl ?_
    refine gA (v := .slice A0 n0 c0) rfl rfl rfl rfl (fun _ henv => rn_move henv rfl) ?_
    refine gA (v := .int .i64 (n0 : Nat)) rfl rfl rfl rfl (fun _ henv => rn_len henv Tryd.underlying42 rfl) ?_
    refine gA (v := .bool (decide (((n0 : Nat) : Int) > (100 : Int)))) rfl rfl rfl rfl (fun _ henv => rn_bin henv rfl rfl rfl) ?_
    intro a henv
    rw [show (decide (((n0 : Nat) : Int) > (100 : Int))) = false from (decide_eq_false (by omega))] at henv
    refine sv (v := .bool false) henv rfl (rn_pick henv rfl rfl) ?_
    clear henv a; intro a henv
    refine wpList_nil ?_
    refine th_n ?_
    refine if_f henv rfl (rfl) ?_
    refine wp_skip ?_
    refine th_n ?_
    refine wp_seq ?_
    refine region_seq ?_
    refine sv (v := .slice none 0 0) henv rfl (rn_assign henv rfl) ?_
    clear henv a; intro a henv
    refine wpList_nil ?_
    refine th_n ?_
    refine wp_seq ?_
    refine region_seq ?_
    refine sv (v := .slice none 0 0) henv rfl (rn_assign henv rfl) ?_
    clear henv a; intro a henv
    refine wpList_nil ?_
    refine th_n ?_
    refine wp_seq ?_
    refine wp_seq ?_
    refine region_seq ?_
    revert a
    refine mA rfl rfl ?_
    refine sA (v := .int .i64 (n0 : Nat)) rfl (fun _ henv => rn_len henv Tryd.underlying42 rfl) ?_
    refine mA rfl rfl ?_
    intro a henv
    refine wpList_nil ?_
    refine th_n ?_
    refine wp_block ?_
    replace hst := (hst.addRowS notU 24 1).nilEs FL
    replace hst : St w0 _ [rowS notU 24 1 none 0 0 (fl fL ([]))] [pfEs FL ([]), pfRow fT FT 1 A0 n0 c0 es0] := hst
    replace hst := (hst.addRowS notU 33 1).nilEs FQ
    replace hst : St w0 _ [rowS notU 33 1 none 0 0 (fl fQ ([])), rowS notU 24 1 none 0 0 (fl fL ([]))] [pfEs FQ ([]), pfEs FL ([]), pfRow fT FT 1 A0 n0 c0 es0] := hst
    refine wp_loop_ghost (fun mz a w => ∃ j : Nat, ∃ B1 : Option Addr, ∃ d1 : Nat, ∃ os : List LE, ∃ B2 : Option Addr, ∃ d2 : Nat, ∃ qs : List LE, n0 - j = mz ∧ Env 127 a [(0, .slice A0 n0 c0), (1, .int .i64 (k : Nat)), (2, .int .i64 (0 : Nat)), (10, .slice B1 j d1), (11, .slice B2 j d2), (38, .slice A0 n0 c0), (39, .int .i64 (n0 : Nat)), (40, .int .i64 (j : Nat))] ∧ St w0 w [rowS notU 33 1 B2 j d2 (fl fQ qs), rowS notU 24 1 B1 j d1 (fl fL os)] [pfEs FQ qs, pfEs FL os, pfRow fT FT 1 A0 n0 c0 es0] ∧ j ≤ n0 ∧ os.map lz = (es0.map lt).take j ∧ qs.map lz = (es0.map lt).take j ∧ (∀ v ∈ os, v.2.1 ≤ 400) ∧ (∀ v ∈ qs, v.2.1 ≤ 400)) _ ⟨0, none, 0, [], none, 0, [], rfl, henv.sub ⟨rfl, rfl, rfl, rfl, rfl, rfl, rfl, rfl, trivial⟩, hst.pick [0, 1] [0, 1, 2] (by decide), (Nat.zero_le _), rfl, rfl, (fun _ h => by cases h), (fun _ h => by cases h)⟩ ?_
    clear henv hst a
    rintro mz a w54 ⟨j, B1, d1, os, B2, d2, qs, rfl, henv, hst, hj, ho, hp, hol, hql⟩
    refine wp_seq ?_
    refine region_seq ?_
    refine sv (v := .bool (decide (((j : Nat) : Int) < ((n0 : Nat) : Int)))) henv rfl (rn_bin henv rfl rfl rfl) ?_
    clear henv a; intro a henv
    refine wpList_nil ?_
    refine th_n ?_
    refine wp_seq ?_
    refine if_split henv rfl (fun hc55 => ?_) (fun hc55 => ?_)
    · have hlt : j < n0 := by have := of_decide_eq_true hc55; omega
      obtain ⟨⟨A, n, c, xs⟩, he0⟩ : ∃ e, es0[j]? = some e := ⟨_, List.getElem?_eq_getElem (by omega)⟩
      replace hst := hst.elem (k := 2) rfl he0
      replace hst : St w0 _ [rowS notU 33 1 B2 j d2 (fl fQ qs), rowS notU 24 1 B1 j d1 (fl fL os)] [pfRow fI FI 1 A n c xs, pfEs FQ qs, pfEs FL os, pfRow fT FT 1 A0 n0 c0 es0] := hst
      have hn45 : n ≤ 35184372088832 := hs _ (List.mem_of_getElem? he0)
      have hn4 : n ≤ 400 := Nat.le_trans (tot_le hlt he0) htot
      refine wp_skip ?_
      refine th_n ?_
      refine wp_seq ?_
      refine wp_block ?_
      refine wp_seq ?_
      refine region_seq ?_
      revert a
      refine sA (v := .pointer (some ⟨ab A0, ao A0 + j * 1, none⟩)) rfl (fun _ henv => rn_idxR (i := j) henv Tryd.underlying42 (ty__int64.size) rfl rfl (by omega) rfl (show (pfRow fT FT 1 A0 n0 c0 es0).P _ from (hst.pat (k := 3) rfl)).1) ?_
      refine sA (v := .slice A n c) rfl (fun _ henv => rn_loadE1 (i := j) (j := 0) (e := (A, n, c, xs)) henv ty__int64 rfl rfl fT_len (by decide) (show (pfRow fT FT 1 A0 n0 c0 es0).P _ from (hst.pat (k := 3) rfl)).1 (by omega) he0 rfl) ?_
      refine aA rfl rfl ?_
      intro a henv
      refine wpList_nil ?_
      refine th_n ?_
      refine region_seq ?_
      revert a
      refine mA rfl rfl ?_
      refine mA rfl rfl ?_
      intro a henv
      refine seq_step rfl (op_call henv rfl Tryd.call11 rfl (l_list (es0 := xs) (hst.pat (k := 0) rfl) (hI _ (List.mem_of_getElem? he0)) (by omega)) ?_)
      rintro e w61 ⟨_, rfl, ⟨A56, c57, es58, rfl, hr, hl59, hz60⟩, hb⟩
      refine ⟨_, rfl, ?_⟩
      clear henv a; intro a henv
      replace hst := hst.freshRd hb hr hl59 (ap_N hr.2.1 ⟨nou_rowS, nou_rowS, trivial⟩)
      clear hr
      clear hb
      refine seq_step rfl (op_buildSlice (z := 1) (pv := #[(0, .slice A56 n c57)]) (c := #[.slice A56 n c57]) henv hst rfl Tryd.underlying26 (ty__integer_Int.size) zero__integer_Int (by decide) (by decide) rfl (by kernel_rfl) ?_)
      clear henv hst a; intro a w63 g62 henv hst
      refine seq_step rfl (op_appendS (k := 2) (j := 0) henv hst rfl Tryd.underlying26 inf__integer_Int rfl rfl rfl rfl rfl rfl rfl rfl rfl rfl rfl (by unfold maxLen; omega) (by omega) ?_)
      clear henv hst a; intro a w66 g64 c65 henv hst
      rw [show fl fL os ++ (#[.slice A56 n c57] : Array Value).toList = fl fL (os ++ [((A56 : Option Addr), n, c57, es58)]) from fl_snoc (f := fL) os ((A56 : Option Addr), n, c57, es58)] at hst
      replace hst := hst.snocEs (e := ((A56 : Option Addr), n, c57, es58)) (i := 3) (j := 0) rfl rfl
      revert a
      refine mA rfl rfl ?_
      refine mA rfl rfl ?_
      intro a henv
      refine seq_step rfl (op_call henv rfl Tryd.call15 rfl (l_ref (es0 := xs) (hst.pat (k := 2) rfl) (hI _ (List.mem_of_getElem? he0)) (by omega)) ?_)
      rintro e w72 ⟨_, rfl, ⟨A67, c68, es69, rfl, hr, hl70, hz71⟩, hb⟩
      refine ⟨_, rfl, ?_⟩
      clear henv a; intro a henv
      replace hst := hst.freshRd hb hr hl70 (ap_M hr.2.1 ⟨nou_bk rfl, nou_rowS, nou_rowS, trivial⟩)
      clear hr
      clear hb
      refine seq_step rfl (op_buildSlice (z := 1) (pv := #[(0, .slice A67 n c68)]) (c := #[.slice A67 n c68]) henv hst rfl Tryd.underlying31 (ty_anvil_anvilref20_Poly.size) zero_anvil_anvilref20_Poly (by decide) (by decide) rfl (by kernel_rfl) ?_)
      clear henv hst a; intro a w74 g73 henv hst
      refine seq_step rfl (op_appendS (k := 2) (j := 0) henv hst rfl Tryd.underlying31 inf_anvil_anvilref20_Poly rfl rfl rfl rfl rfl rfl rfl rfl rfl rfl rfl (by unfold maxLen; omega) (by omega) ?_)
      clear henv hst a; intro a w77 g75 c76 henv hst
      rw [show fl fQ qs ++ (#[.slice A67 n c68] : Array Value).toList = fl fQ (qs ++ [((A67 : Option Addr), n, c68, es69)]) from fl_snoc (f := fQ) qs ((A67 : Option Addr), n, c68, es69)] at hst
      replace hst := hst.snocEs (e := ((A67 : Option Addr), n, c68, es69)) (i := 4) (j := 0) rfl rfl
      revert a
      refine aA rfl rfl ?_
      refine aA rfl rfl ?_
      intro a henv
      refine wpList_nil ?_
      refine bl_n (th_n ?_)
      refine region_seq ?_
      revert a
      refine sA (v := .int .i64 (j + 1 : Nat)) rfl (fun _ henv => rn_add henv rfl rfl (by rw [IntWalk.i64_in _ (by omega)]; omega)) ?_
      refine mA rfl rfl ?_
      intro a henv
      refine wpList_nil ?_
      exact th_n ⟨_, (by omega), ⟨j + 1, (some ⟨g64, 0, none⟩), c65, (os ++ [((A56 : Option Addr), n, c57, es58)]), (some ⟨g75, 0, none⟩), c76, (qs ++ [((A67 : Option Addr), n, c68, es69)]), rfl, henv.sub ⟨rfl, rfl, rfl, rfl, rfl, rfl, rfl, rfl, trivial⟩, hst.pick [2, 3] [0, 2, 7] (by decide), (by omega), (lt_step ho he0 hz60), (lt_step hp he0 hz71), (le_snoc hol (by omega)), (le_snoc hql (by omega))⟩⟩
    · obtain rfl : n0 = j := by have := of_decide_eq_false hc55; omega
      refine wp_exit ?_
      refine th_x (th_x (bl_x (th_n ?_)))
      refine wp_seq ?_
      have htk : (es0.map lt).take n0 = es0.map lt := List.take_of_length_le (by rw [List.length_map]; omega)
      rw [htk] at ho hp
      have hol1 : os.length = n0 := map_len ho (by rw [List.length_map]; exact hlen0)
      have hql1 : qs.length = n0 := map_len hp (by rw [List.length_map]; exact hlen0)
      replace hst := hst.giveRow (k := 1) (j := 1) rfl rfl hol1
      replace hst : St w0 _ [rowS notU 33 1 B2 n0 d2 (fl fQ qs)] [pfRow fL FL 1 B1 n0 d1 os, pfRd 1 B1 n0 d1 (fl fL os), pfEs FQ qs, pfEs FL os, pfRow fT FT 1 A0 n0 c0 es0] := hst
      replace hst := hst.giveRow (k := 0) (j := 2) rfl rfl hql1
      replace hst : St w0 _ [] [pfRow fQ FQ 1 B2 n0 d2 qs, pfRd 1 B2 n0 d2 (fl fQ qs), pfRow fL FL 1 B1 n0 d1 os, pfRd 1 B1 n0 d1 (fl fL os), pfEs FQ qs, pfEs FL os, pfRow fT FT 1 A0 n0 c0 es0] := hst
      refine region_seq ?_
      revert a
      refine mA rfl rfl ?_
      refine mA rfl rfl ?_
      refine mA rfl rfl ?_
      intro a henv
      refine seq_step rfl (op_call henv rfl Tryd.call18 rfl (sp_join_zero (hst.pat (k := 2) rfl) ho (fun v hv => Nat.le_trans (hol v hv) (by decide)) (lt_zk ho hI) hn15 hk1 hk4 (by omega)) ?_)
      rintro e w78 ⟨rfl, hb⟩
      refine ⟨_, rfl, ?_⟩
      clear henv a; intro a henv
      replace hst := hst.call hb
      clear hb
      revert a
      refine mA rfl rfl ?_
      refine sA (v := .slice none 0 0) rfl (fun _ henv => rn_extract henv rfl rfl) ?_
      refine sA (v := .int .i64 0) rfl (fun _ henv => rn_extract henv rfl rfl) ?_
      refine aA rfl rfl ?_
      refine aA rfl rfl ?_
      intro a henv
      refine wpList_nil ?_
      refine th_n ?_
      refine wp_seq ?_
      refine wp_block ?_
      refine wp_seq ?_
      refine region_seq ?_
      revert a
      refine mA rfl rfl ?_
      refine sA (v := .bool (decide (((k : Nat) : Int) < (1 : Int)))) rfl (fun _ henv => rn_bin henv rfl rfl rfl) ?_
      intro a henv
      rw [show (decide (((k : Nat) : Int) < (1 : Int))) = false from (decide_eq_false (by omega))] at henv
      revert a
      refine mA rfl rfl ?_
      refine gA (v := .int .i64 (k : Nat)) rfl rfl rfl rfl (fun _ henv => rn_move henv rfl) ?_
      refine gA (v := .bool (decide (((k : Nat) : Int) > (4096 : Int)))) rfl rfl rfl rfl (fun _ henv => rn_bin henv rfl rfl rfl) ?_
      intro a henv
      rw [show (decide (((k : Nat) : Int) > (4096 : Int))) = false from (decide_eq_false (by omega))] at henv
      revert a
      refine sA (v := .bool false) rfl (fun _ henv => rn_pick henv rfl rfl) ?_
      refine mA rfl rfl ?_
      refine gA (v := .int .i64 (0 : Nat)) rfl rfl rfl rfl (fun _ henv => rn_move henv rfl) ?_
      refine gA (v := .bool (decide (((0 : Nat) : Int) < (0 : Int)))) rfl rfl rfl rfl (fun _ henv => rn_bin henv rfl rfl rfl) ?_
      intro a henv
      rw [show (decide (((0 : Nat) : Int) < (0 : Int))) = false from (decide_eq_false (by omega))] at henv
      revert a
      refine sA (v := .bool false) rfl (fun _ henv => rn_pick henv rfl rfl) ?_
      refine mA rfl rfl ?_
      refine gA (v := .int .i64 (0 : Nat)) rfl rfl rfl rfl (fun _ henv => rn_move henv rfl) ?_
      refine gA (v := .bool (decide (((0 : Nat) : Int) > (8192 : Int)))) rfl rfl rfl rfl (fun _ henv => rn_bin henv rfl rfl rfl) ?_
      intro a henv
      rw [show (decide (((0 : Nat) : Int) > (8192 : Int))) = false from (decide_eq_false (by omega))] at henv
      revert a
      refine sA (v := .bool false) rfl (fun _ henv => rn_pick henv rfl rfl) ?_
      refine aA rfl rfl ?_
      intro a henv
      refine wpList_nil ?_
      refine th_n ?_
      refine if_f henv rfl (rfl) ?_
      refine wp_seq ?_
      refine region_seq ?_
      revert a
      refine mA rfl rfl ?_
      refine sA (v := .int .i64 (n0 : Nat)) rfl (fun _ henv => rn_len henv Tryd.underlying42 rfl) ?_
      refine sA (v := .bool (decide (((n0 : Nat) : Int) > (15 : Int)))) rfl (fun _ henv => rn_bin henv rfl rfl rfl) ?_
      intro a henv
      rw [show (decide (((n0 : Nat) : Int) > (15 : Int))) = false from (decide_eq_false (by omega))] at henv
      refine sv (v := .bool false) henv rfl (rn_assign henv rfl) ?_
      clear henv a; intro a henv
      refine wpList_nil ?_
      refine th_n ?_
      refine if_f henv rfl (rfl) ?_
      refine wp_skip ?_
      refine bl_n (th_n ?_)
      refine wp_seq ?_
      refine region_seq ?_
      revert a
      refine mA rfl rfl ?_
      refine mA rfl rfl ?_
      refine mA rfl rfl ?_
      intro a henv
      refine seq_step rfl (op_call henv rfl Tryd.call19 rfl (ref_join_ok (hst.pat (k := 0) rfl) hp (fun v hv => Nat.le_trans (hql v hv) (by decide)) (lt_zk hp hI) hn15 hk4 (Nat.zero_le _) (by rw [← sz_max]; omega)) ?_)
      rintro e w83 ⟨_, rfl, ⟨A79, c80, es81, rfl, hp1, hz82⟩, hb⟩
      refine ⟨_, rfl, ?_⟩
      clear henv a; intro a henv
      replace hst := (hst.call hb).argRow hp1
      clear hp1
      clear hb
      revert a
      refine mA rfl rfl ?_
      refine sA (v := .slice A79 0 c80) rfl (fun _ henv => rn_extract henv rfl rfl) ?_
      refine sA (v := .bool true) rfl (fun _ henv => rn_extract henv rfl rfl) ?_
      refine aA rfl rfl ?_
      refine aA rfl rfl ?_
      intro a henv
      refine wpList_nil ?_
      refine th_n ?_
      refine wp_seq ?_
      refine wp_seq ?_
      refine region_seq ?_
      revert a
      refine mA rfl rfl ?_
      refine sA (v := .bool false) rfl (fun _ henv => rn_un henv rfl rfl) ?_
      intro a henv
      refine wpList_nil ?_
      refine th_n ?_
      refine if_f henv rfl (rfl) ?_
      refine wp_skip ?_
      refine th_n ?_
      refine wp_seq ?_
      refine region_seq ?_
      revert a
      refine mA rfl rfl ?_
      refine sA (v := .bool true) rfl (fun _ henv => rn_bin henv rfl rfl rfl) ?_
      refine mA rfl rfl ?_
      refine gA (v := .slice none 0 0) rfl rfl rfl rfl (fun _ henv => rn_move henv rfl) ?_
      refine gA (v := .slice A79 0 c80) rfl rfl rfl rfl (fun _ henv => rn_move henv rfl) ?_
      intro a henv
      refine seq_g rfl henv rfl rfl (op_call henv rfl Tryd.call16 rfl (l_is (xs := []) (ys := []) (row_nil _ _ _ _) rfl (hst.pat (k := 0) rfl) ((hz82.trans (by rw [← sz_max])).trans (List.take_zero)) (fun _ h => by cases h) (fun _ h => by cases h)) ?_)
      rintro e w84 ⟨rfl, hb⟩
      refine ⟨_, rfl, ?_⟩
      clear henv a; intro a henv
      replace hst := hst.call hb
      clear hb
      rw [show (decide (([] : List Int) = [])) = true from (decide_eq_true rfl)] at henv
      revert a
      refine sA (v := .bool true) rfl (fun _ henv => rn_pick henv rfl rfl) ?_
      refine mA rfl rfl ?_
      refine gA (v := .slice none 0 0) rfl rfl rfl rfl (fun _ henv => rn_move henv rfl) ?_
      refine gA (v := .bool true) rfl rfl rfl rfl (fun _ henv => rn_nilS (A := none) henv Tryd.underlying24 rfl) ?_
      refine gA (v := .int .i64 (0 : Nat)) rfl rfl rfl rfl (fun _ henv => rn_move henv rfl) ?_
      refine gA (v := .bool (((0 : Nat) : Int) == (0 : Int))) rfl rfl rfl rfl (fun _ henv => rn_bin henv rfl rfl rfl) ?_
      intro a henv
      rw [show (((0 : Nat) : Int) == (0 : Int)) = true from (by decide)] at henv
      refine seq_g rfl henv rfl rfl (op_val (v := .bool (true == true)) henv rfl (rn_eqlb henv Tryd.underlying4 rfl rfl) ?_)
      clear henv a; intro a henv
      rw [show (true == true) = true from rfl] at henv
      revert a
      refine sA (v := .bool true) rfl (fun _ henv => rn_pick henv rfl rfl) ?_
      refine mA rfl rfl ?_
      refine gA (v := .slice B1 n0 d1) rfl rfl rfl rfl (fun _ henv => rn_move henv rfl) ?_
      refine gA (v := .slice B2 n0 d2) rfl rfl rfl rfl (fun _ henv => rn_move henv rfl) ?_
      intro a henv
      refine seq_g rfl henv rfl rfl (op_call henv rfl Tryd.call13 rfl (eq_rows (hst.pat (k := 3) rfl) (hst.pat (k := 1) rfl) (lt_zk2 ho hI) (lt_zk2 hp hI)) ?_)
      rintro e w85 ⟨rfl, hb⟩
      refine ⟨_, rfl, ?_⟩
      clear henv a; intro a henv
      replace hst := hst.call hb
      clear hb
      rw [show (decide (os.map lz = qs.map lz)) = true from (decide_eq_true (ho.trans hp.symm))] at henv
      revert a
      refine sA (v := .bool true) rfl (fun _ henv => rn_pick henv rfl rfl) ?_
      refine aA rfl rfl ?_
      intro a henv
      refine wpList_nil ?_
      refine th_n ?_
      refine wp_ret ?_
      refine leave henv (res1 Tryd.results4 (RV.tmp henv rfl)) ?_
      exact ⟨rfl, hst.below⟩
set_option maxRecDepth 100000 in
set_option maxHeartbeats 8000000 in
theorem joins_ok {A0 : Option Addr} {n0 c0 : Nat} {es0 : List TE} {k m : Nat} {w0 : World} (h0 : (pfRow fT FT 1 A0 n0 c0 es0).P w0) (hI : ∀ v ∈ es0, I64 v.2.2.2) (hs : ∀ v ∈ es0, v.2.1 ≤ 35184372088832) (hn : n0 ≤ 100) (htot : totN es0 n0 ≤ 400) (hk1 : 1 ≤ k) (hk4 : k ≤ 4096) (hm8 : m ≤ 8192) (hm0 : m ≠ 0) (hn15 : n0 ≤ 15) (hdg : degN (jnN (es0.map lt) k (szN (es0.map lt) k m n0) n0) ≤ m) :
    Calls Tryd.prog 4 #[.slice A0 n0 c0, .int .i64 (k : Nat), .int .i64 (m : Nat)] w0 fun e w' => e = .returned (.bool true) ∧ Below w0.heap.size w0 w' := by
  refine enter Tryd.func4 rfl Tryd.ntmps4 rfl ?_
  intro a henv hst
  have hlen0 := h0.2.1
  have hbig0 := Nat.le_trans h0.1.cap h0.1.big
  unfold maxLen at hbig0
  replace hst := hst.argRow h0
  clear h0
  refine wp_seq ?_
  refine region_seq ?_
  refine sv (v := .bool false) henv rfl (rn_assign henv rfl) ?_
  clear henv a; intro a henv
  refine wpList_nil ?_
  refine th_n ?_
  refine wp_seq ?_
  refine wp_seq ?_
  refine region_seq ?_
  refine seq_step rfl (op_call henv rfl Tryd.call10 rfl l_works ?_)
  rintro e w51 ⟨rfl, hb⟩
  refine ⟨_, rfl, ?_⟩
  clear henv a; intro a henv
  replace hst := hst.call hb
  clear hb
  refine sv (v := .bool false) henv rfl (rn_un henv rfl rfl) ?_
  clear henv a; intro a henv
  refine wpList_nil ?_
  refine th_n ?_
  refine if_f henv rfl (rfl) ?_
  refine wp_skip ?_
  refine th_n ?_
  refine wp_seq ?_
  refine region_seq ?_
  refine sv (v := .int .i64 0) henv rfl (rn_assign henv rfl) ?_
  clear henv a; intro a henv
  refine wpList_nil ?_
  refine th_n ?_
  refine wp_seq ?_
  refine wp_seq ?_
  refine region_seq ?_
  revert a
  refine mA rfl rfl ?_
  refine sA (v := .int .i64 (n0 : Nat)) rfl (fun _ henv => rn_len henv Tryd.underlying42 rfl) ?_
  refine mA rfl rfl ?_
  intro a henv
  refine wpList_nil ?_
  refine th_n ?_
  refine wp_block ?_
  refine wp_loop_ghost (fun mz a w => ∃ j : Nat, ∃ s : Nat, n0 - j = mz ∧ Env 127 a [(0, .slice A0 n0 c0), (1, .int .i64 (k : Nat)), (2, .int .i64 (m : Nat)), (7, .int .i64 (s : Nat)), (20, .slice A0 n0 c0), (21, .int .i64 (n0 : Nat)), (22, .int .i64 (j : Nat))] ∧ St w0 w [] [pfRow fT FT 1 A0 n0 c0 es0] ∧ j ≤ n0 ∧ s = totN es0 j ∧ s ≤ j * 35184372088832) _ ⟨0, 0, rfl, henv.sub ⟨rfl, rfl, rfl, rfl, rfl, rfl, rfl, trivial⟩, hst.pick [] [0] (by decide), (Nat.zero_le _), rfl, (Nat.zero_le _)⟩ ?_
  clear henv hst a
  rintro mz a w52 ⟨j, s, rfl, henv, hst, hj, hs7, htb⟩
  refine wp_seq ?_
  refine region_seq ?_
  refine sv (v := .bool (decide (((j : Nat) : Int) < ((n0 : Nat) : Int)))) henv rfl (rn_bin henv rfl rfl rfl) ?_
  clear henv a; intro a henv
  refine wpList_nil ?_
  refine th_n ?_
  refine wp_seq ?_
  refine if_split henv rfl (fun hc53 => ?_) (fun hc53 => ?_)
  · have hlt : j < n0 := by have := of_decide_eq_true hc53; omega
    obtain ⟨⟨A, n, c, xs⟩, he0⟩ : ∃ e, es0[j]? = some e := ⟨_, List.getElem?_eq_getElem (by omega)⟩
    replace hst := hst.elem (k := 0) rfl he0
    replace hst : St w0 _ [] [pfRow fI FI 1 A n c xs, pfRow fT FT 1 A0 n0 c0 es0] := hst
    have hn45 : n ≤ 35184372088832 := hs _ (List.mem_of_getElem? he0)
    refine wp_skip ?_
    refine th_n ?_
    refine wp_seq ?_
    refine wp_block ?_
    refine wp_seq ?_
    refine region_seq ?_
    revert a
    refine sA (v := .pointer (some ⟨ab A0, ao A0 + j * 1, none⟩)) rfl (fun _ henv => rn_idxR (i := j) henv Tryd.underlying42 (ty__int64.size) rfl rfl (by omega) rfl (show (pfRow fT FT 1 A0 n0 c0 es0).P _ from (hst.pat (k := 1) rfl)).1) ?_
    refine sA (v := .slice A n c) rfl (fun _ henv => rn_loadE1 (i := j) (j := 0) (e := (A, n, c, xs)) henv ty__int64 rfl rfl fT_len (by decide) (show (pfRow fT FT 1 A0 n0 c0 es0).P _ from (hst.pat (k := 1) rfl)).1 (by omega) he0 rfl) ?_
    refine aA rfl rfl ?_
    intro a henv
    refine wpList_nil ?_
    refine th_n ?_
    refine region_seq ?_
    revert a
    refine mA rfl rfl ?_
    refine mA rfl rfl ?_
    refine sA (v := .int .i64 (n : Nat)) rfl (fun _ henv => rn_len henv Tryd.underlying22 rfl) ?_
    refine sA (v := .int .i64 (s + n : Nat)) rfl (fun _ henv => rn_add henv rfl rfl (by rw [IntWalk.i64_in _ (by omega)]; omega)) ?_
    refine aA rfl rfl ?_
    intro a henv
    refine wpList_nil ?_
    refine bl_n (th_n ?_)
    refine region_seq ?_
    revert a
    refine sA (v := .int .i64 (j + 1 : Nat)) rfl (fun _ henv => rn_add henv rfl rfl (by rw [IntWalk.i64_in _ (by omega)]; omega)) ?_
    refine mA rfl rfl ?_
    intro a henv
    refine wpList_nil ?_
    exact th_n ⟨_, (by omega), ⟨j + 1, s + n, rfl, henv.sub ⟨rfl, rfl, rfl, rfl, rfl, rfl, rfl, trivial⟩, hst.pick [] [1] (by decide), (by omega), (by rw [totN, tot_at he0, hs7]), (by rw [Nat.succ_mul]; omega)⟩⟩
  · obtain rfl : n0 = j := by have := of_decide_eq_false hc53; omega
    refine wp_exit ?_
    refine th_x (th_x (bl_x (th_n ?_)))
    refine wp_seq ?_
    refine wp_seq ?_
    refine region_seq ?_
    revert a
    refine mA rfl rfl ?_
    refine sA (v := .bool (decide (((s : Nat) : Int) > (400 : Int)))) rfl (fun _ henv => rn_bin henv rfl rfl rfl) ?_
    intro a henv
    rw [show (decide (((s : Nat) : Int) > (400 : Int))) = false from (decide_eq_false (by omega))] at henv
    revert a
    refine mA rfl rfl ?_
    refine gA (v := .slice A0 n0 c0) rfl rfl rfl rfl (fun _ henv => rn_move henv rfl) ?_
    refine gA (v := .int .i64 (n0 : Nat)) rfl rfl rfl rfl (fun _ henv => rn_len henv Tryd.underlying42 rfl) ?_
    refine gA (v := .bool (decide (((n0 : Nat) : Int) > (100 : Int)))) rfl rfl rfl rfl (fun _ henv => rn_bin henv rfl rfl rfl) ?_
    intro a henv
    rw [show (decide (((n0 : Nat) : Int) > (100 : Int))) = false from (decide_eq_false (by omega))] at henv
    refine sv (v := .bool false) henv rfl (rn_pick henv rfl rfl) ?_
    clear henv a; intro a henv
    refine wpList_nil ?_
    refine th_n ?_
    refine if_f henv rfl (rfl) ?_
    refine wp_skip ?_
    refine th_n ?_
    refine wp_seq ?_
    refine region_seq ?_
    refine sv (v := .slice none 0 0) henv rfl (rn_assign henv rfl) ?_
    clear henv a; intro a henv
    refine wpList_nil ?_
    refine th_n ?_
    refine wp_seq ?_
    refine region_seq ?_
    refine sv (v := .slice none 0 0) henv rfl (rn_assign henv rfl) ?_
    clear henv a; intro a henv
    refine wpList_nil ?_
    refine th_n ?_
    refine wp_seq ?_
    refine wp_seq ?_
    refine region_seq ?_
    revert a
    refine mA rfl rfl ?_
    refine sA (v := .int .i64 (n0 : Nat)) rfl (fun _ henv => rn_len henv Tryd.underlying42 rfl) ?_
    refine mA rfl rfl ?_
    intro a henv
    refine wpList_nil ?_
    refine th_n ?_
    refine wp_block ?_
    replace hst := (hst.addRowS notU 24 1).nilEs FL
    replace hst : St w0 _ [rowS notU 24 1 none 0 0 (fl fL ([]))] [pfEs FL ([]), pfRow fT FT 1 A0 n0 c0 es0] := hst
    replace hst := (hst.addRowS notU 33 1).nilEs FQ
    replace hst : St w0 _ [rowS notU 33 1 none 0 0 (fl fQ ([])), rowS notU 24 1 none 0 0 (fl fL ([]))] [pfEs FQ ([]), pfEs FL ([]), pfRow fT FT 1 A0 n0 c0 es0] := hst
    refine wp_loop_ghost (fun mz a w => ∃ j : Nat, ∃ B1 : Option Addr, ∃ d1 : Nat, ∃ os : List LE, ∃ B2 : Option Addr, ∃ d2 : Nat, ∃ qs : List LE, n0 - j = mz ∧ Env 127 a [(0, .slice A0 n0 c0), (1, .int .i64 (k : Nat)), (2, .int .i64 (m : Nat)), (10, .slice B1 j d1), (11, .slice B2 j d2), (38, .slice A0 n0 c0), (39, .int .i64 (n0 : Nat)), (40, .int .i64 (j : Nat))] ∧ St w0 w [rowS notU 33 1 B2 j d2 (fl fQ qs), rowS notU 24 1 B1 j d1 (fl fL os)] [pfEs FQ qs, pfEs FL os, pfRow fT FT 1 A0 n0 c0 es0] ∧ j ≤ n0 ∧ os.map lz = (es0.map lt).take j ∧ qs.map lz = (es0.map lt).take j ∧ (∀ v ∈ os, v.2.1 ≤ 400) ∧ (∀ v ∈ qs, v.2.1 ≤ 400)) _ ⟨0, none, 0, [], none, 0, [], rfl, henv.sub ⟨rfl, rfl, rfl, rfl, rfl, rfl, rfl, rfl, trivial⟩, hst.pick [0, 1] [0, 1, 2] (by decide), (Nat.zero_le _), rfl, rfl, (fun _ h => by cases h), (fun _ h => by cases h)⟩ ?_
    clear henv hst a
    rintro mz a w54 ⟨j, B1, d1, os, B2, d2, qs, rfl, henv, hst, hj, ho, hp, hol, hql⟩
    refine wp_seq ?_
    refine region_seq ?_
    refine sv (v := .bool (decide (((j : Nat) : Int) < ((n0 : Nat) : Int)))) henv rfl (rn_bin henv rfl rfl rfl) ?_
    clear henv a; intro a henv
    refine wpList_nil ?_
    refine th_n ?_
    refine wp_seq ?_
    refine if_split henv rfl (fun hc55 => ?_) (fun hc55 => ?_)
    · have hlt : j < n0 := by have := of_decide_eq_true hc55; omega
      obtain ⟨⟨A, n, c, xs⟩, he0⟩ : ∃ e, es0[j]? = some e := ⟨_, List.getElem?_eq_getElem (by omega)⟩
      replace hst := hst.elem (k := 2) rfl he0
      replace hst : St w0 _ [rowS notU 33 1 B2 j d2 (fl fQ qs), rowS notU 24 1 B1 j d1 (fl fL os)] [pfRow fI FI 1 A n c xs, pfEs FQ qs, pfEs FL os, pfRow fT FT 1 A0 n0 c0 es0] := hst
      have hn45 : n ≤ 35184372088832 := hs _ (List.mem_of_getElem? he0)
      have hn4 : n ≤ 400 := Nat.le_trans (tot_le hlt he0) htot
      refine wp_skip ?_
      refine th_n ?_
      refine wp_seq ?_
      refine wp_block ?_
      refine wp_seq ?_
      refine region_seq ?_
      revert a
      refine sA (v := .pointer (some ⟨ab A0, ao A0 + j * 1, none⟩)) rfl (fun _ henv => rn_idxR (i := j) henv Tryd.underlying42 (ty__int64.size) rfl rfl (by omega) rfl (show (pfRow fT FT 1 A0 n0 c0 es0).P _ from (hst.pat (k := 3) rfl)).1) ?_
      refine sA (v := .slice A n c) rfl (fun _ henv => rn_loadE1 (i := j) (j := 0) (e := (A, n, c, xs)) henv ty__int64 rfl rfl fT_len (by decide) (show (pfRow fT FT 1 A0 n0 c0 es0).P _ from (hst.pat (k := 3) rfl)).1 (by omega) he0 rfl) ?_
      refine aA rfl rfl ?_
      intro a henv
      refine wpList_nil ?_
      refine th_n ?_
      refine region_seq ?_
      revert a
      refine mA rfl rfl ?_
      refine mA rfl rfl ?_
      intro a henv
      refine seq_step rfl (op_call henv rfl Tryd.call11 rfl (l_list (es0 := xs) (hst.pat (k := 0) rfl) (hI _ (List.mem_of_getElem? he0)) (by omega)) ?_)
      rintro e w61 ⟨_, rfl, ⟨A56, c57, es58, rfl, hr, hl59, hz60⟩, hb⟩
      refine ⟨_, rfl, ?_⟩
      clear henv a; intro a henv
      replace hst := hst.freshRd hb hr hl59 (ap_N hr.2.1 ⟨nou_rowS, nou_rowS, trivial⟩)
      clear hr
      clear hb
      refine seq_step rfl (op_buildSlice (z := 1) (pv := #[(0, .slice A56 n c57)]) (c := #[.slice A56 n c57]) henv hst rfl Tryd.underlying26 (ty__integer_Int.size) zero__integer_Int (by decide) (by decide) rfl (by kernel_rfl) ?_)
      clear henv hst a; intro a w63 g62 henv hst
      refine seq_step rfl (op_appendS (k := 2) (j := 0) henv hst rfl Tryd.underlying26 inf__integer_Int rfl rfl rfl rfl rfl rfl rfl rfl rfl rfl rfl (by unfold maxLen; omega) (by omega) ?_)
      clear henv hst a; intro a w66 g64 c65 henv hst
      rw [show fl fL os ++ (#[.slice A56 n c57] : Array Value).toList = fl fL (os ++ [((A56 : Option Addr), n, c57, es58)]) from fl_snoc (f := fL) os ((A56 : Option Addr), n, c57, es58)] at hst
      replace hst := hst.snocEs (e := ((A56 : Option Addr), n, c57, es58)) (i := 3) (j := 0) rfl rfl
      revert a
      refine mA rfl rfl ?_
      refine mA rfl rfl ?_
      intro a henv
      refine seq_step rfl (op_call henv rfl Tryd.call15 rfl (l_ref (es0 := xs) (hst.pat (k := 2) rfl) (hI _ (List.mem_of_getElem? he0)) (by omega)) ?_)
      rintro e w72 ⟨_, rfl, ⟨A67, c68, es69, rfl, hr, hl70, hz71⟩, hb⟩
      refine ⟨_, rfl, ?_⟩
      clear henv a; intro a henv
      replace hst := hst.freshRd hb hr hl70 (ap_M hr.2.1 ⟨nou_bk rfl, nou_rowS, nou_rowS, trivial⟩)
      clear hr
      clear hb
      refine seq_step rfl (op_buildSlice (z := 1) (pv := #[(0, .slice A67 n c68)]) (c := #[.slice A67 n c68]) henv hst rfl Tryd.underlying31 (ty_anvil_anvilref20_Poly.size) zero_anvil_anvilref20_Poly (by decide) (by decide) rfl (by kernel_rfl) ?_)
      clear henv hst a; intro a w74 g73 henv hst
      refine seq_step rfl (op_appendS (k := 2) (j := 0) henv hst rfl Tryd.underlying31 inf_anvil_anvilref20_Poly rfl rfl rfl rfl rfl rfl rfl rfl rfl rfl rfl (by unfold maxLen; omega) (by omega) ?_)
      clear henv hst a; intro a w77 g75 c76 henv hst
      rw [show fl fQ qs ++ (#[.slice A67 n c68] : Array Value).toList = fl fQ (qs ++ [((A67 : Option Addr), n, c68, es69)]) from fl_snoc (f := fQ) qs ((A67 : Option Addr), n, c68, es69)] at hst
      replace hst := hst.snocEs (e := ((A67 : Option Addr), n, c68, es69)) (i := 4) (j := 0) rfl rfl
      revert a
      refine aA rfl rfl ?_
      refine aA rfl rfl ?_
      intro a henv
      refine wpList_nil ?_
      refine bl_n (th_n ?_)
      refine region_seq ?_
      revert a
      refine sA (v := .int .i64 (j + 1 : Nat)) rfl (fun _ henv => rn_add henv rfl rfl (by rw [IntWalk.i64_in _ (by omega)]; omega)) ?_
      refine mA rfl rfl ?_
      intro a henv
      refine wpList_nil ?_
      exact th_n ⟨_, (by omega), ⟨j + 1, (some ⟨g64, 0, none⟩), c65, (os ++ [((A56 : Option Addr), n, c57, es58)]), (some ⟨g75, 0, none⟩), c76, (qs ++ [((A67 : Option Addr), n, c68, es69)]), rfl, henv.sub ⟨rfl, rfl, rfl, rfl, rfl, rfl, rfl, rfl, trivial⟩, hst.pick [2, 3] [0, 2, 7] (by decide), (by omega), (lt_step ho he0 hz60), (lt_step hp he0 hz71), (le_snoc hol (by omega)), (le_snoc hql (by omega))⟩⟩
    · obtain rfl : n0 = j := by have := of_decide_eq_false hc55; omega
      refine wp_exit ?_
      refine th_x (th_x (bl_x (th_n ?_)))
      refine wp_seq ?_
      have htk : (es0.map lt).take n0 = es0.map lt := List.take_of_length_le (by rw [List.length_map]; omega)
      rw [htk] at ho hp
      have hol1 : os.length = n0 := map_len ho (by rw [List.length_map]; exact hlen0)
      have hql1 : qs.length = n0 := map_len hp (by rw [List.length_map]; exact hlen0)
      replace hst := hst.giveRow (k := 1) (j := 1) rfl rfl hol1
      have hzk : Zk 20000 ((jnN (es0.map lt) k (szN (es0.map lt) k m n0) n0).take m) := jn_zk hI (part_lens (hst.pat (k := 0) rfl) ho hol) hn15
      replace hst : St w0 _ [rowS notU 33 1 B2 n0 d2 (fl fQ qs)] [pfRow fL FL 1 B1 n0 d1 os, pfRd 1 B1 n0 d1 (fl fL os), pfEs FQ qs, pfEs FL os, pfRow fT FT 1 A0 n0 c0 es0] := hst
      replace hst := hst.giveRow (k := 0) (j := 2) rfl rfl hql1
      replace hst : St w0 _ [] [pfRow fQ FQ 1 B2 n0 d2 qs, pfRd 1 B2 n0 d2 (fl fQ qs), pfRow fL FL 1 B1 n0 d1 os, pfRd 1 B1 n0 d1 (fl fL os), pfEs FQ qs, pfEs FL os, pfRow fT FT 1 A0 n0 c0 es0] := hst
      refine region_seq ?_
      revert a
      refine mA rfl rfl ?_
      refine mA rfl rfl ?_
      refine mA rfl rfl ?_
      intro a henv
      refine seq_step rfl (op_call henv rfl Tryd.call18 rfl (sp_join_ok (hst.pat (k := 2) rfl) ho (fun v hv => Nat.le_trans (hol v hv) (by decide)) (lt_zk ho hI) hn15 hk1 hk4 hm8 hm0 (by omega)) ?_)
      rintro e w82 ⟨_, rfl, ⟨A78, c79, es80, rfl, hp1, hz81⟩, hb⟩
      refine ⟨_, rfl, ?_⟩
      clear henv a; intro a henv
      replace hst := (hst.call hb).argRow hp1
      clear hp1
      obtain ⟨ad, rfl⟩ := row_some hm0 (hst.pat (k := 0) rfl)
      clear hb
      revert a
      refine mA rfl rfl ?_
      refine sA (v := .slice (some ad) m c79) rfl (fun _ henv => rn_extract henv rfl rfl) ?_
      refine sA (v := .int .i64 0) rfl (fun _ henv => rn_extract henv rfl rfl) ?_
      refine aA rfl rfl ?_
      refine aA rfl rfl ?_
      intro a henv
      refine wpList_nil ?_
      refine th_n ?_
      refine wp_seq ?_
      refine wp_block ?_
      refine wp_seq ?_
      refine region_seq ?_
      revert a
      refine mA rfl rfl ?_
      refine sA (v := .bool (decide (((k : Nat) : Int) < (1 : Int)))) rfl (fun _ henv => rn_bin henv rfl rfl rfl) ?_
      intro a henv
      rw [show (decide (((k : Nat) : Int) < (1 : Int))) = false from (decide_eq_false (by omega))] at henv
      revert a
      refine mA rfl rfl ?_
      refine gA (v := .int .i64 (k : Nat)) rfl rfl rfl rfl (fun _ henv => rn_move henv rfl) ?_
      refine gA (v := .bool (decide (((k : Nat) : Int) > (4096 : Int)))) rfl rfl rfl rfl (fun _ henv => rn_bin henv rfl rfl rfl) ?_
      intro a henv
      rw [show (decide (((k : Nat) : Int) > (4096 : Int))) = false from (decide_eq_false (by omega))] at henv
      revert a
      refine sA (v := .bool false) rfl (fun _ henv => rn_pick henv rfl rfl) ?_
      refine mA rfl rfl ?_
      refine gA (v := .int .i64 (m : Nat)) rfl rfl rfl rfl (fun _ henv => rn_move henv rfl) ?_
      refine gA (v := .bool (decide (((m : Nat) : Int) < (0 : Int)))) rfl rfl rfl rfl (fun _ henv => rn_bin henv rfl rfl rfl) ?_
      intro a henv
      rw [show (decide (((m : Nat) : Int) < (0 : Int))) = false from (decide_eq_false (by omega))] at henv
      revert a
      refine sA (v := .bool false) rfl (fun _ henv => rn_pick henv rfl rfl) ?_
      refine mA rfl rfl ?_
      refine gA (v := .int .i64 (m : Nat)) rfl rfl rfl rfl (fun _ henv => rn_move henv rfl) ?_
      refine gA (v := .bool (decide (((m : Nat) : Int) > (8192 : Int)))) rfl rfl rfl rfl (fun _ henv => rn_bin henv rfl rfl rfl) ?_
      intro a henv
      rw [show (decide (((m : Nat) : Int) > (8192 : Int))) = false from (decide_eq_false (by omega))] at henv
      revert a
      refine sA (v := .bool false) rfl (fun _ henv => rn_pick henv rfl rfl) ?_
      refine aA rfl rfl ?_
      intro a henv
      refine wpList_nil ?_
      refine th_n ?_
      refine if_f henv rfl (rfl) ?_
      refine wp_seq ?_
      refine region_seq ?_
      revert a
      refine mA rfl rfl ?_
      refine sA (v := .int .i64 (n0 : Nat)) rfl (fun _ henv => rn_len henv Tryd.underlying42 rfl) ?_
      refine sA (v := .bool (decide (((n0 : Nat) : Int) > (15 : Int)))) rfl (fun _ henv => rn_bin henv rfl rfl rfl) ?_
      intro a henv
      rw [show (decide (((n0 : Nat) : Int) > (15 : Int))) = false from (decide_eq_false (by omega))] at henv
      refine sv (v := .bool false) henv rfl (rn_assign henv rfl) ?_
      clear henv a; intro a henv
      refine wpList_nil ?_
      refine th_n ?_
      refine if_f henv rfl (rfl) ?_
      refine wp_skip ?_
      refine bl_n (th_n ?_)
      refine wp_seq ?_
      refine region_seq ?_
      revert a
      refine mA rfl rfl ?_
      refine mA rfl rfl ?_
      refine mA rfl rfl ?_
      intro a henv
      refine seq_step rfl (op_call henv rfl Tryd.call19 rfl (ref_join_ok (hst.pat (k := 1) rfl) hp (fun v hv => Nat.le_trans (hql v hv) (by decide)) (lt_zk hp hI) hn15 hk4 hm8 (by rw [← sz_max]; omega)) ?_)
      rintro e w87 ⟨_, rfl, ⟨A83, c84, es85, rfl, hp1, hz86⟩, hb⟩
      refine ⟨_, rfl, ?_⟩
      clear henv a; intro a henv
      replace hst := (hst.call hb).argRow hp1
      clear hp1
      clear hb
      revert a
      refine mA rfl rfl ?_
      refine sA (v := .slice A83 m c84) rfl (fun _ henv => rn_extract henv rfl rfl) ?_
      refine sA (v := .bool true) rfl (fun _ henv => rn_extract henv rfl rfl) ?_
      refine aA rfl rfl ?_
      refine aA rfl rfl ?_
      intro a henv
      refine wpList_nil ?_
      refine th_n ?_
      refine wp_seq ?_
      refine wp_seq ?_
      refine region_seq ?_
      revert a
      refine mA rfl rfl ?_
      refine sA (v := .bool false) rfl (fun _ henv => rn_un henv rfl rfl) ?_
      intro a henv
      refine wpList_nil ?_
      refine th_n ?_
      refine if_f henv rfl (rfl) ?_
      refine wp_skip ?_
      refine th_n ?_
      refine wp_seq ?_
      refine region_seq ?_
      revert a
      refine mA rfl rfl ?_
      refine sA (v := .bool true) rfl (fun _ henv => rn_bin henv rfl rfl rfl) ?_
      refine mA rfl rfl ?_
      refine gA (v := .slice (some ad) m c79) rfl rfl rfl rfl (fun _ henv => rn_move henv rfl) ?_
      refine gA (v := .slice A83 m c84) rfl rfl rfl rfl (fun _ henv => rn_move henv rfl) ?_
      intro a henv
      refine seq_g rfl henv rfl rfl (op_call henv rfl Tryd.call16 rfl (l_is (xs := ((jnN (es0.map lt) k (szN (es0.map lt) k m n0) n0).take m)) (ys := ((jnN (es0.map lt) k (szN (es0.map lt) k m n0) n0).take m)) (hst.pat (k := 1) rfl) hz81 (hst.pat (k := 0) rfl) (hz86.trans (by rw [← sz_max])) hzk hzk) ?_)
      rintro e w88 ⟨rfl, hb⟩
      refine ⟨_, rfl, ?_⟩
      clear henv a; intro a henv
      replace hst := hst.call hb
      clear hb
      rw [show (decide ((((jnN (es0.map lt) k (szN (es0.map lt) k m n0) n0).take m) : List Int) = ((jnN (es0.map lt) k (szN (es0.map lt) k m n0) n0).take m))) = true from (decide_eq_true rfl)] at henv
      revert a
      refine sA (v := .bool true) rfl (fun _ henv => rn_pick henv rfl rfl) ?_
      refine mA rfl rfl ?_
      refine gA (v := .slice (some ad) m c79) rfl rfl rfl rfl (fun _ henv => rn_move henv rfl) ?_
      refine gA (v := .bool false) rfl rfl rfl rfl (fun _ henv => rn_nilS (A := some ad) henv Tryd.underlying24 rfl) ?_
      refine gA (v := .int .i64 (m : Nat)) rfl rfl rfl rfl (fun _ henv => rn_move henv rfl) ?_
      refine gA (v := .bool (((m : Nat) : Int) == (0 : Int))) rfl rfl rfl rfl (fun _ henv => rn_bin henv rfl rfl rfl) ?_
      intro a henv
      rw [show (((m : Nat) : Int) == (0 : Int)) = false from (beq_eq_false_iff_ne.2 (by omega))] at henv
      refine seq_g rfl henv rfl rfl (op_val (v := .bool (false == false)) henv rfl (rn_eqlb henv Tryd.underlying4 rfl rfl) ?_)
      clear henv a; intro a henv
      rw [show (false == false) = true from (by decide)] at henv
      revert a
      refine sA (v := .bool true) rfl (fun _ henv => rn_pick henv rfl rfl) ?_
      refine mA rfl rfl ?_
      refine gA (v := .slice B1 n0 d1) rfl rfl rfl rfl (fun _ henv => rn_move henv rfl) ?_
      refine gA (v := .slice B2 n0 d2) rfl rfl rfl rfl (fun _ henv => rn_move henv rfl) ?_
      intro a henv
      refine seq_g rfl henv rfl rfl (op_call henv rfl Tryd.call13 rfl (eq_rows (hst.pat (k := 4) rfl) (hst.pat (k := 2) rfl) (lt_zk2 ho hI) (lt_zk2 hp hI)) ?_)
      rintro e w89 ⟨rfl, hb⟩
      refine ⟨_, rfl, ?_⟩
      clear henv a; intro a henv
      replace hst := hst.call hb
      clear hb
      rw [show (decide (os.map lz = qs.map lz)) = true from (decide_eq_true (ho.trans hp.symm))] at henv
      revert a
      refine sA (v := .bool true) rfl (fun _ henv => rn_pick henv rfl rfl) ?_
      refine aA rfl rfl ?_
      intro a henv
      refine wpList_nil ?_
      refine th_n ?_
      refine wp_ret ?_
      refine leave henv (res1 Tryd.results4 (RV.tmp henv rfl)) ?_
      exact ⟨rfl, hst.below⟩
theorem joins_law {A0 : Option Addr} {n0 c0 : Nat} {es0 : List TE} {k m : Int} {w0 : World} (h0 : (pfRow fT FT 1 A0 n0 c0 es0).P w0) (hI : ∀ v ∈ es0, I64 v.2.2.2) (hs : ∀ v ∈ es0, v.2.1 ≤ 35184372088832) (_b1 : -9223372036854775808 ≤ k ∧ k ≤ 9223372036854775807) (_b2 : -9223372036854775808 ≤ m ∧ m ≤ 9223372036854775807) :
    Calls Tryd.prog 4 #[.slice A0 n0 c0, .int .i64 k, .int .i64 m] w0 fun e w' => e = .returned (.bool true) ∧ Below w0.heap.size w0 w' := by
  rcases Nat.lt_or_ge 100 n0 with hn | hn
  · exact joins_wrap h0 hI hs hn
  rcases Nat.lt_or_ge 400 (totN es0 n0) with ht | ht
  · exact joins_big h0 hI hs hn ht
  by_cases hbad : k < 1 ∨ 4096 < k ∨ m < 0 ∨ 8192 < m
  · exact joins_arg h0 hI hs hn ht hbad
  rcases Nat.lt_or_ge 15 n0 with h15 | h15
  · exact joins_many h0 hI hs hn ht (by omega) (by omega) (by omega) (by omega) h15
  obtain ⟨k, rfl⟩ := Int.eq_ofNat_of_zero_le (show 0 ≤ k by omega)
  obtain ⟨m, rfl⟩ := Int.eq_ofNat_of_zero_le (show 0 ≤ m by omega)
  rcases Nat.lt_or_ge m (degN (jnN (es0.map lt) k (szN (es0.map lt) k m n0) n0)) with hd | hd
  · exact joins_bad h0 hI hs hn ht (by omega) (by omega) (by omega) h15 hd
  · by_cases hm : m = 0
    · subst hm
      exact joins_zero h0 hI hs hn ht (by omega) (by omega) h15 hd
    · exact joins_ok h0 hI hs hn ht (by omega) (by omega) (by omega) hm h15 hd
end Go.Proofs.YtoojllfijfjmoaaDoor.W
