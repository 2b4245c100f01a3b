/- Check, right, long. Printed by pv/gen_g1.py. No condition. -/
import Derived.Test.YtbdngknpngcojaaDoorM47
import Derived.Test.YtbdngknpngcojaaDoorM15
import Derived.Test.YtbdngknpngcojaaDoorM46
import Derived.Test.YtbdngknpngcojaaDoorM16

namespace Go.Proofs.YtbdngknpngcojaaDoor.W
open Go.RowKit Anv Go.Lib
set_option maxRecDepth 100000 in
set_option maxHeartbeats 4000000 in
theorem g_check_ok {i g : Int} {A0 A1 : Option Addr} {n0 c0 n1 c1 : Nat} {es0 : List IE} {es1 : List Int} {w0 : World} (h0 : (pfRow fJ FJ 5 A0 n0 c0 es0).P w0) (h1 : (pfRow fI FI 1 A1 n1 c1 es1).P w0) (hH : HeadOk i g n0 n1) (hO : ∀ x ∈ es1, 0 ≤ x ∧ x < g) (hM : ∀ e ∈ es0, May e g) :
    Calls Tryd.prog 11 #[.agg #[.int .i64 i, .int .i64 g, .slice A0 n0 c0, .slice A1 n1 c1]] w0 fun e w' => e = .returned (.tuple #[.int .i64 0, .int .i64 0]) ∧ Below w0.heap.size w0 w' := by
  obtain ⟨hh1, hh2, hh3, hh4, hh5, hh6⟩ := hH
  refine enter Tryd.func11 rfl Tryd.ntmps11 rfl ?_
  intro a henv hst
  have hlen0 := h0.2.1
  have hbig0 := Nat.le_trans h0.1.cap h0.1.big
  unfold maxLen at hbig0
  have hlen1 := h1.2.1
  have hbig1 := Nat.le_trans h1.1.cap h1.1.big
  unfold maxLen at hbig1
  replace hst := (hst.argRow h1).argRow h0
  clear h0 h1
  refine wp_seq ?_
  refine region_seq ?_
  refine seq_step rfl (op_box (c := #[.int .i64 i, .int .i64 g, .slice A0 n0 c0, .slice A1 n1 c1]) henv hst rfl rfl rfl ?_)
  clear henv hst a; intro a w52 g51 henv hst
  revert a
  refine aA rfl rfl ?_
  refine aA rfl rfl ?_
  intro a henv
  refine wpList_nil ?_
  refine th_n ?_
  refine wp_seq ?_
  refine wp_seq ?_
  refine region_seq ?_
  revert a
  refine sA (v := .pointer (some ⟨g51, 0, none⟩)) rfl (fun _ henv => rn_fieldAddr henv fd_anvil_api_Prog_0 (ty_int.size) (by decide) rfl) ?_
  refine sA (v := .int .i64 i) rfl (fun _ henv => rn_load1 henv ty_int rfl (hst.oat (k := 0) rfl) rfl) ?_
  refine sA (v := .bool (decide (i < (1 : Int)))) rfl (fun _ henv => rn_bin henv rfl rfl rfl) ?_
  intro a henv
  rw [show (decide (i < (1 : Int))) = false from (decide_eq_false (by omega))] at henv
  revert a
  refine mA rfl rfl ?_
  refine gA (v := .pointer (some ⟨g51, 0, none⟩)) rfl rfl rfl rfl (fun _ henv => rn_fieldAddr henv fd_anvil_api_Prog_0 (ty_int.size) (by decide) rfl) ?_
  refine gA (v := .int .i64 i) rfl rfl rfl rfl (fun _ henv => rn_load1 henv ty_int rfl (hst.oat (k := 0) rfl) rfl) ?_
  refine gA (v := .pointer (some ⟨g51, 1, none⟩)) rfl rfl rfl rfl (fun _ henv => rn_fieldAddr henv fd_anvil_api_Prog_1 (ty_int.size) (by decide) rfl) ?_
  refine gA (v := .int .i64 g) rfl rfl rfl rfl (fun _ henv => rn_load1 henv ty_int rfl (hst.oat (k := 0) rfl) rfl) ?_
  refine gA (v := .bool (decide (i > g))) rfl rfl rfl rfl (fun _ henv => rn_bin henv rfl rfl rfl) ?_
  intro a henv
  rw [show (decide (i > g)) = false from (decide_eq_false (by omega))] at henv
  revert a
  refine sA (v := .bool false) rfl (fun _ henv => rn_pick henv rfl rfl) ?_
  refine mA rfl rfl ?_
  refine gA (v := .pointer (some ⟨g51, 1, none⟩)) rfl rfl rfl rfl (fun _ henv => rn_fieldAddr henv fd_anvil_api_Prog_1 (ty_int.size) (by decide) rfl) ?_
  refine gA (v := .int .i64 g) rfl rfl rfl rfl (fun _ henv => rn_load1 henv ty_int rfl (hst.oat (k := 0) rfl) rfl) ?_
  refine gA (v := .bool (decide (g > (128 : Int)))) rfl rfl rfl rfl (fun _ henv => rn_bin henv rfl rfl rfl) ?_
  intro a henv
  rw [show (decide (g > (128 : Int))) = false from (decide_eq_false (by omega))] at henv
  revert a
  refine sA (v := .bool false) rfl (fun _ henv => rn_pick henv rfl rfl) ?_
  refine mA rfl rfl ?_
  refine gA (v := .pointer (some ⟨g51, 2, none⟩)) rfl rfl rfl rfl (fun _ henv => rn_fieldAddr henv fd_anvil_api_Prog_2 (ty__api_Instr.size) (by decide) rfl) ?_
  refine gA (v := .slice A0 n0 c0) rfl rfl rfl rfl (fun _ henv => rn_load1 henv ty__api_Instr rfl (hst.oat (k := 0) rfl) rfl) ?_
  refine gA (v := .int .i64 (n0 : Nat)) rfl rfl rfl rfl (fun _ henv => rn_len henv Tryd.underlying22 rfl) ?_
  refine gA (v := .bool (decide (((n0 : Nat) : Int) > (16384 : Int)))) rfl rfl rfl rfl (fun _ henv => rn_bin henv rfl rfl rfl) ?_
  intro a henv
  rw [show (decide (((n0 : Nat) : Int) > (16384 : Int))) = false from (decide_eq_false (by omega))] at henv
  revert a
  refine sA (v := .bool false) rfl (fun _ henv => rn_pick henv rfl rfl) ?_
  refine mA rfl rfl ?_
  refine gA (v := .pointer (some ⟨g51, 3, none⟩)) rfl rfl rfl rfl (fun _ henv => rn_fieldAddr henv fd_anvil_api_Prog_3 (ty__int.size) (by decide) rfl) ?_
  refine gA (v := .slice A1 n1 c1) rfl rfl rfl rfl (fun _ henv => rn_load1 henv ty__int rfl (hst.oat (k := 0) rfl) rfl) ?_
  refine gA (v := .int .i64 (n1 : Nat)) rfl rfl rfl rfl (fun _ henv => rn_len henv Tryd.underlying23 rfl) ?_
  refine gA (v := .bool (decide (((n1 : Nat) : Int) < (1 : Int)))) rfl rfl rfl rfl (fun _ henv => rn_bin henv rfl rfl rfl) ?_
  intro a henv
  rw [show (decide (((n1 : Nat) : Int) < (1 : Int))) = false from (decide_eq_false (by omega))] at henv
  revert a
  refine sA (v := .bool false) rfl (fun _ henv => rn_pick henv rfl rfl) ?_
  refine mA rfl rfl ?_
  refine gA (v := .pointer (some ⟨g51, 3, none⟩)) rfl rfl rfl rfl (fun _ henv => rn_fieldAddr henv fd_anvil_api_Prog_3 (ty__int.size) (by decide) rfl) ?_
  refine gA (v := .slice A1 n1 c1) rfl rfl rfl rfl (fun _ henv => rn_load1 henv ty__int rfl (hst.oat (k := 0) rfl) rfl) ?_
  refine gA (v := .int .i64 (n1 : Nat)) rfl rfl rfl rfl (fun _ henv => rn_len henv Tryd.underlying23 rfl) ?_
  refine gA (v := .bool (decide (((n1 : Nat) : Int) > (128 : Int)))) rfl rfl rfl rfl (fun _ henv => rn_bin henv rfl rfl rfl) ?_
  intro a henv
  rw [show (decide (((n1 : Nat) : Int) > (128 : Int))) = false from (decide_eq_false (by omega))] at henv
  refine sv (v := .bool false) henv rfl (rn_pick henv rfl rfl) ?_
  clear henv a; intro a henv
  refine wpList_nil ?_
  refine th_n ?_
  refine if_f henv rfl (rfl) ?_
  refine wp_skip ?_
  refine th_n ?_
  refine wp_seq ?_
  refine wp_seq ?_
  refine region_seq ?_
  revert a
  refine sA (v := .pointer (some ⟨g51, 3, none⟩)) rfl (fun _ henv => rn_fieldAddr henv fd_anvil_api_Prog_3 (ty__int.size) (by decide) rfl) ?_
  refine sA (v := .slice A1 n1 c1) rfl (fun _ henv => rn_load1 henv ty__int rfl (hst.oat (k := 0) rfl) rfl) ?_
  refine sA (v := .int .i64 (n1 : Nat)) rfl (fun _ henv => rn_len henv Tryd.underlying23 rfl) ?_
  refine mA rfl rfl ?_
  intro a henv
  refine wpList_nil ?_
  refine th_n ?_
  refine wp_block ?_
  refine wp_loop_ghost (fun mz a w => ∃ j : Nat, n1 - j = mz ∧ Env 72 a [(1, .pointer (some ⟨g51, 0, none⟩)), (2, .int .i64 0), (3, .int .i64 0), (42, .slice A1 n1 c1), (43, .int .i64 (n1 : Nat)), (44, .int .i64 (j : Nat))] ∧ St w0 w [bk g51 #[.int .i64 i, .int .i64 g, .slice A0 n0 c0, .slice A1 n1 c1] 25] [pfRow fJ FJ 5 A0 n0 c0 es0, pfRow fI FI 1 A1 n1 c1 es1] ∧ j ≤ n1) _ ⟨0, rfl, henv.sub ⟨rfl, rfl, rfl, rfl, rfl, rfl, trivial⟩, hst.pick [0] [0, 1] (by decide), (Nat.zero_le _)⟩ ?_
  clear henv hst a
  rintro mz a w53 ⟨j, rfl, henv, hst, hj⟩
  refine wp_seq ?_
  refine region_seq ?_
  refine sv (v := .bool (decide (((j : Nat) : Int) < ((n1 : Nat) : Int)))) henv rfl (rn_bin henv rfl rfl rfl) ?_
  clear henv a; intro a henv
  refine wpList_nil ?_
  refine th_n ?_
  refine wp_seq ?_
  refine if_split henv rfl (fun hc54 => ?_) (fun hc54 => ?_)
  · have hlt : j < n1 := by have := of_decide_eq_true hc54; omega
    obtain ⟨x, he1⟩ : ∃ x, es1[j]? = some x := ⟨_, List.getElem?_eq_getElem (by omega)⟩
    have hxo := hO x (List.mem_of_getElem? he1)
    refine wp_skip ?_
    refine th_n ?_
    refine wp_seq ?_
    refine wp_block ?_
    refine wp_seq ?_
    refine region_seq ?_
    revert a
    refine sA (v := .pointer (some ⟨ab A1, ao A1 + j * 1, none⟩)) rfl (fun _ henv => rn_idxR (i := j) henv Tryd.underlying23 (ty_int.size) rfl rfl (by omega) rfl (show (pfRow fI FI 1 A1 n1 c1 es1).P _ from (hst.pat (k := 1) rfl)).1) ?_
    refine sA (v := .int .i64 x) rfl (fun _ henv => rn_loadE1 (i := j) (j := 0) (e := x) henv ty_int rfl rfl fI_len (by decide) (show (pfRow fI FI 1 A1 n1 c1 es1).P _ from (hst.pat (k := 1) rfl)).1 (by omega) he1 rfl) ?_
    refine aA rfl rfl ?_
    intro a henv
    refine wpList_nil ?_
    refine th_n ?_
    refine wp_seq ?_
    refine region_seq ?_
    revert a
    refine mA rfl rfl ?_
    refine sA (v := .bool (decide (x < (0 : Int)))) rfl (fun _ henv => rn_bin henv rfl rfl rfl) ?_
    intro a henv
    rw [show (decide (x < (0 : Int))) = false from (decide_eq_false (by omega))] at henv
    revert a
    refine mA rfl rfl ?_
    refine gA (v := .int .i64 x) rfl rfl rfl rfl (fun _ henv => rn_move henv rfl) ?_
    refine gA (v := .pointer (some ⟨g51, 1, none⟩)) rfl rfl rfl rfl (fun _ henv => rn_fieldAddr henv fd_anvil_api_Prog_1 (ty_int.size) (by decide) rfl) ?_
    refine gA (v := .int .i64 g) rfl rfl rfl rfl (fun _ henv => rn_load1 henv ty_int rfl (hst.oat (k := 0) rfl) rfl) ?_
    refine gA (v := .bool (decide (x ≥ g))) rfl rfl rfl rfl (fun _ henv => rn_bin henv rfl rfl rfl) ?_
    intro a henv
    rw [show (decide (x ≥ g)) = false from (decide_eq_false (by omega))] at henv
    refine sv (v := .bool false) henv rfl (rn_pick henv rfl rfl) ?_
    clear henv a; intro a henv
    refine wpList_nil ?_
    refine th_n ?_
    refine if_f henv rfl (rfl) ?_
    refine wp_skip ?_
    refine bl_n (th_n ?_)
    refine region_seq ?_
    revert a
    refine sA (v := .int .i64 (j + 1 : Nat)) rfl (fun _ henv => rn_add henv rfl rfl (by rw [IntWalk.i64_in _ (by omega)]; omega)) ?_
    refine mA rfl rfl ?_
    intro a henv
    refine wpList_nil ?_
    exact th_n ⟨_, (by omega), ⟨j + 1, rfl, henv.sub ⟨rfl, rfl, rfl, rfl, rfl, rfl, trivial⟩, hst.pick [0] [0, 1] (by decide), (by omega)⟩⟩
  · have hje : j = n1 := by have := of_decide_eq_false hc54; omega
    refine wp_exit ?_
    refine th_x (th_x (bl_x (th_n ?_)))
    refine wp_seq ?_
    refine wp_seq ?_
    refine region_seq ?_
    revert a
    refine sA (v := .pointer (some ⟨g51, 2, none⟩)) rfl (fun _ henv => rn_fieldAddr henv fd_anvil_api_Prog_2 (ty__api_Instr.size) (by decide) rfl) ?_
    refine sA (v := .slice A0 n0 c0) rfl (fun _ henv => rn_load1 henv ty__api_Instr rfl (hst.oat (k := 0) rfl) rfl) ?_
    refine sA (v := .int .i64 (n0 : Nat)) rfl (fun _ henv => rn_len henv Tryd.underlying22 rfl) ?_
    refine mA rfl rfl ?_
    intro a henv
    refine wpList_nil ?_
    refine th_n ?_
    refine wp_block ?_
    refine wp_loop_ghost (fun mz a w => ∃ j : Nat, n0 - j = mz ∧ Env 72 a [(1, .pointer (some ⟨g51, 0, none⟩)), (2, .int .i64 0), (3, .int .i64 0), (58, .slice A0 n0 c0), (59, .int .i64 (n0 : Nat)), (60, .int .i64 (j : Nat))] ∧ St w0 w [bk g51 #[.int .i64 i, .int .i64 g, .slice A0 n0 c0, .slice A1 n1 c1] 25] [pfRow fJ FJ 5 A0 n0 c0 es0, pfRow fI FI 1 A1 n1 c1 es1] ∧ j ≤ n0) _ ⟨0, rfl, henv.sub ⟨rfl, rfl, rfl, rfl, rfl, rfl, trivial⟩, hst.pick [0] [0, 1] (by decide), (Nat.zero_le _)⟩ ?_
    clear henv hst a
    rintro mz a w55 ⟨j, rfl, henv, hst, hj⟩
    refine wp_seq ?_
    refine region_seq ?_
    refine sv (v := .bool (decide (((j : Nat) : Int) < ((n0 : Nat) : Int)))) henv rfl (rn_bin henv rfl rfl rfl) ?_
    clear henv a; intro a henv
    refine wpList_nil ?_
    refine th_n ?_
    refine wp_seq ?_
    refine if_split henv rfl (fun hc56 => ?_) (fun hc56 => ?_)
    · have hlt : j < n0 := by have := of_decide_eq_true hc56; omega
      obtain ⟨⟨op, tr, ra, rb, cn⟩, he0⟩ : ∃ e, es0[j]? = some e := ⟨_, List.getElem?_eq_getElem (by omega)⟩
      have hmy : May (op, tr, ra, rb, cn) g := hM _ (List.mem_of_getElem? he0)
      refine wp_skip ?_
      refine th_n ?_
      refine wp_seq ?_
      refine wp_block ?_
      refine wp_seq ?_
      refine region_seq ?_
      revert a
      refine mA rfl rfl ?_
      refine sA (v := .pointer (some ⟨ab A0, ao A0 + j * 5, none⟩)) rfl (fun _ henv => rn_idxR (i := j) henv Tryd.underlying22 (ty_anvil_api_Instr.size) rfl rfl (by omega) rfl (show (pfRow fJ FJ 5 A0 n0 c0 es0).P _ from (hst.pat (k := 0) rfl)).1) ?_
      refine sA (v := .agg #[.int .i64 op, .int .i64 tr, .int .i64 ra, .int .i64 rb, .int .i64 cn]) rfl (fun _ henv => rn_loadE (i := j) (e := (op, tr, ra, rb, cn)) henv ty_anvil_api_Instr rfl rfl fJ_len (show (pfRow fJ FJ 5 A0 n0 c0 es0).P _ from (hst.pat (k := 0) rfl)).1 (by omega) he0 rfl) ?_
      intro a henv
      refine seq_step rfl (op_alloc (c := #[.int .i64 0, .int .i64 0, .int .i64 0, .int .i64 0, .int .i64 0]) henv hst rfl zero_anvil_api_Instr rfl ?_)
      clear henv hst a; intro a w58 g57 henv hst
      refine sv (v := .int .i64 (j : Nat)) henv rfl (rn_assign henv rfl) ?_
      clear henv a; intro a henv
      refine seq_step rfl (op_store (k := 0) (c' := #[.int .i64 op, .int .i64 tr, .int .i64 ra, .int .i64 rb, .int .i64 cn]) henv hst (ty_anvil_api_Instr.size) rfl rfl rfl rfl (by simp) rfl rfl ?_)
      clear henv hst a; intro a w59 henv hst
      refine wpList_nil ?_
      refine th_n ?_
      refine wp_seq ?_
      refine region_seq ?_
      revert a
      refine sA (v := .agg #[.int .i64 op, .int .i64 tr, .int .i64 ra, .int .i64 rb, .int .i64 cn]) rfl (fun _ henv => rn_load0 henv ty_anvil_api_Instr rfl (hst.oat (k := 0) rfl) rfl) ?_
      refine sA (v := .pointer (some ⟨g51, 1, none⟩)) rfl (fun _ henv => rn_fieldAddr henv fd_anvil_api_Prog_1 (ty_int.size) (by decide) rfl) ?_
      refine sA (v := .int .i64 g) rfl (fun _ henv => rn_load1 henv ty_int rfl (hst.oat (k := 1) rfl) rfl) ?_
      intro a henv
      refine seq_step rfl (op_call henv rfl Tryd.call34 rfl (g_may (op := op) (tr := tr) (ra := ra) (rb := rb) (cn := cn) (g := g)) ?_)
      rintro e w60 ⟨rfl, hb⟩
      refine ⟨_, rfl, ?_⟩
      clear henv a; intro a henv
      replace hst := hst.call hb
      clear hb
      rw [show (decide (May (op, tr, ra, rb, cn) g)) = true from (decide_eq_true hmy)] at henv
      refine sv (v := .bool false) henv rfl (rn_un henv rfl rfl) ?_
      clear henv a; intro a henv
      refine wpList_nil ?_
      refine th_n ?_
      refine if_f henv rfl (rfl) ?_
      refine wp_skip ?_
      refine bl_n (th_n ?_)
      refine region_seq ?_
      revert a
      refine sA (v := .int .i64 (j + 1 : Nat)) rfl (fun _ henv => rn_add henv rfl rfl (by rw [IntWalk.i64_in _ (by omega)]; omega)) ?_
      refine mA rfl rfl ?_
      intro a henv
      refine wpList_nil ?_
      exact th_n ⟨_, (by omega), ⟨j + 1, rfl, henv.sub ⟨rfl, rfl, rfl, rfl, rfl, rfl, trivial⟩, hst.pick [1] [0, 1] (by decide), (by omega)⟩⟩
    · have hje : j = n0 := by have := of_decide_eq_false hc56; omega
      refine wp_exit ?_
      refine th_x (th_x (bl_x (th_n ?_)))
      refine wp_seq ?_
      refine region_seq ?_
      revert a
      refine aA rfl rfl ?_
      refine aA rfl rfl ?_
      intro a henv
      refine wpList_nil ?_
      refine th_n ?_
      refine wp_ret ?_
      refine leave henv (res2 Tryd.results11 (RV.tmp henv rfl) (RV.tmp henv rfl)) ?_
      exact ⟨rfl, hst.below⟩
set_option maxRecDepth 100000 in
set_option maxHeartbeats 4000000 in
theorem g_check_head {i g : Int} {A0 A1 : Option Addr} {n0 c0 n1 c1 : Nat} {es0 : List IE} {es1 : List Int} {w0 : World} (h0 : (pfRow fJ FJ 5 A0 n0 c0 es0).P w0) (h1 : (pfRow fI FI 1 A1 n1 c1 es1).P w0) (hH : ¬ HeadOk i g n0 n1) :
    Calls Tryd.prog 11 #[.agg #[.int .i64 i, .int .i64 g, .slice A0 n0 c0, .slice A1 n1 c1]] w0 fun e w' => e = .returned (.tuple #[.int .i64 (-1), .int .i64 80]) ∧ Below w0.heap.size w0 w' := by
  refine enter Tryd.func11 rfl Tryd.ntmps11 rfl ?_
  intro a henv hst
  have hlen0 := h0.2.1
  have hbig0 := Nat.le_trans h0.1.cap h0.1.big
  unfold maxLen at hbig0
  have hlen1 := h1.2.1
  have hbig1 := Nat.le_trans h1.1.cap h1.1.big
  unfold maxLen at hbig1
  replace hst := (hst.argRow h1).argRow h0
  clear h0 h1
  refine wp_seq ?_
  refine region_seq ?_
  refine seq_step rfl (op_box (c := #[.int .i64 i, .int .i64 g, .slice A0 n0 c0, .slice A1 n1 c1]) henv hst rfl rfl rfl ?_)
  clear henv hst a; intro a w52 g51 henv hst
  revert a
  refine aA rfl rfl ?_
  refine aA rfl rfl ?_
  intro a henv
  refine wpList_nil ?_
  refine th_n ?_
  refine wp_seq ?_
  refine wp_seq ?_
  refine region_seq ?_
  revert a
  refine sA (v := .pointer (some ⟨g51, 0, none⟩)) rfl (fun _ henv => rn_fieldAddr henv fd_anvil_api_Prog_0 (ty_int.size) (by decide) rfl) ?_
  refine sA (v := .int .i64 i) rfl (fun _ henv => rn_load1 henv ty_int rfl (hst.oat (k := 0) rfl) rfl) ?_
  refine sA (v := .bool (decide (i < (1 : Int)))) rfl (fun _ henv => rn_bin henv rfl rfl rfl) ?_
  refine mA rfl rfl ?_
  intro a henv
  rcases bool_em (decide (i < (1 : Int))) with hg53 | hg53
  · rw [hg53] at henv
    have hx54 := of_decide_eq_true hg53
    revert a
    refine kA rfl rfl rfl rfl rfl ?_
    refine kA rfl rfl rfl rfl rfl ?_
    refine kA rfl rfl rfl rfl rfl ?_
    refine kA rfl rfl rfl rfl rfl ?_
    refine kA rfl rfl rfl rfl rfl ?_
    refine sA (v := .bool true) rfl (fun _ henv => rn_pick henv rfl rfl) ?_
    refine mA rfl rfl ?_
    refine kA rfl rfl rfl rfl rfl ?_
    refine kA rfl rfl rfl rfl rfl ?_
    refine kA rfl rfl rfl rfl rfl ?_
    refine sA (v := .bool true) rfl (fun _ henv => rn_pick henv rfl rfl) ?_
    refine mA rfl rfl ?_
    refine kA rfl rfl rfl rfl rfl ?_
    refine kA rfl rfl rfl rfl rfl ?_
    refine kA rfl rfl rfl rfl rfl ?_
    refine kA rfl rfl rfl rfl rfl ?_
    refine sA (v := .bool true) rfl (fun _ henv => rn_pick henv rfl rfl) ?_
    refine mA rfl rfl ?_
    refine kA rfl rfl rfl rfl rfl ?_
    refine kA rfl rfl rfl rfl rfl ?_
    refine kA rfl rfl rfl rfl rfl ?_
    refine kA rfl rfl rfl rfl rfl ?_
    refine sA (v := .bool true) rfl (fun _ henv => rn_pick henv rfl rfl) ?_
    refine mA rfl rfl ?_
    refine kA rfl rfl rfl rfl rfl ?_
    refine kA rfl rfl rfl rfl rfl ?_
    refine kA rfl rfl rfl rfl rfl ?_
    refine kA rfl rfl rfl rfl rfl ?_
    refine sA (v := .bool true) rfl (fun _ henv => rn_pick henv rfl rfl) ?_
    intro a henv
    refine wpList_nil ?_
    refine th_n ?_
    refine if_t henv rfl (rfl) ?_
    refine wp_seq ?_
    refine region_seq ?_
    revert a
    refine aA rfl rfl ?_
    refine aA rfl rfl ?_
    intro a henv
    refine wpList_nil ?_
    refine th_n ?_
    refine wp_ret ?_
    refine th_r ?_
    refine leave henv (res2 Tryd.results11 (RV.tmp henv rfl) (RV.tmp henv rfl)) ?_
    exact ⟨rfl, hst.below⟩
  · rw [hg53] at henv
    have hx55 := of_decide_eq_false hg53
    revert a
    refine gA (v := .pointer (some ⟨g51, 0, none⟩)) rfl rfl rfl rfl (fun _ henv => rn_fieldAddr henv fd_anvil_api_Prog_0 (ty_int.size) (by decide) rfl) ?_
    refine gA (v := .int .i64 i) rfl rfl rfl rfl (fun _ henv => rn_load1 henv ty_int rfl (hst.oat (k := 0) rfl) rfl) ?_
    refine gA (v := .pointer (some ⟨g51, 1, none⟩)) rfl rfl rfl rfl (fun _ henv => rn_fieldAddr henv fd_anvil_api_Prog_1 (ty_int.size) (by decide) rfl) ?_
    refine gA (v := .int .i64 g) rfl rfl rfl rfl (fun _ henv => rn_load1 henv ty_int rfl (hst.oat (k := 0) rfl) rfl) ?_
    refine gA (v := .bool (decide (i > g))) rfl rfl rfl rfl (fun _ henv => rn_bin henv rfl rfl rfl) ?_
    refine sA (v := .bool (decide (i > g))) rfl (fun _ henv => rn_pick henv rfl rfl) ?_
    refine mA rfl rfl ?_
    intro a henv
    rcases bool_em (decide (i > g)) with hg56 | hg56
    · rw [hg56] at henv
      have hx57 := of_decide_eq_true hg56
      revert a
      refine kA rfl rfl rfl rfl rfl ?_
      refine kA rfl rfl rfl rfl rfl ?_
      refine kA rfl rfl rfl rfl rfl ?_
      refine sA (v := .bool true) rfl (fun _ henv => rn_pick henv rfl rfl) ?_
      refine mA rfl rfl ?_
      refine kA rfl rfl rfl rfl rfl ?_
      refine kA rfl rfl rfl rfl rfl ?_
      refine kA rfl rfl rfl rfl rfl ?_
      refine kA rfl rfl rfl rfl rfl ?_
      refine sA (v := .bool true) rfl (fun _ henv => rn_pick henv rfl rfl) ?_
      refine mA rfl rfl ?_
      refine kA rfl rfl rfl rfl rfl ?_
      refine kA rfl rfl rfl rfl rfl ?_
      refine kA rfl rfl rfl rfl rfl ?_
      refine kA rfl rfl rfl rfl rfl ?_
      refine sA (v := .bool true) rfl (fun _ henv => rn_pick henv rfl rfl) ?_
      refine mA rfl rfl ?_
      refine kA rfl rfl rfl rfl rfl ?_
      refine kA rfl rfl rfl rfl rfl ?_
      refine kA rfl rfl rfl rfl rfl ?_
      refine kA rfl rfl rfl rfl rfl ?_
      refine sA (v := .bool true) rfl (fun _ henv => rn_pick henv rfl rfl) ?_
      intro a henv
      refine wpList_nil ?_
      refine th_n ?_
      refine if_t henv rfl (rfl) ?_
      refine wp_seq ?_
      refine region_seq ?_
      revert a
      refine aA rfl rfl ?_
      refine aA rfl rfl ?_
      intro a henv
      refine wpList_nil ?_
      refine th_n ?_
      refine wp_ret ?_
      refine th_r ?_
      refine leave henv (res2 Tryd.results11 (RV.tmp henv rfl) (RV.tmp henv rfl)) ?_
      exact ⟨rfl, hst.below⟩
    · rw [hg56] at henv
      have hx58 := of_decide_eq_false hg56
      revert a
      refine gA (v := .pointer (some ⟨g51, 1, none⟩)) rfl rfl rfl rfl (fun _ henv => rn_fieldAddr henv fd_anvil_api_Prog_1 (ty_int.size) (by decide) rfl) ?_
      refine gA (v := .int .i64 g) rfl rfl rfl rfl (fun _ henv => rn_load1 henv ty_int rfl (hst.oat (k := 0) rfl) rfl) ?_
      refine gA (v := .bool (decide (g > (128 : Int)))) rfl rfl rfl rfl (fun _ henv => rn_bin henv rfl rfl rfl) ?_
      refine sA (v := .bool (decide (g > (128 : Int)))) rfl (fun _ henv => rn_pick henv rfl rfl) ?_
      refine mA rfl rfl ?_
      intro a henv
      rcases bool_em (decide (g > (128 : Int))) with hg59 | hg59
      · rw [hg59] at henv
        have hx60 := of_decide_eq_true hg59
        revert a
        refine kA rfl rfl rfl rfl rfl ?_
        refine kA rfl rfl rfl rfl rfl ?_
        refine kA rfl rfl rfl rfl rfl ?_
        refine kA rfl rfl rfl rfl rfl ?_
        refine sA (v := .bool true) rfl (fun _ henv => rn_pick henv rfl rfl) ?_
        refine mA rfl rfl ?_
        refine kA rfl rfl rfl rfl rfl ?_
        refine kA rfl rfl rfl rfl rfl ?_
        refine kA rfl rfl rfl rfl rfl ?_
        refine kA rfl rfl rfl rfl rfl ?_
        refine sA (v := .bool true) rfl (fun _ henv => rn_pick henv rfl rfl) ?_
        refine mA rfl rfl ?_
        refine kA rfl rfl rfl rfl rfl ?_
        refine kA rfl rfl rfl rfl rfl ?_
        refine kA rfl rfl rfl rfl rfl ?_
        refine kA rfl rfl rfl rfl rfl ?_
        refine sA (v := .bool true) rfl (fun _ henv => rn_pick henv rfl rfl) ?_
        intro a henv
        refine wpList_nil ?_
        refine th_n ?_
        refine if_t henv rfl (rfl) ?_
        refine wp_seq ?_
        refine region_seq ?_
        revert a
        refine aA rfl rfl ?_
        refine aA rfl rfl ?_
        intro a henv
        refine wpList_nil ?_
        refine th_n ?_
        refine wp_ret ?_
        refine th_r ?_
        refine leave henv (res2 Tryd.results11 (RV.tmp henv rfl) (RV.tmp henv rfl)) ?_
        exact ⟨rfl, hst.below⟩
      · rw [hg59] at henv
        have hx61 := of_decide_eq_false hg59
        revert a
        refine gA (v := .pointer (some ⟨g51, 2, none⟩)) rfl rfl rfl rfl (fun _ henv => rn_fieldAddr henv fd_anvil_api_Prog_2 (ty__api_Instr.size) (by decide) rfl) ?_
        refine gA (v := .slice A0 n0 c0) rfl rfl rfl rfl (fun _ henv => rn_load1 henv ty__api_Instr rfl (hst.oat (k := 0) rfl) rfl) ?_
        refine gA (v := .int .i64 (n0 : Nat)) rfl rfl rfl rfl (fun _ henv => rn_len henv Tryd.underlying22 rfl) ?_
        refine gA (v := .bool (decide (((n0 : Nat) : Int) > (16384 : Int)))) rfl rfl rfl rfl (fun _ henv => rn_bin henv rfl rfl rfl) ?_
        refine sA (v := .bool (decide (((n0 : Nat) : Int) > (16384 : Int)))) rfl (fun _ henv => rn_pick henv rfl rfl) ?_
        refine mA rfl rfl ?_
        intro a henv
        rcases bool_em (decide (((n0 : Nat) : Int) > (16384 : Int))) with hg62 | hg62
        · rw [hg62] at henv
          have hx63 := of_decide_eq_true hg62
          revert a
          refine kA rfl rfl rfl rfl rfl ?_
          refine kA rfl rfl rfl rfl rfl ?_
          refine kA rfl rfl rfl rfl rfl ?_
          refine kA rfl rfl rfl rfl rfl ?_
          refine sA (v := .bool true) rfl (fun _ henv => rn_pick henv rfl rfl) ?_
          refine mA rfl rfl ?_
          refine kA rfl rfl rfl rfl rfl ?_
          refine kA rfl rfl rfl rfl rfl ?_
          refine kA rfl rfl rfl rfl rfl ?_
          refine kA rfl rfl rfl rfl rfl ?_
          refine sA (v := .bool true) rfl (fun _ henv => rn_pick henv rfl rfl) ?_
          intro a henv
          refine wpList_nil ?_
          refine th_n ?_
          refine if_t henv rfl (rfl) ?_
          refine wp_seq ?_
          refine region_seq ?_
          revert a
          refine aA rfl rfl ?_
          refine aA rfl rfl ?_
          intro a henv
          refine wpList_nil ?_
          refine th_n ?_
          refine wp_ret ?_
          refine th_r ?_
          refine leave henv (res2 Tryd.results11 (RV.tmp henv rfl) (RV.tmp henv rfl)) ?_
          exact ⟨rfl, hst.below⟩
        · rw [hg62] at henv
          have hx64 := of_decide_eq_false hg62
          revert a
          refine gA (v := .pointer (some ⟨g51, 3, none⟩)) rfl rfl rfl rfl (fun _ henv => rn_fieldAddr henv fd_anvil_api_Prog_3 (ty__int.size) (by decide) rfl) ?_
          refine gA (v := .slice A1 n1 c1) rfl rfl rfl rfl (fun _ henv => rn_load1 henv ty__int rfl (hst.oat (k := 0) rfl) rfl) ?_
          refine gA (v := .int .i64 (n1 : Nat)) rfl rfl rfl rfl (fun _ henv => rn_len henv Tryd.underlying23 rfl) ?_
          refine gA (v := .bool (decide (((n1 : Nat) : Int) < (1 : Int)))) rfl rfl rfl rfl (fun _ henv => rn_bin henv rfl rfl rfl) ?_
          refine sA (v := .bool (decide (((n1 : Nat) : Int) < (1 : Int)))) rfl (fun _ henv => rn_pick henv rfl rfl) ?_
          refine mA rfl rfl ?_
          intro a henv
          rcases bool_em (decide (((n1 : Nat) : Int) < (1 : Int))) with hg65 | hg65
          · rw [hg65] at henv
            have hx66 := of_decide_eq_true hg65
            revert a
            refine kA rfl rfl rfl rfl rfl ?_
            refine kA rfl rfl rfl rfl rfl ?_
            refine kA rfl rfl rfl rfl rfl ?_
            refine kA rfl rfl rfl rfl rfl ?_
            refine sA (v := .bool true) rfl (fun _ henv => rn_pick henv rfl rfl) ?_
            intro a henv
            refine wpList_nil ?_
            refine th_n ?_
            refine if_t henv rfl (rfl) ?_
            refine wp_seq ?_
            refine region_seq ?_
            revert a
            refine aA rfl rfl ?_
            refine aA rfl rfl ?_
            intro a henv
            refine wpList_nil ?_
            refine th_n ?_
            refine wp_ret ?_
            refine th_r ?_
            refine leave henv (res2 Tryd.results11 (RV.tmp henv rfl) (RV.tmp henv rfl)) ?_
            exact ⟨rfl, hst.below⟩
          · rw [hg65] at henv
            have hx67 := of_decide_eq_false hg65
            revert a
            refine gA (v := .pointer (some ⟨g51, 3, none⟩)) rfl rfl rfl rfl (fun _ henv => rn_fieldAddr henv fd_anvil_api_Prog_3 (ty__int.size) (by decide) rfl) ?_
            refine gA (v := .slice A1 n1 c1) rfl rfl rfl rfl (fun _ henv => rn_load1 henv ty__int rfl (hst.oat (k := 0) rfl) rfl) ?_
            refine gA (v := .int .i64 (n1 : Nat)) rfl rfl rfl rfl (fun _ henv => rn_len henv Tryd.underlying23 rfl) ?_
            refine gA (v := .bool (decide (((n1 : Nat) : Int) > (128 : Int)))) rfl rfl rfl rfl (fun _ henv => rn_bin henv rfl rfl rfl) ?_
            refine sA (v := .bool (decide (((n1 : Nat) : Int) > (128 : Int)))) rfl (fun _ henv => rn_pick henv rfl rfl) ?_
            intro a henv
            refine wpList_nil ?_
            refine th_n ?_
            refine if_split henv rfl (fun hc68 => ?_) (fun hc68 => ?_)
            · have hx69 := of_decide_eq_true hc68
              refine wp_seq ?_
              refine region_seq ?_
              revert a
              refine aA rfl rfl ?_
              refine aA rfl rfl ?_
              intro a henv
              refine wpList_nil ?_
              refine th_n ?_
              refine wp_ret ?_
              refine th_r ?_
              refine leave henv (res2 Tryd.results11 (RV.tmp henv rfl) (RV.tmp henv rfl)) ?_
              exact ⟨rfl, hst.below⟩
            · have hx70 := of_decide_eq_false hc68
              exfalso; unfold HeadOk at hH; omega
set_option maxRecDepth 100000 in
set_option maxHeartbeats 4000000 in
theorem g_check_outs {i g : Int} {A0 A1 : Option Addr} {n0 c0 n1 c1 : Nat} {es0 : List IE} {es1 : List Int} {w0 : World} (h0 : (pfRow fJ FJ 5 A0 n0 c0 es0).P w0) (h1 : (pfRow fI FI 1 A1 n1 c1 es1).P w0) (hH : HeadOk i g n0 n1) (hO : ¬ ∀ x ∈ es1, 0 ≤ x ∧ x < g) :
    Calls Tryd.prog 11 #[.agg #[.int .i64 i, .int .i64 g, .slice A0 n0 c0, .slice A1 n1 c1]] w0 fun e w' => e = .returned (.tuple #[.int .i64 (-1), .int .i64 80]) ∧ Below w0.heap.size w0 w' := by
  obtain ⟨hh1, hh2, hh3, hh4, hh5, hh6⟩ := hH
  refine enter Tryd.func11 rfl Tryd.ntmps11 rfl ?_
  intro a henv hst
  have hlen0 := h0.2.1
  have hbig0 := Nat.le_trans h0.1.cap h0.1.big
  unfold maxLen at hbig0
  have hlen1 := h1.2.1
  have hbig1 := Nat.le_trans h1.1.cap h1.1.big
  unfold maxLen at hbig1
  replace hst := (hst.argRow h1).argRow h0
  clear h0 h1
  refine wp_seq ?_
  refine region_seq ?_
  refine seq_step rfl (op_box (c := #[.int .i64 i, .int .i64 g, .slice A0 n0 c0, .slice A1 n1 c1]) henv hst rfl rfl rfl ?_)
  clear henv hst a; intro a w52 g51 henv hst
  revert a
  refine aA rfl rfl ?_
  refine aA rfl rfl ?_
  intro a henv
  refine wpList_nil ?_
  refine th_n ?_
  refine wp_seq ?_
  refine wp_seq ?_
  refine region_seq ?_
  revert a
  refine sA (v := .pointer (some ⟨g51, 0, none⟩)) rfl (fun _ henv => rn_fieldAddr henv fd_anvil_api_Prog_0 (ty_int.size) (by decide) rfl) ?_
  refine sA (v := .int .i64 i) rfl (fun _ henv => rn_load1 henv ty_int rfl (hst.oat (k := 0) rfl) rfl) ?_
  refine sA (v := .bool (decide (i < (1 : Int)))) rfl (fun _ henv => rn_bin henv rfl rfl rfl) ?_
  intro a henv
  rw [show (decide (i < (1 : Int))) = false from (decide_eq_false (by omega))] at henv
  revert a
  refine mA rfl rfl ?_
  refine gA (v := .pointer (some ⟨g51, 0, none⟩)) rfl rfl rfl rfl (fun _ henv => rn_fieldAddr henv fd_anvil_api_Prog_0 (ty_int.size) (by decide) rfl) ?_
  refine gA (v := .int .i64 i) rfl rfl rfl rfl (fun _ henv => rn_load1 henv ty_int rfl (hst.oat (k := 0) rfl) rfl) ?_
  refine gA (v := .pointer (some ⟨g51, 1, none⟩)) rfl rfl rfl rfl (fun _ henv => rn_fieldAddr henv fd_anvil_api_Prog_1 (ty_int.size) (by decide) rfl) ?_
  refine gA (v := .int .i64 g) rfl rfl rfl rfl (fun _ henv => rn_load1 henv ty_int rfl (hst.oat (k := 0) rfl) rfl) ?_
  refine gA (v := .bool (decide (i > g))) rfl rfl rfl rfl (fun _ henv => rn_bin henv rfl rfl rfl) ?_
  intro a henv
  rw [show (decide (i > g)) = false from (decide_eq_false (by omega))] at henv
  revert a
  refine sA (v := .bool false) rfl (fun _ henv => rn_pick henv rfl rfl) ?_
  refine mA rfl rfl ?_
  refine gA (v := .pointer (some ⟨g51, 1, none⟩)) rfl rfl rfl rfl (fun _ henv => rn_fieldAddr henv fd_anvil_api_Prog_1 (ty_int.size) (by decide) rfl) ?_
  refine gA (v := .int .i64 g) rfl rfl rfl rfl (fun _ henv => rn_load1 henv ty_int rfl (hst.oat (k := 0) rfl) rfl) ?_
  refine gA (v := .bool (decide (g > (128 : Int)))) rfl rfl rfl rfl (fun _ henv => rn_bin henv rfl rfl rfl) ?_
  intro a henv
  rw [show (decide (g > (128 : Int))) = false from (decide_eq_false (by omega))] at henv
  revert a
  refine sA (v := .bool false) rfl (fun _ henv => rn_pick henv rfl rfl) ?_
  refine mA rfl rfl ?_
  refine gA (v := .pointer (some ⟨g51, 2, none⟩)) rfl rfl rfl rfl (fun _ henv => rn_fieldAddr henv fd_anvil_api_Prog_2 (ty__api_Instr.size) (by decide) rfl) ?_
  refine gA (v := .slice A0 n0 c0) rfl rfl rfl rfl (fun _ henv => rn_load1 henv ty__api_Instr rfl (hst.oat (k := 0) rfl) rfl) ?_
  refine gA (v := .int .i64 (n0 : Nat)) rfl rfl rfl rfl (fun _ henv => rn_len henv Tryd.underlying22 rfl) ?_
  refine gA (v := .bool (decide (((n0 : Nat) : Int) > (16384 : Int)))) rfl rfl rfl rfl (fun _ henv => rn_bin henv rfl rfl rfl) ?_
  intro a henv
  rw [show (decide (((n0 : Nat) : Int) > (16384 : Int))) = false from (decide_eq_false (by omega))] at henv
  revert a
  refine sA (v := .bool false) rfl (fun _ henv => rn_pick henv rfl rfl) ?_
  refine mA rfl rfl ?_
  refine gA (v := .pointer (some ⟨g51, 3, none⟩)) rfl rfl rfl rfl (fun _ henv => rn_fieldAddr henv fd_anvil_api_Prog_3 (ty__int.size) (by decide) rfl) ?_
  refine gA (v := .slice A1 n1 c1) rfl rfl rfl rfl (fun _ henv => rn_load1 henv ty__int rfl (hst.oat (k := 0) rfl) rfl) ?_
  refine gA (v := .int .i64 (n1 : Nat)) rfl rfl rfl rfl (fun _ henv => rn_len henv Tryd.underlying23 rfl) ?_
  refine gA (v := .bool (decide (((n1 : Nat) : Int) < (1 : Int)))) rfl rfl rfl rfl (fun _ henv => rn_bin henv rfl rfl rfl) ?_
  intro a henv
  rw [show (decide (((n1 : Nat) : Int) < (1 : Int))) = false from (decide_eq_false (by omega))] at henv
  revert a
  refine sA (v := .bool false) rfl (fun _ henv => rn_pick henv rfl rfl) ?_
  refine mA rfl rfl ?_
  refine gA (v := .pointer (some ⟨g51, 3, none⟩)) rfl rfl rfl rfl (fun _ henv => rn_fieldAddr henv fd_anvil_api_Prog_3 (ty__int.size) (by decide) rfl) ?_
  refine gA (v := .slice A1 n1 c1) rfl rfl rfl rfl (fun _ henv => rn_load1 henv ty__int rfl (hst.oat (k := 0) rfl) rfl) ?_
  refine gA (v := .int .i64 (n1 : Nat)) rfl rfl rfl rfl (fun _ henv => rn_len henv Tryd.underlying23 rfl) ?_
  refine gA (v := .bool (decide (((n1 : Nat) : Int) > (128 : Int)))) rfl rfl rfl rfl (fun _ henv => rn_bin henv rfl rfl rfl) ?_
  intro a henv
  rw [show (decide (((n1 : Nat) : Int) > (128 : Int))) = false from (decide_eq_false (by omega))] at henv
  refine sv (v := .bool false) henv rfl (rn_pick henv rfl rfl) ?_
  clear henv a; intro a henv
  refine wpList_nil ?_
  refine th_n ?_
  refine if_f henv rfl (rfl) ?_
  refine wp_skip ?_
  refine th_n ?_
  refine wp_seq ?_
  refine wp_seq ?_
  refine region_seq ?_
  revert a
  refine sA (v := .pointer (some ⟨g51, 3, none⟩)) rfl (fun _ henv => rn_fieldAddr henv fd_anvil_api_Prog_3 (ty__int.size) (by decide) rfl) ?_
  refine sA (v := .slice A1 n1 c1) rfl (fun _ henv => rn_load1 henv ty__int rfl (hst.oat (k := 0) rfl) rfl) ?_
  refine sA (v := .int .i64 (n1 : Nat)) rfl (fun _ henv => rn_len henv Tryd.underlying23 rfl) ?_
  refine mA rfl rfl ?_
  intro a henv
  refine wpList_nil ?_
  refine th_n ?_
  refine wp_block ?_
  refine wp_loop_ghost (fun mz a w => ∃ j : Nat, n1 - j = mz ∧ Env 72 a [(1, .pointer (some ⟨g51, 0, none⟩)), (2, .int .i64 0), (3, .int .i64 0), (42, .slice A1 n1 c1), (43, .int .i64 (n1 : Nat)), (44, .int .i64 (j : Nat))] ∧ St w0 w [bk g51 #[.int .i64 i, .int .i64 g, .slice A0 n0 c0, .slice A1 n1 c1] 25] [pfRow fJ FJ 5 A0 n0 c0 es0, pfRow fI FI 1 A1 n1 c1 es1] ∧ j ≤ n1 ∧ (∀ x ∈ es1.take j, 0 ≤ x ∧ x < g)) _ ⟨0, rfl, henv.sub ⟨rfl, rfl, rfl, rfl, rfl, rfl, trivial⟩, hst.pick [0] [0, 1] (by decide), (Nat.zero_le _), (fun _ h => by cases h)⟩ ?_
  clear henv hst a
  rintro mz a w53 ⟨j, rfl, henv, hst, hj, hno⟩
  rcases out_cases es1 g j with hv | ⟨x, he1, hxo⟩ | ⟨x, he1, hxo, hxg⟩ | ⟨x, he1, hxo, hxg⟩
  · refine wp_seq ?_
    refine region_seq ?_
    refine sv (v := .bool (decide (((j : Nat) : Int) < ((n1 : Nat) : Int)))) henv rfl (rn_bin henv rfl rfl rfl) ?_
    clear henv a; intro a henv
    refine wpList_nil ?_
    refine th_n ?_
    refine wp_seq ?_
    refine if_split henv rfl (fun hc54 => ?_) (fun hc54 => ?_)
    · exfalso; have q := of_decide_eq_true hc54; have := List.getElem?_eq_none_iff.1 hv; omega
    · have q := List.getElem?_eq_none_iff.1 hv
      exact absurd (all_full hno q) hO
  · refine wp_seq ?_
    refine region_seq ?_
    refine sv (v := .bool (decide (((j : Nat) : Int) < ((n1 : Nat) : Int)))) henv rfl (rn_bin henv rfl rfl rfl) ?_
    clear henv a; intro a henv
    refine wpList_nil ?_
    refine th_n ?_
    refine wp_seq ?_
    refine if_split henv rfl (fun hc55 => ?_) (fun hc55 => ?_)
    · have hlt : j < n1 := by have := of_decide_eq_true hc55; omega
      refine wp_skip ?_
      refine th_n ?_
      refine wp_seq ?_
      refine wp_block ?_
      refine wp_seq ?_
      refine region_seq ?_
      revert a
      refine sA (v := .pointer (some ⟨ab A1, ao A1 + j * 1, none⟩)) rfl (fun _ henv => rn_idxR (i := j) henv Tryd.underlying23 (ty_int.size) rfl rfl (by omega) rfl (show (pfRow fI FI 1 A1 n1 c1 es1).P _ from (hst.pat (k := 1) rfl)).1) ?_
      refine sA (v := .int .i64 x) rfl (fun _ henv => rn_loadE1 (i := j) (j := 0) (e := x) henv ty_int rfl rfl fI_len (by decide) (show (pfRow fI FI 1 A1 n1 c1 es1).P _ from (hst.pat (k := 1) rfl)).1 (by omega) he1 rfl) ?_
      refine aA rfl rfl ?_
      intro a henv
      refine wpList_nil ?_
      refine th_n ?_
      refine wp_seq ?_
      refine region_seq ?_
      revert a
      refine mA rfl rfl ?_
      refine sA (v := .bool (decide (x < (0 : Int)))) rfl (fun _ henv => rn_bin henv rfl rfl rfl) ?_
      intro a henv
      rw [show (decide (x < (0 : Int))) = true from (decide_eq_true (by omega))] at henv
      revert a
      refine mA rfl rfl ?_
      refine kA rfl rfl rfl rfl rfl ?_
      refine kA rfl rfl rfl rfl rfl ?_
      refine kA rfl rfl rfl rfl rfl ?_
      refine kA rfl rfl rfl rfl rfl ?_
      refine sA (v := .bool true) rfl (fun _ henv => rn_pick henv rfl rfl) ?_
      intro a henv
      refine wpList_nil ?_
      refine th_n ?_
      refine if_t henv rfl (rfl) ?_
      refine wp_seq ?_
      refine region_seq ?_
      revert a
      refine aA rfl rfl ?_
      refine aA rfl rfl ?_
      intro a henv
      refine wpList_nil ?_
      refine th_n ?_
      refine wp_ret ?_
      refine bl_r (th_r (th_r (bl_r (th_r ?_))))
      refine leave henv (res2 Tryd.results11 (RV.tmp henv rfl) (RV.tmp henv rfl)) ?_
      exact ⟨rfl, hst.below⟩
    · exfalso; have q := of_decide_eq_false hc55; have := (List.getElem?_eq_some_iff.1 he1).1; omega
  · refine wp_seq ?_
    refine region_seq ?_
    refine sv (v := .bool (decide (((j : Nat) : Int) < ((n1 : Nat) : Int)))) henv rfl (rn_bin henv rfl rfl rfl) ?_
    clear henv a; intro a henv
    refine wpList_nil ?_
    refine th_n ?_
    refine wp_seq ?_
    refine if_split henv rfl (fun hc56 => ?_) (fun hc56 => ?_)
    · have hlt : j < n1 := by have := of_decide_eq_true hc56; omega
      refine wp_skip ?_
      refine th_n ?_
      refine wp_seq ?_
      refine wp_block ?_
      refine wp_seq ?_
      refine region_seq ?_
      revert a
      refine sA (v := .pointer (some ⟨ab A1, ao A1 + j * 1, none⟩)) rfl (fun _ henv => rn_idxR (i := j) henv Tryd.underlying23 (ty_int.size) rfl rfl (by omega) rfl (show (pfRow fI FI 1 A1 n1 c1 es1).P _ from (hst.pat (k := 1) rfl)).1) ?_
      refine sA (v := .int .i64 x) rfl (fun _ henv => rn_loadE1 (i := j) (j := 0) (e := x) henv ty_int rfl rfl fI_len (by decide) (show (pfRow fI FI 1 A1 n1 c1 es1).P _ from (hst.pat (k := 1) rfl)).1 (by omega) he1 rfl) ?_
      refine aA rfl rfl ?_
      intro a henv
      refine wpList_nil ?_
      refine th_n ?_
      refine wp_seq ?_
      refine region_seq ?_
      revert a
      refine mA rfl rfl ?_
      refine sA (v := .bool (decide (x < (0 : Int)))) rfl (fun _ henv => rn_bin henv rfl rfl rfl) ?_
      intro a henv
      rw [show (decide (x < (0 : Int))) = false from (decide_eq_false (by omega))] at henv
      revert a
      refine mA rfl rfl ?_
      refine gA (v := .int .i64 x) rfl rfl rfl rfl (fun _ henv => rn_move henv rfl) ?_
      refine gA (v := .pointer (some ⟨g51, 1, none⟩)) rfl rfl rfl rfl (fun _ henv => rn_fieldAddr henv fd_anvil_api_Prog_1 (ty_int.size) (by decide) rfl) ?_
      refine gA (v := .int .i64 g) rfl rfl rfl rfl (fun _ henv => rn_load1 henv ty_int rfl (hst.oat (k := 0) rfl) rfl) ?_
      refine gA (v := .bool (decide (x ≥ g))) rfl rfl rfl rfl (fun _ henv => rn_bin henv rfl rfl rfl) ?_
      intro a henv
      rw [show (decide (x ≥ g)) = true from (decide_eq_true (by omega))] at henv
      refine sv (v := .bool true) henv rfl (rn_pick henv rfl rfl) ?_
      clear henv a; intro a henv
      refine wpList_nil ?_
      refine th_n ?_
      refine if_t henv rfl (rfl) ?_
      refine wp_seq ?_
      refine region_seq ?_
      revert a
      refine aA rfl rfl ?_
      refine aA rfl rfl ?_
      intro a henv
      refine wpList_nil ?_
      refine th_n ?_
      refine wp_ret ?_
      refine bl_r (th_r (th_r (bl_r (th_r ?_))))
      refine leave henv (res2 Tryd.results11 (RV.tmp henv rfl) (RV.tmp henv rfl)) ?_
      exact ⟨rfl, hst.below⟩
    · exfalso; have q := of_decide_eq_false hc56; have := (List.getElem?_eq_some_iff.1 he1).1; omega
  · refine wp_seq ?_
    refine region_seq ?_
    refine sv (v := .bool (decide (((j : Nat) : Int) < ((n1 : Nat) : Int)))) henv rfl (rn_bin henv rfl rfl rfl) ?_
    clear henv a; intro a henv
    refine wpList_nil ?_
    refine th_n ?_
    refine wp_seq ?_
    refine if_split henv rfl (fun hc57 => ?_) (fun hc57 => ?_)
    · have hlt : j < n1 := by have := of_decide_eq_true hc57; omega
      refine wp_skip ?_
      refine th_n ?_
      refine wp_seq ?_
      refine wp_block ?_
      refine wp_seq ?_
      refine region_seq ?_
      revert a
      refine sA (v := .pointer (some ⟨ab A1, ao A1 + j * 1, none⟩)) rfl (fun _ henv => rn_idxR (i := j) henv Tryd.underlying23 (ty_int.size) rfl rfl (by omega) rfl (show (pfRow fI FI 1 A1 n1 c1 es1).P _ from (hst.pat (k := 1) rfl)).1) ?_
      refine sA (v := .int .i64 x) rfl (fun _ henv => rn_loadE1 (i := j) (j := 0) (e := x) henv ty_int rfl rfl fI_len (by decide) (show (pfRow fI FI 1 A1 n1 c1 es1).P _ from (hst.pat (k := 1) rfl)).1 (by omega) he1 rfl) ?_
      refine aA rfl rfl ?_
      intro a henv
      refine wpList_nil ?_
      refine th_n ?_
      refine wp_seq ?_
      refine region_seq ?_
      revert a
      refine mA rfl rfl ?_
      refine sA (v := .bool (decide (x < (0 : Int)))) rfl (fun _ henv => rn_bin henv rfl rfl rfl) ?_
      intro a henv
      rw [show (decide (x < (0 : Int))) = false from (decide_eq_false (by omega))] at henv
      revert a
      refine mA rfl rfl ?_
      refine gA (v := .int .i64 x) rfl rfl rfl rfl (fun _ henv => rn_move henv rfl) ?_
      refine gA (v := .pointer (some ⟨g51, 1, none⟩)) rfl rfl rfl rfl (fun _ henv => rn_fieldAddr henv fd_anvil_api_Prog_1 (ty_int.size) (by decide) rfl) ?_
      refine gA (v := .int .i64 g) rfl rfl rfl rfl (fun _ henv => rn_load1 henv ty_int rfl (hst.oat (k := 0) rfl) rfl) ?_
      refine gA (v := .bool (decide (x ≥ g))) rfl rfl rfl rfl (fun _ henv => rn_bin henv rfl rfl rfl) ?_
      intro a henv
      rw [show (decide (x ≥ g)) = false from (decide_eq_false (by omega))] at henv
      refine sv (v := .bool false) henv rfl (rn_pick henv rfl rfl) ?_
      clear henv a; intro a henv
      refine wpList_nil ?_
      refine th_n ?_
      refine if_f henv rfl (rfl) ?_
      refine wp_skip ?_
      refine bl_n (th_n ?_)
      refine region_seq ?_
      revert a
      refine sA (v := .int .i64 (j + 1 : Nat)) rfl (fun _ henv => rn_add henv rfl rfl (by rw [IntWalk.i64_in _ (by omega)]; omega)) ?_
      refine mA rfl rfl ?_
      intro a henv
      refine wpList_nil ?_
      exact th_n ⟨_, (by omega), ⟨j + 1, rfl, henv.sub ⟨rfl, rfl, rfl, rfl, rfl, rfl, trivial⟩, hst.pick [0] [0, 1] (by decide), (by omega), (all_snoc hno he1 (by omega))⟩⟩
    · exfalso; have q := of_decide_eq_false hc57; have := (List.getElem?_eq_some_iff.1 he1).1; omega
set_option maxRecDepth 100000 in
set_option maxHeartbeats 4000000 in
theorem g_check_code {i g : Int} {A0 A1 : Option Addr} {n0 c0 n1 c1 : Nat} {es0 : List IE} {es1 : List Int} {k : Nat} {ek : IE} {w0 : World} (h0 : (pfRow fJ FJ 5 A0 n0 c0 es0).P w0) (h1 : (pfRow fI FI 1 A1 n1 c1 es1).P w0) (hH : HeadOk i g n0 n1) (hO : ∀ x ∈ es1, 0 ≤ x ∧ x < g) (hke : es0[k]? = some ek) (hkn : ¬ May ek g) (hlow : ∀ j e, j < k → es0[j]? = some e → May e g) :
    Calls Tryd.prog 11 #[.agg #[.int .i64 i, .int .i64 g, .slice A0 n0 c0, .slice A1 n1 c1]] w0 fun e w' => e = .returned (.tuple #[.int .i64 (k : Nat), .int .i64 80]) ∧ Below w0.heap.size w0 w' := by
  obtain ⟨hh1, hh2, hh3, hh4, hh5, hh6⟩ := hH
  refine enter Tryd.func11 rfl Tryd.ntmps11 rfl ?_
  intro a henv hst
  have hlen0 := h0.2.1
  have hbig0 := Nat.le_trans h0.1.cap h0.1.big
  unfold maxLen at hbig0
  have hlen1 := h1.2.1
  have hbig1 := Nat.le_trans h1.1.cap h1.1.big
  unfold maxLen at hbig1
  replace hst := (hst.argRow h1).argRow h0
  clear h0 h1
  refine wp_seq ?_
  refine region_seq ?_
  refine seq_step rfl (op_box (c := #[.int .i64 i, .int .i64 g, .slice A0 n0 c0, .slice A1 n1 c1]) henv hst rfl rfl rfl ?_)
  clear henv hst a; intro a w52 g51 henv hst
  revert a
  refine aA rfl rfl ?_
  refine aA rfl rfl ?_
  intro a henv
  refine wpList_nil ?_
  refine th_n ?_
  refine wp_seq ?_
  refine wp_seq ?_
  refine region_seq ?_
  revert a
  refine sA (v := .pointer (some ⟨g51, 0, none⟩)) rfl (fun _ henv => rn_fieldAddr henv fd_anvil_api_Prog_0 (ty_int.size) (by decide) rfl) ?_
  refine sA (v := .int .i64 i) rfl (fun _ henv => rn_load1 henv ty_int rfl (hst.oat (k := 0) rfl) rfl) ?_
  refine sA (v := .bool (decide (i < (1 : Int)))) rfl (fun _ henv => rn_bin henv rfl rfl rfl) ?_
  intro a henv
  rw [show (decide (i < (1 : Int))) = false from (decide_eq_false (by omega))] at henv
  revert a
  refine mA rfl rfl ?_
  refine gA (v := .pointer (some ⟨g51, 0, none⟩)) rfl rfl rfl rfl (fun _ henv => rn_fieldAddr henv fd_anvil_api_Prog_0 (ty_int.size) (by decide) rfl) ?_
  refine gA (v := .int .i64 i) rfl rfl rfl rfl (fun _ henv => rn_load1 henv ty_int rfl (hst.oat (k := 0) rfl) rfl) ?_
  refine gA (v := .pointer (some ⟨g51, 1, none⟩)) rfl rfl rfl rfl (fun _ henv => rn_fieldAddr henv fd_anvil_api_Prog_1 (ty_int.size) (by decide) rfl) ?_
  refine gA (v := .int .i64 g) rfl rfl rfl rfl (fun _ henv => rn_load1 henv ty_int rfl (hst.oat (k := 0) rfl) rfl) ?_
  refine gA (v := .bool (decide (i > g))) rfl rfl rfl rfl (fun _ henv => rn_bin henv rfl rfl rfl) ?_
  intro a henv
  rw [show (decide (i > g)) = false from (decide_eq_false (by omega))] at henv
  revert a
  refine sA (v := .bool false) rfl (fun _ henv => rn_pick henv rfl rfl) ?_
  refine mA rfl rfl ?_
  refine gA (v := .pointer (some ⟨g51, 1, none⟩)) rfl rfl rfl rfl (fun _ henv => rn_fieldAddr henv fd_anvil_api_Prog_1 (ty_int.size) (by decide) rfl) ?_
  refine gA (v := .int .i64 g) rfl rfl rfl rfl (fun _ henv => rn_load1 henv ty_int rfl (hst.oat (k := 0) rfl) rfl) ?_
  refine gA (v := .bool (decide (g > (128 : Int)))) rfl rfl rfl rfl (fun _ henv => rn_bin henv rfl rfl rfl) ?_
  intro a henv
  rw [show (decide (g > (128 : Int))) = false from (decide_eq_false (by omega))] at henv
  revert a
  refine sA (v := .bool false) rfl (fun _ henv => rn_pick henv rfl rfl) ?_
  refine mA rfl rfl ?_
  refine gA (v := .pointer (some ⟨g51, 2, none⟩)) rfl rfl rfl rfl (fun _ henv => rn_fieldAddr henv fd_anvil_api_Prog_2 (ty__api_Instr.size) (by decide) rfl) ?_
  refine gA (v := .slice A0 n0 c0) rfl rfl rfl rfl (fun _ henv => rn_load1 henv ty__api_Instr rfl (hst.oat (k := 0) rfl) rfl) ?_
  refine gA (v := .int .i64 (n0 : Nat)) rfl rfl rfl rfl (fun _ henv => rn_len henv Tryd.underlying22 rfl) ?_
  refine gA (v := .bool (decide (((n0 : Nat) : Int) > (16384 : Int)))) rfl rfl rfl rfl (fun _ henv => rn_bin henv rfl rfl rfl) ?_
  intro a henv
  rw [show (decide (((n0 : Nat) : Int) > (16384 : Int))) = false from (decide_eq_false (by omega))] at henv
  revert a
  refine sA (v := .bool false) rfl (fun _ henv => rn_pick henv rfl rfl) ?_
  refine mA rfl rfl ?_
  refine gA (v := .pointer (some ⟨g51, 3, none⟩)) rfl rfl rfl rfl (fun _ henv => rn_fieldAddr henv fd_anvil_api_Prog_3 (ty__int.size) (by decide) rfl) ?_
  refine gA (v := .slice A1 n1 c1) rfl rfl rfl rfl (fun _ henv => rn_load1 henv ty__int rfl (hst.oat (k := 0) rfl) rfl) ?_
  refine gA (v := .int .i64 (n1 : Nat)) rfl rfl rfl rfl (fun _ henv => rn_len henv Tryd.underlying23 rfl) ?_
  refine gA (v := .bool (decide (((n1 : Nat) : Int) < (1 : Int)))) rfl rfl rfl rfl (fun _ henv => rn_bin henv rfl rfl rfl) ?_
  intro a henv
  rw [show (decide (((n1 : Nat) : Int) < (1 : Int))) = false from (decide_eq_false (by omega))] at henv
  revert a
  refine sA (v := .bool false) rfl (fun _ henv => rn_pick henv rfl rfl) ?_
  refine mA rfl rfl ?_
  refine gA (v := .pointer (some ⟨g51, 3, none⟩)) rfl rfl rfl rfl (fun _ henv => rn_fieldAddr henv fd_anvil_api_Prog_3 (ty__int.size) (by decide) rfl) ?_
  refine gA (v := .slice A1 n1 c1) rfl rfl rfl rfl (fun _ henv => rn_load1 henv ty__int rfl (hst.oat (k := 0) rfl) rfl) ?_
  refine gA (v := .int .i64 (n1 : Nat)) rfl rfl rfl rfl (fun _ henv => rn_len henv Tryd.underlying23 rfl) ?_
  refine gA (v := .bool (decide (((n1 : Nat) : Int) > (128 : Int)))) rfl rfl rfl rfl (fun _ henv => rn_bin henv rfl rfl rfl) ?_
  intro a henv
  rw [show (decide (((n1 : Nat) : Int) > (128 : Int))) = false from (decide_eq_false (by omega))] at henv
  refine sv (v := .bool false) henv rfl (rn_pick henv rfl rfl) ?_
  clear henv a; intro a henv
  refine wpList_nil ?_
  refine th_n ?_
  refine if_f henv rfl (rfl) ?_
  refine wp_skip ?_
  refine th_n ?_
  refine wp_seq ?_
  refine wp_seq ?_
  refine region_seq ?_
  revert a
  refine sA (v := .pointer (some ⟨g51, 3, none⟩)) rfl (fun _ henv => rn_fieldAddr henv fd_anvil_api_Prog_3 (ty__int.size) (by decide) rfl) ?_
  refine sA (v := .slice A1 n1 c1) rfl (fun _ henv => rn_load1 henv ty__int rfl (hst.oat (k := 0) rfl) rfl) ?_
  refine sA (v := .int .i64 (n1 : Nat)) rfl (fun _ henv => rn_len henv Tryd.underlying23 rfl) ?_
  refine mA rfl rfl ?_
  intro a henv
  refine wpList_nil ?_
  refine th_n ?_
  refine wp_block ?_
  refine wp_loop_ghost (fun mz a w => ∃ j : Nat, n1 - j = mz ∧ Env 72 a [(1, .pointer (some ⟨g51, 0, none⟩)), (2, .int .i64 0), (3, .int .i64 0), (42, .slice A1 n1 c1), (43, .int .i64 (n1 : Nat)), (44, .int .i64 (j : Nat))] ∧ St w0 w [bk g51 #[.int .i64 i, .int .i64 g, .slice A0 n0 c0, .slice A1 n1 c1] 25] [pfRow fJ FJ 5 A0 n0 c0 es0, pfRow fI FI 1 A1 n1 c1 es1] ∧ j ≤ n1) _ ⟨0, rfl, henv.sub ⟨rfl, rfl, rfl, rfl, rfl, rfl, trivial⟩, hst.pick [0] [0, 1] (by decide), (Nat.zero_le _)⟩ ?_
  clear henv hst a
  rintro mz a w53 ⟨j, rfl, henv, hst, hj⟩
  refine wp_seq ?_
  refine region_seq ?_
  refine sv (v := .bool (decide (((j : Nat) : Int) < ((n1 : Nat) : Int)))) henv rfl (rn_bin henv rfl rfl rfl) ?_
  clear henv a; intro a henv
  refine wpList_nil ?_
  refine th_n ?_
  refine wp_seq ?_
  refine if_split henv rfl (fun hc54 => ?_) (fun hc54 => ?_)
  · have hlt : j < n1 := by have := of_decide_eq_true hc54; omega
    obtain ⟨x, he1⟩ : ∃ x, es1[j]? = some x := ⟨_, List.getElem?_eq_getElem (by omega)⟩
    have hxo := hO x (List.mem_of_getElem? he1)
    refine wp_skip ?_
    refine th_n ?_
    refine wp_seq ?_
    refine wp_block ?_
    refine wp_seq ?_
    refine region_seq ?_
    revert a
    refine sA (v := .pointer (some ⟨ab A1, ao A1 + j * 1, none⟩)) rfl (fun _ henv => rn_idxR (i := j) henv Tryd.underlying23 (ty_int.size) rfl rfl (by omega) rfl (show (pfRow fI FI 1 A1 n1 c1 es1).P _ from (hst.pat (k := 1) rfl)).1) ?_
    refine sA (v := .int .i64 x) rfl (fun _ henv => rn_loadE1 (i := j) (j := 0) (e := x) henv ty_int rfl rfl fI_len (by decide) (show (pfRow fI FI 1 A1 n1 c1 es1).P _ from (hst.pat (k := 1) rfl)).1 (by omega) he1 rfl) ?_
    refine aA rfl rfl ?_
    intro a henv
    refine wpList_nil ?_
    refine th_n ?_
    refine wp_seq ?_
    refine region_seq ?_
    revert a
    refine mA rfl rfl ?_
    refine sA (v := .bool (decide (x < (0 : Int)))) rfl (fun _ henv => rn_bin henv rfl rfl rfl) ?_
    intro a henv
    rw [show (decide (x < (0 : Int))) = false from (decide_eq_false (by omega))] at henv
    revert a
    refine mA rfl rfl ?_
    refine gA (v := .int .i64 x) rfl rfl rfl rfl (fun _ henv => rn_move henv rfl) ?_
    refine gA (v := .pointer (some ⟨g51, 1, none⟩)) rfl rfl rfl rfl (fun _ henv => rn_fieldAddr henv fd_anvil_api_Prog_1 (ty_int.size) (by decide) rfl) ?_
    refine gA (v := .int .i64 g) rfl rfl rfl rfl (fun _ henv => rn_load1 henv ty_int rfl (hst.oat (k := 0) rfl) rfl) ?_
    refine gA (v := .bool (decide (x ≥ g))) rfl rfl rfl rfl (fun _ henv => rn_bin henv rfl rfl rfl) ?_
    intro a henv
    rw [show (decide (x ≥ g)) = false from (decide_eq_false (by omega))] at henv
    refine sv (v := .bool false) henv rfl (rn_pick henv rfl rfl) ?_
    clear henv a; intro a henv
    refine wpList_nil ?_
    refine th_n ?_
    refine if_f henv rfl (rfl) ?_
    refine wp_skip ?_
    refine bl_n (th_n ?_)
    refine region_seq ?_
    revert a
    refine sA (v := .int .i64 (j + 1 : Nat)) rfl (fun _ henv => rn_add henv rfl rfl (by rw [IntWalk.i64_in _ (by omega)]; omega)) ?_
    refine mA rfl rfl ?_
    intro a henv
    refine wpList_nil ?_
    exact th_n ⟨_, (by omega), ⟨j + 1, rfl, henv.sub ⟨rfl, rfl, rfl, rfl, rfl, rfl, trivial⟩, hst.pick [0] [0, 1] (by decide), (by omega)⟩⟩
  · have hje : j = n1 := by have := of_decide_eq_false hc54; omega
    refine wp_exit ?_
    refine th_x (th_x (bl_x (th_n ?_)))
    refine wp_seq ?_
    refine wp_seq ?_
    refine region_seq ?_
    revert a
    refine sA (v := .pointer (some ⟨g51, 2, none⟩)) rfl (fun _ henv => rn_fieldAddr henv fd_anvil_api_Prog_2 (ty__api_Instr.size) (by decide) rfl) ?_
    refine sA (v := .slice A0 n0 c0) rfl (fun _ henv => rn_load1 henv ty__api_Instr rfl (hst.oat (k := 0) rfl) rfl) ?_
    refine sA (v := .int .i64 (n0 : Nat)) rfl (fun _ henv => rn_len henv Tryd.underlying22 rfl) ?_
    refine mA rfl rfl ?_
    intro a henv
    refine wpList_nil ?_
    refine th_n ?_
    refine wp_block ?_
    refine wp_loop_ghost (fun mz a w => ∃ j : Nat, n0 - j = mz ∧ Env 72 a [(1, .pointer (some ⟨g51, 0, none⟩)), (2, .int .i64 0), (3, .int .i64 0), (58, .slice A0 n0 c0), (59, .int .i64 (n0 : Nat)), (60, .int .i64 (j : Nat))] ∧ St w0 w [bk g51 #[.int .i64 i, .int .i64 g, .slice A0 n0 c0, .slice A1 n1 c1] 25] [pfRow fJ FJ 5 A0 n0 c0 es0, pfRow fI FI 1 A1 n1 c1 es1] ∧ j ≤ n0 ∧ j ≤ k) _ ⟨0, rfl, henv.sub ⟨rfl, rfl, rfl, rfl, rfl, rfl, trivial⟩, hst.pick [0] [0, 1] (by decide), (Nat.zero_le _), (Nat.zero_le _)⟩ ?_
    clear henv hst a
    rintro mz a w55 ⟨j, rfl, henv, hst, hj, hjk⟩
    refine wp_seq ?_
    refine region_seq ?_
    refine sv (v := .bool (decide (((j : Nat) : Int) < ((n0 : Nat) : Int)))) henv rfl (rn_bin henv rfl rfl rfl) ?_
    clear henv a; intro a henv
    refine wpList_nil ?_
    refine th_n ?_
    refine wp_seq ?_
    refine if_split henv rfl (fun hc56 => ?_) (fun hc56 => ?_)
    · have hlt : j < n0 := by have := of_decide_eq_true hc56; omega
      obtain ⟨⟨op, tr, ra, rb, cn⟩, he0⟩ : ∃ e, es0[j]? = some e := ⟨_, List.getElem?_eq_getElem (by omega)⟩
      refine wp_skip ?_
      refine th_n ?_
      refine wp_seq ?_
      refine wp_block ?_
      refine wp_seq ?_
      refine region_seq ?_
      revert a
      refine mA rfl rfl ?_
      refine sA (v := .pointer (some ⟨ab A0, ao A0 + j * 5, none⟩)) rfl (fun _ henv => rn_idxR (i := j) henv Tryd.underlying22 (ty_anvil_api_Instr.size) rfl rfl (by omega) rfl (show (pfRow fJ FJ 5 A0 n0 c0 es0).P _ from (hst.pat (k := 0) rfl)).1) ?_
      refine sA (v := .agg #[.int .i64 op, .int .i64 tr, .int .i64 ra, .int .i64 rb, .int .i64 cn]) rfl (fun _ henv => rn_loadE (i := j) (e := (op, tr, ra, rb, cn)) henv ty_anvil_api_Instr rfl rfl fJ_len (show (pfRow fJ FJ 5 A0 n0 c0 es0).P _ from (hst.pat (k := 0) rfl)).1 (by omega) he0 rfl) ?_
      intro a henv
      refine seq_step rfl (op_alloc (c := #[.int .i64 0, .int .i64 0, .int .i64 0, .int .i64 0, .int .i64 0]) henv hst rfl zero_anvil_api_Instr rfl ?_)
      clear henv hst a; intro a w58 g57 henv hst
      refine sv (v := .int .i64 (j : Nat)) henv rfl (rn_assign henv rfl) ?_
      clear henv a; intro a henv
      refine seq_step rfl (op_store (k := 0) (c' := #[.int .i64 op, .int .i64 tr, .int .i64 ra, .int .i64 rb, .int .i64 cn]) henv hst (ty_anvil_api_Instr.size) rfl rfl rfl rfl (by simp) rfl rfl ?_)
      clear henv hst a; intro a w59 henv hst
      refine wpList_nil ?_
      refine th_n ?_
      refine wp_seq ?_
      refine region_seq ?_
      revert a
      refine sA (v := .agg #[.int .i64 op, .int .i64 tr, .int .i64 ra, .int .i64 rb, .int .i64 cn]) rfl (fun _ henv => rn_load0 henv ty_anvil_api_Instr rfl (hst.oat (k := 0) rfl) rfl) ?_
      refine sA (v := .pointer (some ⟨g51, 1, none⟩)) rfl (fun _ henv => rn_fieldAddr henv fd_anvil_api_Prog_1 (ty_int.size) (by decide) rfl) ?_
      refine sA (v := .int .i64 g) rfl (fun _ henv => rn_load1 henv ty_int rfl (hst.oat (k := 1) rfl) rfl) ?_
      intro a henv
      refine seq_step rfl (op_call henv rfl Tryd.call34 rfl (g_may (op := op) (tr := tr) (ra := ra) (rb := rb) (cn := cn) (g := g)) ?_)
      rintro e w60 ⟨rfl, hb⟩
      refine ⟨_, rfl, ?_⟩
      clear henv a; intro a henv
      replace hst := hst.call hb
      clear hb
      refine sv (v := .bool (!(decide (May (op, tr, ra, rb, cn) g)))) henv rfl (rn_un henv rfl rfl) ?_
      clear henv a; intro a henv
      refine wpList_nil ?_
      refine th_n ?_
      refine if_split henv rfl (fun hc61 => ?_) (fun hc61 => ?_)
      · have hmay : ¬ May (op, tr, ra, rb, cn) g := of_decide_eq_false (bnot_t hc61)
        have hjk2 : j = k := by
          rcases Nat.lt_or_ge j k with q | q
          · exact absurd (hlow j _ q he0) hmay
          · omega
        refine wp_seq ?_
        refine region_seq ?_
        revert a
        refine mA rfl rfl ?_
        refine aA rfl rfl ?_
        refine aA rfl rfl ?_
        intro a henv
        refine wpList_nil ?_
        refine th_n ?_
        refine wp_ret ?_
        refine bl_r (th_r (th_r (bl_r (th_r ?_))))
        refine leave henv (res2 Tryd.results11 (RV.tmp henv rfl) (RV.tmp henv rfl)) ?_
        subst hjk2
        exact ⟨rfl, hst.below⟩
      · have hmay : May (op, tr, ra, rb, cn) g := of_decide_eq_true (bnot_f hc61)
        refine wp_skip ?_
        refine bl_n (th_n ?_)
        refine region_seq ?_
        revert a
        refine sA (v := .int .i64 (j + 1 : Nat)) rfl (fun _ henv => rn_add henv rfl rfl (by rw [IntWalk.i64_in _ (by omega)]; omega)) ?_
        refine mA rfl rfl ?_
        intro a henv
        refine wpList_nil ?_
        exact th_n ⟨_, (by omega), ⟨j + 1, rfl, henv.sub ⟨rfl, rfl, rfl, rfl, rfl, rfl, trivial⟩, hst.pick [1] [0, 1] (by decide), (by omega), (Nat.lt_of_le_of_ne hjk fun hh => hkn (by subst hh; rw [he0] at hke; exact Option.some.inj hke ▸ hmay))⟩⟩
    · have hje : j = n0 := by have := of_decide_eq_false hc56; omega
      exfalso
      have := (List.getElem?_eq_some_iff.1 hke).1
      omega
set_option maxRecDepth 100000 in
set_option maxHeartbeats 4000000 in
theorem r_check_ok {i g : Int} {A0 A1 : Option Addr} {n0 c0 n1 c1 : Nat} {es0 : List IE} {es1 : List Int} {w0 : World} (h0 : (pfRow fJ FJ 5 A0 n0 c0 es0).P w0) (h1 : (pfRow fI FI 1 A1 n1 c1 es1).P w0) (hH : HeadOk i g n0 n1) (hO : ∀ x ∈ es1, 0 ≤ x ∧ x < g) (hM : ∀ e ∈ es0, May e g) :
    Calls Tryd.prog 12 #[.agg #[.int .i64 i, .int .i64 g, .slice A0 n0 c0, .slice A1 n1 c1]] w0 fun e w' => e = .returned (.tuple #[.int .i64 0, .bool false]) ∧ Below w0.heap.size w0 w' := by
  obtain ⟨hh1, hh2, hh3, hh4, hh5, hh6⟩ := hH
  refine enter Tryd.func12 rfl Tryd.ntmps12 rfl ?_
  intro a henv hst
  have hlen0 := h0.2.1
  have hbig0 := Nat.le_trans h0.1.cap h0.1.big
  unfold maxLen at hbig0
  have hlen1 := h1.2.1
  have hbig1 := Nat.le_trans h1.1.cap h1.1.big
  unfold maxLen at hbig1
  replace hst := (hst.argRow h1).argRow h0
  clear h0 h1
  refine wp_seq ?_
  refine region_seq ?_
  refine seq_step rfl (op_box (c := #[.int .i64 i, .int .i64 g, .slice A0 n0 c0, .slice A1 n1 c1]) henv hst rfl rfl rfl ?_)
  clear henv hst a; intro a w52 g51 henv hst
  revert a
  refine aA rfl rfl ?_
  refine aA rfl rfl ?_
  intro a henv
  refine wpList_nil ?_
  refine th_n ?_
  refine wp_seq ?_
  refine wp_seq ?_
  refine region_seq ?_
  revert a
  refine sA (v := .pointer (some ⟨g51, 0, none⟩)) rfl (fun _ henv => rn_fieldAddr henv fd_anvil_api_Prog_0 (ty_int.size) (by decide) rfl) ?_
  refine sA (v := .int .i64 i) rfl (fun _ henv => rn_load1 henv ty_int rfl (hst.oat (k := 0) rfl) rfl) ?_
  refine sA (v := .bool (decide (i < (1 : Int)))) rfl (fun _ henv => rn_bin henv rfl rfl rfl) ?_
  intro a henv
  rw [show (decide (i < (1 : Int))) = false from (decide_eq_false (by omega))] at henv
  revert a
  refine mA rfl rfl ?_
  refine gA (v := .pointer (some ⟨g51, 0, none⟩)) rfl rfl rfl rfl (fun _ henv => rn_fieldAddr henv fd_anvil_api_Prog_0 (ty_int.size) (by decide) rfl) ?_
  refine gA (v := .int .i64 i) rfl rfl rfl rfl (fun _ henv => rn_load1 henv ty_int rfl (hst.oat (k := 0) rfl) rfl) ?_
  refine gA (v := .pointer (some ⟨g51, 1, none⟩)) rfl rfl rfl rfl (fun _ henv => rn_fieldAddr henv fd_anvil_api_Prog_1 (ty_int.size) (by decide) rfl) ?_
  refine gA (v := .int .i64 g) rfl rfl rfl rfl (fun _ henv => rn_load1 henv ty_int rfl (hst.oat (k := 0) rfl) rfl) ?_
  refine gA (v := .bool (decide (i > g))) rfl rfl rfl rfl (fun _ henv => rn_bin henv rfl rfl rfl) ?_
  intro a henv
  rw [show (decide (i > g)) = false from (decide_eq_false (by omega))] at henv
  revert a
  refine sA (v := .bool false) rfl (fun _ henv => rn_pick henv rfl rfl) ?_
  refine mA rfl rfl ?_
  refine gA (v := .pointer (some ⟨g51, 1, none⟩)) rfl rfl rfl rfl (fun _ henv => rn_fieldAddr henv fd_anvil_api_Prog_1 (ty_int.size) (by decide) rfl) ?_
  refine gA (v := .int .i64 g) rfl rfl rfl rfl (fun _ henv => rn_load1 henv ty_int rfl (hst.oat (k := 0) rfl) rfl) ?_
  refine gA (v := .bool (decide (g > (128 : Int)))) rfl rfl rfl rfl (fun _ henv => rn_bin henv rfl rfl rfl) ?_
  intro a henv
  rw [show (decide (g > (128 : Int))) = false from (decide_eq_false (by omega))] at henv
  revert a
  refine sA (v := .bool false) rfl (fun _ henv => rn_pick henv rfl rfl) ?_
  refine mA rfl rfl ?_
  refine gA (v := .pointer (some ⟨g51, 2, none⟩)) rfl rfl rfl rfl (fun _ henv => rn_fieldAddr henv fd_anvil_api_Prog_2 (ty__api_Instr.size) (by decide) rfl) ?_
  refine gA (v := .slice A0 n0 c0) rfl rfl rfl rfl (fun _ henv => rn_load1 henv ty__api_Instr rfl (hst.oat (k := 0) rfl) rfl) ?_
  refine gA (v := .int .i64 (n0 : Nat)) rfl rfl rfl rfl (fun _ henv => rn_len henv Tryd.underlying22 rfl) ?_
  refine gA (v := .bool (decide (((n0 : Nat) : Int) > (16384 : Int)))) rfl rfl rfl rfl (fun _ henv => rn_bin henv rfl rfl rfl) ?_
  intro a henv
  rw [show (decide (((n0 : Nat) : Int) > (16384 : Int))) = false from (decide_eq_false (by omega))] at henv
  revert a
  refine sA (v := .bool false) rfl (fun _ henv => rn_pick henv rfl rfl) ?_
  refine mA rfl rfl ?_
  refine gA (v := .pointer (some ⟨g51, 3, none⟩)) rfl rfl rfl rfl (fun _ henv => rn_fieldAddr henv fd_anvil_api_Prog_3 (ty__int.size) (by decide) rfl) ?_
  refine gA (v := .slice A1 n1 c1) rfl rfl rfl rfl (fun _ henv => rn_load1 henv ty__int rfl (hst.oat (k := 0) rfl) rfl) ?_
  refine gA (v := .int .i64 (n1 : Nat)) rfl rfl rfl rfl (fun _ henv => rn_len henv Tryd.underlying23 rfl) ?_
  refine gA (v := .bool (decide (((n1 : Nat) : Int) < (1 : Int)))) rfl rfl rfl rfl (fun _ henv => rn_bin henv rfl rfl rfl) ?_
  intro a henv
  rw [show (decide (((n1 : Nat) : Int) < (1 : Int))) = false from (decide_eq_false (by omega))] at henv
  revert a
  refine sA (v := .bool false) rfl (fun _ henv => rn_pick henv rfl rfl) ?_
  refine mA rfl rfl ?_
  refine gA (v := .pointer (some ⟨g51, 3, none⟩)) rfl rfl rfl rfl (fun _ henv => rn_fieldAddr henv fd_anvil_api_Prog_3 (ty__int.size) (by decide) rfl) ?_
  refine gA (v := .slice A1 n1 c1) rfl rfl rfl rfl (fun _ henv => rn_load1 henv ty__int rfl (hst.oat (k := 0) rfl) rfl) ?_
  refine gA (v := .int .i64 (n1 : Nat)) rfl rfl rfl rfl (fun _ henv => rn_len henv Tryd.underlying23 rfl) ?_
  refine gA (v := .bool (decide (((n1 : Nat) : Int) > (128 : Int)))) rfl rfl rfl rfl (fun _ henv => rn_bin henv rfl rfl rfl) ?_
  intro a henv
  rw [show (decide (((n1 : Nat) : Int) > (128 : Int))) = false from (decide_eq_false (by omega))] at henv
  refine sv (v := .bool false) henv rfl (rn_pick henv rfl rfl) ?_
  clear henv a; intro a henv
  refine wpList_nil ?_
  refine th_n ?_
  refine if_f henv rfl (rfl) ?_
  refine wp_skip ?_
  refine th_n ?_
  refine wp_seq ?_
  refine wp_seq ?_
  refine region_seq ?_
  refine sv (v := .int .i64 0) henv rfl (rn_assign henv rfl) ?_
  clear henv a; intro a henv
  refine wpList_nil ?_
  refine th_n ?_
  refine wp_block ?_
  refine wp_loop_ghost (fun mz a w => ∃ j : Nat, n1 - j = mz ∧ Env 79 a [(1, .pointer (some ⟨g51, 0, none⟩)), (2, .int .i64 0), (3, .bool false), (4, .int .i64 (j : Nat))] ∧ St w0 w [bk g51 #[.int .i64 i, .int .i64 g, .slice A0 n0 c0, .slice A1 n1 c1] 25] [pfRow fJ FJ 5 A0 n0 c0 es0, pfRow fI FI 1 A1 n1 c1 es1] ∧ j ≤ n1) _ ⟨0, rfl, henv.sub ⟨rfl, rfl, rfl, rfl, trivial⟩, hst.pick [0] [0, 1] (by decide), (Nat.zero_le _)⟩ ?_
  clear henv hst a
  rintro mz a w53 ⟨j, rfl, henv, hst, hj⟩
  refine wp_seq ?_
  refine wp_seq ?_
  refine region_seq ?_
  revert a
  refine mA rfl rfl ?_
  refine sA (v := .pointer (some ⟨g51, 3, none⟩)) rfl (fun _ henv => rn_fieldAddr henv fd_anvil_api_Prog_3 (ty__int.size) (by decide) rfl) ?_
  refine sA (v := .slice A1 n1 c1) rfl (fun _ henv => rn_load1 henv ty__int rfl (hst.oat (k := 0) rfl) rfl) ?_
  refine sA (v := .int .i64 (n1 : Nat)) rfl (fun _ henv => rn_len henv Tryd.underlying23 rfl) ?_
  refine sA (v := .bool (decide (((j : Nat) : Int) < ((n1 : Nat) : Int)))) rfl (fun _ henv => rn_bin henv rfl rfl rfl) ?_
  intro a henv
  refine wpList_nil ?_
  refine th_n ?_
  refine if_split henv rfl (fun hc54 => ?_) (fun hc54 => ?_)
  · have hlt : j < n1 := by have := of_decide_eq_true hc54; omega
    obtain ⟨x, he1⟩ : ∃ x, es1[j]? = some x := ⟨_, List.getElem?_eq_getElem (by omega)⟩
    have hxo := hO x (List.mem_of_getElem? he1)
    refine wp_skip ?_
    refine th_n ?_
    refine wp_seq ?_
    refine wp_block ?_
    refine wp_seq ?_
    refine region_any (n := 16) (Sk [bk g51 #[.int .i64 i, .int .i64 g, .slice A0 n0 c0, .slice A1 n1 c1] 25] [pfRow fJ FJ 5 A0 n0 c0 es0, pfRow fI FI 1 A1 n1 c1 es1] [] []) mixed rfl henv hst ?_
    clear henv hst; intro w55 henv hst
    refine tA (i := 0) [1, 3, 4, 5, 6, 7, 8, 9, 10, 11, 12, 13, 14, 15] (v := .pointer (some ⟨g51, 3, none⟩)) rfl (by kernel_rfl) (fun _ _ _ h => h) henv rfl (fun _ => rn_fieldAddr henv fd_anvil_api_Prog_3 (ty__int.size) (by decide) rfl) ?_
    clear henv a; intro a henv
    refine sAny_take (i := 1) [3, 4, 5, 6, 7, 8, 9, 10, 11, 12, 13, 14, 15] (fun w' => w'.heap[g51]? = some (.cells #[.int .i64 i, .int .i64 g, .slice A0 n0 c0, .slice A1 n1 c1] 25 (0, 0))) (v := .slice A1 n1 c1) rfl (by kernel_rfl) (fun _ _ _ h => h) (fun _ _ _ hS => hS.1.oat (k := 0) rfl) henv rfl (hst.oat (k := 0) rfl) (fun w' hg => rn_load1 henv ty__int rfl hg rfl) ?_
    clear henv a; intro a henv
    refine tM (i := 2) (rg 3 13) rfl (by kernel_rfl) (fun _ _ _ h => h) henv rfl rfl ?_
    clear henv a; intro a henv
    refine sAny_take (i := 3) [4, 5, 6, 7, 8, 9, 10, 11, 12, 13, 14, 15] (fun w' => (pfRow fI FI 1 A1 n1 c1 es1).P w') (v := .pointer (some ⟨ab A1, ao A1 + j * 1, none⟩)) rfl (by kernel_rfl) (fun _ _ _ h => h) (fun _ _ _ hS => hS.1.pat (k := 1) rfl) henv rfl (hst.pat (k := 1) rfl) (fun w' hg => rn_idxR (i := j) henv Tryd.underlying23 (ty_int.size) rfl rfl (by omega) rfl (show (pfRow fI FI 1 A1 n1 c1 es1).P _ from hg).1) ?_
    clear henv a; intro a henv
    refine sAny_take (i := 4) [5, 6, 7, 8, 9, 10, 11, 12, 13, 14, 15] (fun w' => (pfRow fI FI 1 A1 n1 c1 es1).P w') (v := .int .i64 x) rfl (by kernel_rfl) (fun _ _ _ h => h) (fun _ _ _ hS => hS.1.pat (k := 1) rfl) henv rfl (hst.pat (k := 1) rfl) (fun w' hg => rn_loadE1 (i := j) (j := 0) (e := x) henv ty_int rfl rfl fI_len (by decide) (show (pfRow fI FI 1 A1 n1 c1 es1).P _ from hg).1 (by omega) he1 rfl) ?_
    clear henv a; intro a henv
    refine tA (i := 5) (rg 6 10) (v := .bool (decide (x < (0 : Int)))) rfl (by kernel_rfl) (fun _ _ _ h => h) henv rfl (fun _ => rn_bin henv rfl rfl rfl) ?_
    clear henv a; intro a henv
    rw [show (decide (x < (0 : Int))) = false from (decide_eq_false (by omega))] at henv
    refine tM (i := 6) (rg 7 9) rfl (by kernel_rfl) (fun _ _ _ h => h) henv rfl rfl ?_
    clear henv a; intro a henv
    refine tAg (i := 7) [8, 10, 11, 14, 15] (v := .pointer (some ⟨g51, 3, none⟩)) rfl (by kernel_rfl) (fun _ _ _ h => h) henv rfl rfl rfl rfl (fun _ => rn_fieldAddr henv fd_anvil_api_Prog_3 (ty__int.size) (by decide) rfl) ?_
    clear henv a; intro a henv
    refine sAny_takeg (i := 8) [10, 11, 14, 15] (fun w' => w'.heap[g51]? = some (.cells #[.int .i64 i, .int .i64 g, .slice A0 n0 c0, .slice A1 n1 c1] 25 (0, 0))) (v := .slice A1 n1 c1) rfl (by kernel_rfl) (fun _ _ _ h => h) (fun _ _ _ hS => hS.1.oat (k := 0) rfl) henv rfl rfl rfl rfl (hst.oat (k := 0) rfl) (fun w' hg => rn_load1 henv ty__int rfl hg rfl) ?_
    clear henv a; intro a henv
    refine tAg (i := 9) [10, 11, 14, 15] (v := .int .i64 (j : Nat)) rfl (by kernel_rfl) (fun _ _ _ h => h) henv rfl rfl rfl rfl (fun _ => rn_move henv rfl) ?_
    clear henv a; intro a henv
    refine sAny_takeg (i := 10) [11, 14, 15] (fun w' => (pfRow fI FI 1 A1 n1 c1 es1).P w') (v := .pointer (some ⟨ab A1, ao A1 + j * 1, none⟩)) rfl (by kernel_rfl) (fun _ _ _ h => h) (fun _ _ _ hS => hS.1.pat (k := 1) rfl) henv rfl rfl rfl rfl (hst.pat (k := 1) rfl) (fun w' hg => rn_idxR (i := j) henv Tryd.underlying23 (ty_int.size) rfl rfl (by omega) rfl (show (pfRow fI FI 1 A1 n1 c1 es1).P _ from hg).1) ?_
    clear henv a; intro a henv
    refine sAny_takeg (i := 11) [14, 15] (fun w' => (pfRow fI FI 1 A1 n1 c1 es1).P w') (v := .int .i64 x) rfl (by kernel_rfl) (fun _ _ _ h => h) (fun _ _ _ hS => hS.1.pat (k := 1) rfl) henv rfl rfl rfl rfl (hst.pat (k := 1) rfl) (fun w' hg => rn_loadE1 (i := j) (j := 0) (e := x) henv ty_int rfl rfl fI_len (by decide) (show (pfRow fI FI 1 A1 n1 c1 es1).P _ from hg).1 (by omega) he1 rfl) ?_
    clear henv a; intro a henv
    refine tAg (i := 12) [13, 14, 15] (v := .pointer (some ⟨g51, 1, none⟩)) rfl (by kernel_rfl) (fun _ _ _ h => h) henv rfl rfl rfl rfl (fun _ => rn_fieldAddr henv fd_anvil_api_Prog_1 (ty_int.size) (by decide) rfl) ?_
    clear henv a; intro a henv
    refine sAny_takeg (i := 13) [14, 15] (fun w' => w'.heap[g51]? = some (.cells #[.int .i64 i, .int .i64 g, .slice A0 n0 c0, .slice A1 n1 c1] 25 (0, 0))) (v := .int .i64 g) rfl (by kernel_rfl) (fun _ _ _ h => h) (fun _ _ _ hS => hS.1.oat (k := 0) rfl) henv rfl rfl rfl rfl (hst.oat (k := 0) rfl) (fun w' hg => rn_load1 henv ty_int rfl hg rfl) ?_
    clear henv a; intro a henv
    refine tAg (i := 14) [15] (v := .bool (decide (x ≥ g))) rfl (by kernel_rfl) (fun _ _ _ h => h) henv rfl rfl rfl rfl (fun _ => rn_bin henv rfl rfl rfl) ?_
    clear henv a; intro a henv
    rw [show (decide (x ≥ g)) = false from (decide_eq_false (by omega))] at henv
    refine tA (i := 15) [] (v := .bool false) rfl (by kernel_rfl) (fun _ _ _ h => h) henv rfl (fun _ => rn_pick henv rfl rfl) ?_
    clear henv a; intro a henv
    refine sAny_done (by kernel_rfl) ?_ _
    refine th_n ?_
    refine if_f henv rfl (rfl) ?_
    refine wp_skip ?_
    refine bl_n (th_n ?_)
    refine region_seq ?_
    revert a
    refine mA rfl rfl ?_
    refine sA (v := .int .i64 (j + 1 : Nat)) rfl (fun _ henv => rn_add henv rfl rfl (by rw [IntWalk.i64_in _ (by omega)]; omega)) ?_
    refine aA rfl rfl ?_
    intro a henv
    refine wpList_nil ?_
    exact th_n ⟨_, (by omega), ⟨j + 1, rfl, henv.sub ⟨rfl, rfl, rfl, rfl, trivial⟩, hst.pick [0] [0, 1] (by decide), (by omega)⟩⟩
  · have hje : j = n1 := by have := of_decide_eq_false hc54; omega
    refine wp_exit ?_
    refine th_x (th_x (bl_x (th_n ?_)))
    refine wp_seq ?_
    refine wp_seq ?_
    refine region_seq ?_
    refine sv (v := .int .i64 0) henv rfl (rn_assign henv rfl) ?_
    clear henv a; intro a henv
    refine wpList_nil ?_
    refine th_n ?_
    refine wp_block ?_
    refine wp_loop_ghost (fun mz a w => ∃ j : Nat, n0 - j = mz ∧ Env 79 a [(1, .pointer (some ⟨g51, 0, none⟩)), (2, .int .i64 0), (3, .bool false), (5, .int .i64 (j : Nat))] ∧ St w0 w [bk g51 #[.int .i64 i, .int .i64 g, .slice A0 n0 c0, .slice A1 n1 c1] 25] [pfRow fJ FJ 5 A0 n0 c0 es0, pfRow fI FI 1 A1 n1 c1 es1] ∧ j ≤ n0) _ ⟨0, rfl, henv.sub ⟨rfl, rfl, rfl, rfl, trivial⟩, hst.pick [0] [0, 1] (by decide), (Nat.zero_le _)⟩ ?_
    clear henv hst a
    rintro mz a w56 ⟨j, rfl, henv, hst, hj⟩
    refine wp_seq ?_
    refine wp_seq ?_
    refine region_seq ?_
    revert a
    refine mA rfl rfl ?_
    refine sA (v := .pointer (some ⟨g51, 2, none⟩)) rfl (fun _ henv => rn_fieldAddr henv fd_anvil_api_Prog_2 (ty__api_Instr.size) (by decide) rfl) ?_
    refine sA (v := .slice A0 n0 c0) rfl (fun _ henv => rn_load1 henv ty__api_Instr rfl (hst.oat (k := 0) rfl) rfl) ?_
    refine sA (v := .int .i64 (n0 : Nat)) rfl (fun _ henv => rn_len henv Tryd.underlying22 rfl) ?_
    refine sA (v := .bool (decide (((j : Nat) : Int) < ((n0 : Nat) : Int)))) rfl (fun _ henv => rn_bin henv rfl rfl rfl) ?_
    intro a henv
    refine wpList_nil ?_
    refine th_n ?_
    refine if_split henv rfl (fun hc57 => ?_) (fun hc57 => ?_)
    · have hlt : j < n0 := by have := of_decide_eq_true hc57; omega
      obtain ⟨⟨op, tr, ra, rb, cn⟩, he0⟩ : ∃ e, es0[j]? = some e := ⟨_, List.getElem?_eq_getElem (by omega)⟩
      have hmy : May (op, tr, ra, rb, cn) g := hM _ (List.mem_of_getElem? he0)
      refine wp_skip ?_
      refine th_n ?_
      refine wp_seq ?_
      refine wp_block ?_
      refine wp_seq ?_
      refine region_any (n := 9) (Sk [bk g51 #[.int .i64 i, .int .i64 g, .slice A0 n0 c0, .slice A1 n1 c1] 25] [pfRow fJ FJ 5 A0 n0 c0 es0, pfRow fI FI 1 A1 n1 c1 es1] [] []) mixed rfl henv hst ?_
      clear henv hst; intro w58 henv hst
      refine tA (i := 0) [1, 3, 4, 7, 8] (v := .pointer (some ⟨g51, 2, none⟩)) rfl (by kernel_rfl) (fun _ _ _ h => h) henv rfl (fun _ => rn_fieldAddr henv fd_anvil_api_Prog_2 (ty__api_Instr.size) (by decide) rfl) ?_
      clear henv a; intro a henv
      refine sAny_take (i := 1) [3, 4, 7, 8] (fun w' => w'.heap[g51]? = some (.cells #[.int .i64 i, .int .i64 g, .slice A0 n0 c0, .slice A1 n1 c1] 25 (0, 0))) (v := .slice A0 n0 c0) rfl (by kernel_rfl) (fun _ _ _ h => h) (fun _ _ _ hS => hS.1.oat (k := 0) rfl) henv rfl (hst.oat (k := 0) rfl) (fun w' hg => rn_load1 henv ty__api_Instr rfl hg rfl) ?_
      clear henv a; intro a henv
      refine tM (i := 2) [3, 4, 7, 8] rfl (by kernel_rfl) (fun _ _ _ h => h) henv rfl rfl ?_
      clear henv a; intro a henv
      refine sAny_take (i := 3) [4, 7, 8] (fun w' => (pfRow fJ FJ 5 A0 n0 c0 es0).P w') (v := .pointer (some ⟨ab A0, ao A0 + j * 5, none⟩)) rfl (by kernel_rfl) (fun _ _ _ h => h) (fun _ _ _ hS => hS.1.pat (k := 0) rfl) henv rfl (hst.pat (k := 0) rfl) (fun w' hg => rn_idxR (i := j) henv Tryd.underlying22 (ty_anvil_api_Instr.size) rfl rfl (by omega) rfl (show (pfRow fJ FJ 5 A0 n0 c0 es0).P _ from hg).1) ?_
      clear henv a; intro a henv
      refine sAny_take (i := 4) [7, 8] (fun w' => (pfRow fJ FJ 5 A0 n0 c0 es0).P w') (v := .agg #[.int .i64 op, .int .i64 tr, .int .i64 ra, .int .i64 rb, .int .i64 cn]) rfl (by kernel_rfl) (fun _ _ _ h => h) (fun _ _ _ hS => hS.1.pat (k := 0) rfl) henv rfl (hst.pat (k := 0) rfl) (fun w' hg => rn_loadE (i := j) (e := (op, tr, ra, rb, cn)) henv ty_anvil_api_Instr rfl rfl fJ_len (show (pfRow fJ FJ 5 A0 n0 c0 es0).P _ from hg).1 (by omega) he0 rfl) ?_
      clear henv a; intro a henv
      refine tA (i := 5) [6, 7, 8] (v := .pointer (some ⟨g51, 1, none⟩)) rfl (by kernel_rfl) (fun _ _ _ h => h) henv rfl (fun _ => rn_fieldAddr henv fd_anvil_api_Prog_1 (ty_int.size) (by decide) rfl) ?_
      clear henv a; intro a henv
      refine sAny_take (i := 6) [7, 8] (fun w' => w'.heap[g51]? = some (.cells #[.int .i64 i, .int .i64 g, .slice A0 n0 c0, .slice A1 n1 c1] 25 (0, 0))) (v := .int .i64 g) rfl (by kernel_rfl) (fun _ _ _ h => h) (fun _ _ _ hS => hS.1.oat (k := 0) rfl) henv rfl (hst.oat (k := 0) rfl) (fun w' hg => rn_load1 henv ty_int rfl hg rfl) ?_
      clear henv a; intro a henv
      refine sAny_one (i := 7) (by kernel_rfl) rfl rfl (op_call henv rfl Tryd.call35 rfl (r_may (op := op) (tr := tr) (ra := ra) (rb := rb) (cn := cn) (g := g)) ?_)
      rintro e w59 ⟨rfl, hb⟩
      refine ⟨_, rfl, ?_⟩
      clear henv a; intro a henv
      replace hst := hst.call hb
      clear hb
      refine ⟨.inr ⟨hst.kn.pick [0] [0, 1], .inr (hst.kn.pick [] [])⟩, ?_⟩
      rw [show (decide (May (op, tr, ra, rb, cn) g)) = true from (decide_eq_true hmy)] at henv
      refine tA (i := 8) [] (v := .bool false) rfl (by kernel_rfl) (fun _ _ _ h => h) henv rfl (fun _ => rn_un henv rfl rfl) ?_
      clear henv a; intro a henv
      refine sAny_done (by kernel_rfl) ?_ _
      refine th_n ?_
      refine if_f henv rfl (rfl) ?_
      refine wp_skip ?_
      refine bl_n (th_n ?_)
      refine region_seq ?_
      revert a
      refine mA rfl rfl ?_
      refine sA (v := .int .i64 (j + 1 : Nat)) rfl (fun _ henv => rn_add henv rfl rfl (by rw [IntWalk.i64_in _ (by omega)]; omega)) ?_
      refine aA rfl rfl ?_
      intro a henv
      refine wpList_nil ?_
      exact th_n ⟨_, (by omega), ⟨j + 1, rfl, henv.sub ⟨rfl, rfl, rfl, rfl, trivial⟩, hst.pick [0] [0, 1] (by decide), (by omega)⟩⟩
    · have hje : j = n0 := by have := of_decide_eq_false hc57; omega
      refine wp_exit ?_
      refine th_x (th_x (bl_x (th_n ?_)))
      refine wp_seq ?_
      refine region_seq ?_
      revert a
      refine aA rfl rfl ?_
      refine aA rfl rfl ?_
      intro a henv
      refine wpList_nil ?_
      refine th_n ?_
      refine wp_ret ?_
      refine leave henv (res2 Tryd.results12 (RV.tmp henv rfl) (RV.tmp henv rfl)) ?_
      exact ⟨rfl, hst.below⟩
set_option maxRecDepth 100000 in
set_option maxHeartbeats 4000000 in
theorem r_check_head {i g : Int} {A0 A1 : Option Addr} {n0 c0 n1 c1 : Nat} {es0 : List IE} {es1 : List Int} {w0 : World} (h0 : (pfRow fJ FJ 5 A0 n0 c0 es0).P w0) (h1 : (pfRow fI FI 1 A1 n1 c1 es1).P w0) (hH : ¬ HeadOk i g n0 n1) :
    Calls Tryd.prog 12 #[.agg #[.int .i64 i, .int .i64 g, .slice A0 n0 c0, .slice A1 n1 c1]] w0 fun e w' => e = .returned (.tuple #[.int .i64 (-1), .bool true]) ∧ Below w0.heap.size w0 w' := by
  refine enter Tryd.func12 rfl Tryd.ntmps12 rfl ?_
  intro a henv hst
  have hlen0 := h0.2.1
  have hbig0 := Nat.le_trans h0.1.cap h0.1.big
  unfold maxLen at hbig0
  have hlen1 := h1.2.1
  have hbig1 := Nat.le_trans h1.1.cap h1.1.big
  unfold maxLen at hbig1
  replace hst := (hst.argRow h1).argRow h0
  clear h0 h1
  refine wp_seq ?_
  refine region_seq ?_
  refine seq_step rfl (op_box (c := #[.int .i64 i, .int .i64 g, .slice A0 n0 c0, .slice A1 n1 c1]) henv hst rfl rfl rfl ?_)
  clear henv hst a; intro a w52 g51 henv hst
  revert a
  refine aA rfl rfl ?_
  refine aA rfl rfl ?_
  intro a henv
  refine wpList_nil ?_
  refine th_n ?_
  refine wp_seq ?_
  refine wp_seq ?_
  refine region_seq ?_
  revert a
  refine sA (v := .pointer (some ⟨g51, 0, none⟩)) rfl (fun _ henv => rn_fieldAddr henv fd_anvil_api_Prog_0 (ty_int.size) (by decide) rfl) ?_
  refine sA (v := .int .i64 i) rfl (fun _ henv => rn_load1 henv ty_int rfl (hst.oat (k := 0) rfl) rfl) ?_
  refine sA (v := .bool (decide (i < (1 : Int)))) rfl (fun _ henv => rn_bin henv rfl rfl rfl) ?_
  refine mA rfl rfl ?_
  intro a henv
  rcases bool_em (decide (i < (1 : Int))) with hg53 | hg53
  · rw [hg53] at henv
    have hx54 := of_decide_eq_true hg53
    revert a
    refine kA rfl rfl rfl rfl rfl ?_
    refine kA rfl rfl rfl rfl rfl ?_
    refine kA rfl rfl rfl rfl rfl ?_
    refine kA rfl rfl rfl rfl rfl ?_
    refine kA rfl rfl rfl rfl rfl ?_
    refine sA (v := .bool true) rfl (fun _ henv => rn_pick henv rfl rfl) ?_
    refine mA rfl rfl ?_
    refine kA rfl rfl rfl rfl rfl ?_
    refine kA rfl rfl rfl rfl rfl ?_
    refine kA rfl rfl rfl rfl rfl ?_
    refine sA (v := .bool true) rfl (fun _ henv => rn_pick henv rfl rfl) ?_
    refine mA rfl rfl ?_
    refine kA rfl rfl rfl rfl rfl ?_
    refine kA rfl rfl rfl rfl rfl ?_
    refine kA rfl rfl rfl rfl rfl ?_
    refine kA rfl rfl rfl rfl rfl ?_
    refine sA (v := .bool true) rfl (fun _ henv => rn_pick henv rfl rfl) ?_
    refine mA rfl rfl ?_
    refine kA rfl rfl rfl rfl rfl ?_
    refine kA rfl rfl rfl rfl rfl ?_
    refine kA rfl rfl rfl rfl rfl ?_
    refine kA rfl rfl rfl rfl rfl ?_
    refine sA (v := .bool true) rfl (fun _ henv => rn_pick henv rfl rfl) ?_
    refine mA rfl rfl ?_
    refine kA rfl rfl rfl rfl rfl ?_
    refine kA rfl rfl rfl rfl rfl ?_
    refine kA rfl rfl rfl rfl rfl ?_
    refine kA rfl rfl rfl rfl rfl ?_
    refine sA (v := .bool true) rfl (fun _ henv => rn_pick henv rfl rfl) ?_
    intro a henv
    refine wpList_nil ?_
    refine th_n ?_
    refine if_t henv rfl (rfl) ?_
    refine wp_seq ?_
    refine region_seq ?_
    revert a
    refine aA rfl rfl ?_
    refine aA rfl rfl ?_
    intro a henv
    refine wpList_nil ?_
    refine th_n ?_
    refine wp_ret ?_
    refine th_r ?_
    refine leave henv (res2 Tryd.results12 (RV.tmp henv rfl) (RV.tmp henv rfl)) ?_
    exact ⟨rfl, hst.below⟩
  · rw [hg53] at henv
    have hx55 := of_decide_eq_false hg53
    revert a
    refine gA (v := .pointer (some ⟨g51, 0, none⟩)) rfl rfl rfl rfl (fun _ henv => rn_fieldAddr henv fd_anvil_api_Prog_0 (ty_int.size) (by decide) rfl) ?_
    refine gA (v := .int .i64 i) rfl rfl rfl rfl (fun _ henv => rn_load1 henv ty_int rfl (hst.oat (k := 0) rfl) rfl) ?_
    refine gA (v := .pointer (some ⟨g51, 1, none⟩)) rfl rfl rfl rfl (fun _ henv => rn_fieldAddr henv fd_anvil_api_Prog_1 (ty_int.size) (by decide) rfl) ?_
    refine gA (v := .int .i64 g) rfl rfl rfl rfl (fun _ henv => rn_load1 henv ty_int rfl (hst.oat (k := 0) rfl) rfl) ?_
    refine gA (v := .bool (decide (i > g))) rfl rfl rfl rfl (fun _ henv => rn_bin henv rfl rfl rfl) ?_
    refine sA (v := .bool (decide (i > g))) rfl (fun _ henv => rn_pick henv rfl rfl) ?_
    refine mA rfl rfl ?_
    intro a henv
    rcases bool_em (decide (i > g)) with hg56 | hg56
    · rw [hg56] at henv
      have hx57 := of_decide_eq_true hg56
      revert a
      refine kA rfl rfl rfl rfl rfl ?_
      refine kA rfl rfl rfl rfl rfl ?_
      refine kA rfl rfl rfl rfl rfl ?_
      refine sA (v := .bool true) rfl (fun _ henv => rn_pick henv rfl rfl) ?_
      refine mA rfl rfl ?_
      refine kA rfl rfl rfl rfl rfl ?_
      refine kA rfl rfl rfl rfl rfl ?_
      refine kA rfl rfl rfl rfl rfl ?_
      refine kA rfl rfl rfl rfl rfl ?_
      refine sA (v := .bool true) rfl (fun _ henv => rn_pick henv rfl rfl) ?_
      refine mA rfl rfl ?_
      refine kA rfl rfl rfl rfl rfl ?_
      refine kA rfl rfl rfl rfl rfl ?_
      refine kA rfl rfl rfl rfl rfl ?_
      refine kA rfl rfl rfl rfl rfl ?_
      refine sA (v := .bool true) rfl (fun _ henv => rn_pick henv rfl rfl) ?_
      refine mA rfl rfl ?_
      refine kA rfl rfl rfl rfl rfl ?_
      refine kA rfl rfl rfl rfl rfl ?_
      refine kA rfl rfl rfl rfl rfl ?_
      refine kA rfl rfl rfl rfl rfl ?_
      refine sA (v := .bool true) rfl (fun _ henv => rn_pick henv rfl rfl) ?_
      intro a henv
      refine wpList_nil ?_
      refine th_n ?_
      refine if_t henv rfl (rfl) ?_
      refine wp_seq ?_
      refine region_seq ?_
      revert a
      refine aA rfl rfl ?_
      refine aA rfl rfl ?_
      intro a henv
      refine wpList_nil ?_
      refine th_n ?_
      refine wp_ret ?_
      refine th_r ?_
      refine leave henv (res2 Tryd.results12 (RV.tmp henv rfl) (RV.tmp henv rfl)) ?_
      exact ⟨rfl, hst.below⟩
    · rw [hg56] at henv
      have hx58 := of_decide_eq_false hg56
      revert a
      refine gA (v := .pointer (some ⟨g51, 1, none⟩)) rfl rfl rfl rfl (fun _ henv => rn_fieldAddr henv fd_anvil_api_Prog_1 (ty_int.size) (by decide) rfl) ?_
      refine gA (v := .int .i64 g) rfl rfl rfl rfl (fun _ henv => rn_load1 henv ty_int rfl (hst.oat (k := 0) rfl) rfl) ?_
      refine gA (v := .bool (decide (g > (128 : Int)))) rfl rfl rfl rfl (fun _ henv => rn_bin henv rfl rfl rfl) ?_
      refine sA (v := .bool (decide (g > (128 : Int)))) rfl (fun _ henv => rn_pick henv rfl rfl) ?_
      refine mA rfl rfl ?_
      intro a henv
      rcases bool_em (decide (g > (128 : Int))) with hg59 | hg59
      · rw [hg59] at henv
        have hx60 := of_decide_eq_true hg59
        revert a
        refine kA rfl rfl rfl rfl rfl ?_
        refine kA rfl rfl rfl rfl rfl ?_
        refine kA rfl rfl rfl rfl rfl ?_
        refine kA rfl rfl rfl rfl rfl ?_
        refine sA (v := .bool true) rfl (fun _ henv => rn_pick henv rfl rfl) ?_
        refine mA rfl rfl ?_
        refine kA rfl rfl rfl rfl rfl ?_
        refine kA rfl rfl rfl rfl rfl ?_
        refine kA rfl rfl rfl rfl rfl ?_
        refine kA rfl rfl rfl rfl rfl ?_
        refine sA (v := .bool true) rfl (fun _ henv => rn_pick henv rfl rfl) ?_
        refine mA rfl rfl ?_
        refine kA rfl rfl rfl rfl rfl ?_
        refine kA rfl rfl rfl rfl rfl ?_
        refine kA rfl rfl rfl rfl rfl ?_
        refine kA rfl rfl rfl rfl rfl ?_
        refine sA (v := .bool true) rfl (fun _ henv => rn_pick henv rfl rfl) ?_
        intro a henv
        refine wpList_nil ?_
        refine th_n ?_
        refine if_t henv rfl (rfl) ?_
        refine wp_seq ?_
        refine region_seq ?_
        revert a
        refine aA rfl rfl ?_
        refine aA rfl rfl ?_
        intro a henv
        refine wpList_nil ?_
        refine th_n ?_
        refine wp_ret ?_
        refine th_r ?_
        refine leave henv (res2 Tryd.results12 (RV.tmp henv rfl) (RV.tmp henv rfl)) ?_
        exact ⟨rfl, hst.below⟩
      · rw [hg59] at henv
        have hx61 := of_decide_eq_false hg59
        revert a
        refine gA (v := .pointer (some ⟨g51, 2, none⟩)) rfl rfl rfl rfl (fun _ henv => rn_fieldAddr henv fd_anvil_api_Prog_2 (ty__api_Instr.size) (by decide) rfl) ?_
        refine gA (v := .slice A0 n0 c0) rfl rfl rfl rfl (fun _ henv => rn_load1 henv ty__api_Instr rfl (hst.oat (k := 0) rfl) rfl) ?_
        refine gA (v := .int .i64 (n0 : Nat)) rfl rfl rfl rfl (fun _ henv => rn_len henv Tryd.underlying22 rfl) ?_
        refine gA (v := .bool (decide (((n0 : Nat) : Int) > (16384 : Int)))) rfl rfl rfl rfl (fun _ henv => rn_bin henv rfl rfl rfl) ?_
        refine sA (v := .bool (decide (((n0 : Nat) : Int) > (16384 : Int)))) rfl (fun _ henv => rn_pick henv rfl rfl) ?_
        refine mA rfl rfl ?_
        intro a henv
        rcases bool_em (decide (((n0 : Nat) : Int) > (16384 : Int))) with hg62 | hg62
        · rw [hg62] at henv
          have hx63 := of_decide_eq_true hg62
          revert a
          refine kA rfl rfl rfl rfl rfl ?_
          refine kA rfl rfl rfl rfl rfl ?_
          refine kA rfl rfl rfl rfl rfl ?_
          refine kA rfl rfl rfl rfl rfl ?_
          refine sA (v := .bool true) rfl (fun _ henv => rn_pick henv rfl rfl) ?_
          refine mA rfl rfl ?_
          refine kA rfl rfl rfl rfl rfl ?_
          refine kA rfl rfl rfl rfl rfl ?_
          refine kA rfl rfl rfl rfl rfl ?_
          refine kA rfl rfl rfl rfl rfl ?_
          refine sA (v := .bool true) rfl (fun _ henv => rn_pick henv rfl rfl) ?_
          intro a henv
          refine wpList_nil ?_
          refine th_n ?_
          refine if_t henv rfl (rfl) ?_
          refine wp_seq ?_
          refine region_seq ?_
          revert a
          refine aA rfl rfl ?_
          refine aA rfl rfl ?_
          intro a henv
          refine wpList_nil ?_
          refine th_n ?_
          refine wp_ret ?_
          refine th_r ?_
          refine leave henv (res2 Tryd.results12 (RV.tmp henv rfl) (RV.tmp henv rfl)) ?_
          exact ⟨rfl, hst.below⟩
        · rw [hg62] at henv
          have hx64 := of_decide_eq_false hg62
          revert a
          refine gA (v := .pointer (some ⟨g51, 3, none⟩)) rfl rfl rfl rfl (fun _ henv => rn_fieldAddr henv fd_anvil_api_Prog_3 (ty__int.size) (by decide) rfl) ?_
          refine gA (v := .slice A1 n1 c1) rfl rfl rfl rfl (fun _ henv => rn_load1 henv ty__int rfl (hst.oat (k := 0) rfl) rfl) ?_
          refine gA (v := .int .i64 (n1 : Nat)) rfl rfl rfl rfl (fun _ henv => rn_len henv Tryd.underlying23 rfl) ?_
          refine gA (v := .bool (decide (((n1 : Nat) : Int) < (1 : Int)))) rfl rfl rfl rfl (fun _ henv => rn_bin henv rfl rfl rfl) ?_
          refine sA (v := .bool (decide (((n1 : Nat) : Int) < (1 : Int)))) rfl (fun _ henv => rn_pick henv rfl rfl) ?_
          refine mA rfl rfl ?_
          intro a henv
          rcases bool_em (decide (((n1 : Nat) : Int) < (1 : Int))) with hg65 | hg65
          · rw [hg65] at henv
            have hx66 := of_decide_eq_true hg65
            revert a
            refine kA rfl rfl rfl rfl rfl ?_
            refine kA rfl rfl rfl rfl rfl ?_
            refine kA rfl rfl rfl rfl rfl ?_
            refine kA rfl rfl rfl rfl rfl ?_
            refine sA (v := .bool true) rfl (fun _ henv => rn_pick henv rfl rfl) ?_
            intro a henv
            refine wpList_nil ?_
            refine th_n ?_
            refine if_t henv rfl (rfl) ?_
            refine wp_seq ?_
            refine region_seq ?_
            revert a
            refine aA rfl rfl ?_
            refine aA rfl rfl ?_
            intro a henv
            refine wpList_nil ?_
            refine th_n ?_
            refine wp_ret ?_
            refine th_r ?_
            refine leave henv (res2 Tryd.results12 (RV.tmp henv rfl) (RV.tmp henv rfl)) ?_
            exact ⟨rfl, hst.below⟩
          · rw [hg65] at henv
            have hx67 := of_decide_eq_false hg65
            revert a
            refine gA (v := .pointer (some ⟨g51, 3, none⟩)) rfl rfl rfl rfl (fun _ henv => rn_fieldAddr henv fd_anvil_api_Prog_3 (ty__int.size) (by decide) rfl) ?_
            refine gA (v := .slice A1 n1 c1) rfl rfl rfl rfl (fun _ henv => rn_load1 henv ty__int rfl (hst.oat (k := 0) rfl) rfl) ?_
            refine gA (v := .int .i64 (n1 : Nat)) rfl rfl rfl rfl (fun _ henv => rn_len henv Tryd.underlying23 rfl) ?_
            refine gA (v := .bool (decide (((n1 : Nat) : Int) > (128 : Int)))) rfl rfl rfl rfl (fun _ henv => rn_bin henv rfl rfl rfl) ?_
            refine sA (v := .bool (decide (((n1 : Nat) : Int) > (128 : Int)))) rfl (fun _ henv => rn_pick henv rfl rfl) ?_
            intro a henv
            refine wpList_nil ?_
            refine th_n ?_
            refine if_split henv rfl (fun hc68 => ?_) (fun hc68 => ?_)
            · have hx69 := of_decide_eq_true hc68
              refine wp_seq ?_
              refine region_seq ?_
              revert a
              refine aA rfl rfl ?_
              refine aA rfl rfl ?_
              intro a henv
              refine wpList_nil ?_
              refine th_n ?_
              refine wp_ret ?_
              refine th_r ?_
              refine leave henv (res2 Tryd.results12 (RV.tmp henv rfl) (RV.tmp henv rfl)) ?_
              exact ⟨rfl, hst.below⟩
            · have hx70 := of_decide_eq_false hc68
              exfalso; unfold HeadOk at hH; omega
set_option maxRecDepth 100000 in
set_option maxHeartbeats 4000000 in
theorem r_check_outs {i g : Int} {A0 A1 : Option Addr} {n0 c0 n1 c1 : Nat} {es0 : List IE} {es1 : List Int} {w0 : World} (h0 : (pfRow fJ FJ 5 A0 n0 c0 es0).P w0) (h1 : (pfRow fI FI 1 A1 n1 c1 es1).P w0) (hH : HeadOk i g n0 n1) (hO : ¬ ∀ x ∈ es1, 0 ≤ x ∧ x < g) :
    Calls Tryd.prog 12 #[.agg #[.int .i64 i, .int .i64 g, .slice A0 n0 c0, .slice A1 n1 c1]] w0 fun e w' => e = .returned (.tuple #[.int .i64 (-1), .bool true]) ∧ Below w0.heap.size w0 w' := by
  obtain ⟨hh1, hh2, hh3, hh4, hh5, hh6⟩ := hH
  refine enter Tryd.func12 rfl Tryd.ntmps12 rfl ?_
  intro a henv hst
  have hlen0 := h0.2.1
  have hbig0 := Nat.le_trans h0.1.cap h0.1.big
  unfold maxLen at hbig0
  have hlen1 := h1.2.1
  have hbig1 := Nat.le_trans h1.1.cap h1.1.big
  unfold maxLen at hbig1
  replace hst := (hst.argRow h1).argRow h0
  clear h0 h1
  refine wp_seq ?_
  refine region_seq ?_
  refine seq_step rfl (op_box (c := #[.int .i64 i, .int .i64 g, .slice A0 n0 c0, .slice A1 n1 c1]) henv hst rfl rfl rfl ?_)
  clear henv hst a; intro a w52 g51 henv hst
  revert a
  refine aA rfl rfl ?_
  refine aA rfl rfl ?_
  intro a henv
  refine wpList_nil ?_
  refine th_n ?_
  refine wp_seq ?_
  refine wp_seq ?_
  refine region_seq ?_
  revert a
  refine sA (v := .pointer (some ⟨g51, 0, none⟩)) rfl (fun _ henv => rn_fieldAddr henv fd_anvil_api_Prog_0 (ty_int.size) (by decide) rfl) ?_
  refine sA (v := .int .i64 i) rfl (fun _ henv => rn_load1 henv ty_int rfl (hst.oat (k := 0) rfl) rfl) ?_
  refine sA (v := .bool (decide (i < (1 : Int)))) rfl (fun _ henv => rn_bin henv rfl rfl rfl) ?_
  intro a henv
  rw [show (decide (i < (1 : Int))) = false from (decide_eq_false (by omega))] at henv
  revert a
  refine mA rfl rfl ?_
  refine gA (v := .pointer (some ⟨g51, 0, none⟩)) rfl rfl rfl rfl (fun _ henv => rn_fieldAddr henv fd_anvil_api_Prog_0 (ty_int.size) (by decide) rfl) ?_
  refine gA (v := .int .i64 i) rfl rfl rfl rfl (fun _ henv => rn_load1 henv ty_int rfl (hst.oat (k := 0) rfl) rfl) ?_
  refine gA (v := .pointer (some ⟨g51, 1, none⟩)) rfl rfl rfl rfl (fun _ henv => rn_fieldAddr henv fd_anvil_api_Prog_1 (ty_int.size) (by decide) rfl) ?_
  refine gA (v := .int .i64 g) rfl rfl rfl rfl (fun _ henv => rn_load1 henv ty_int rfl (hst.oat (k := 0) rfl) rfl) ?_
  refine gA (v := .bool (decide (i > g))) rfl rfl rfl rfl (fun _ henv => rn_bin henv rfl rfl rfl) ?_
  intro a henv
  rw [show (decide (i > g)) = false from (decide_eq_false (by omega))] at henv
  revert a
  refine sA (v := .bool false) rfl (fun _ henv => rn_pick henv rfl rfl) ?_
  refine mA rfl rfl ?_
  refine gA (v := .pointer (some ⟨g51, 1, none⟩)) rfl rfl rfl rfl (fun _ henv => rn_fieldAddr henv fd_anvil_api_Prog_1 (ty_int.size) (by decide) rfl) ?_
  refine gA (v := .int .i64 g) rfl rfl rfl rfl (fun _ henv => rn_load1 henv ty_int rfl (hst.oat (k := 0) rfl) rfl) ?_
  refine gA (v := .bool (decide (g > (128 : Int)))) rfl rfl rfl rfl (fun _ henv => rn_bin henv rfl rfl rfl) ?_
  intro a henv
  rw [show (decide (g > (128 : Int))) = false from (decide_eq_false (by omega))] at henv
  revert a
  refine sA (v := .bool false) rfl (fun _ henv => rn_pick henv rfl rfl) ?_
  refine mA rfl rfl ?_
  refine gA (v := .pointer (some ⟨g51, 2, none⟩)) rfl rfl rfl rfl (fun _ henv => rn_fieldAddr henv fd_anvil_api_Prog_2 (ty__api_Instr.size) (by decide) rfl) ?_
  refine gA (v := .slice A0 n0 c0) rfl rfl rfl rfl (fun _ henv => rn_load1 henv ty__api_Instr rfl (hst.oat (k := 0) rfl) rfl) ?_
  refine gA (v := .int .i64 (n0 : Nat)) rfl rfl rfl rfl (fun _ henv => rn_len henv Tryd.underlying22 rfl) ?_
  refine gA (v := .bool (decide (((n0 : Nat) : Int) > (16384 : Int)))) rfl rfl rfl rfl (fun _ henv => rn_bin henv rfl rfl rfl) ?_
  intro a henv
  rw [show (decide (((n0 : Nat) : Int) > (16384 : Int))) = false from (decide_eq_false (by omega))] at henv
  revert a
  refine sA (v := .bool false) rfl (fun _ henv => rn_pick henv rfl rfl) ?_
  refine mA rfl rfl ?_
  refine gA (v := .pointer (some ⟨g51, 3, none⟩)) rfl rfl rfl rfl (fun _ henv => rn_fieldAddr henv fd_anvil_api_Prog_3 (ty__int.size) (by decide) rfl) ?_
  refine gA (v := .slice A1 n1 c1) rfl rfl rfl rfl (fun _ henv => rn_load1 henv ty__int rfl (hst.oat (k := 0) rfl) rfl) ?_
  refine gA (v := .int .i64 (n1 : Nat)) rfl rfl rfl rfl (fun _ henv => rn_len henv Tryd.underlying23 rfl) ?_
  refine gA (v := .bool (decide (((n1 : Nat) : Int) < (1 : Int)))) rfl rfl rfl rfl (fun _ henv => rn_bin henv rfl rfl rfl) ?_
  intro a henv
  rw [show (decide (((n1 : Nat) : Int) < (1 : Int))) = false from (decide_eq_false (by omega))] at henv
  revert a
  refine sA (v := .bool false) rfl (fun _ henv => rn_pick henv rfl rfl) ?_
  refine mA rfl rfl ?_
  refine gA (v := .pointer (some ⟨g51, 3, none⟩)) rfl rfl rfl rfl (fun _ henv => rn_fieldAddr henv fd_anvil_api_Prog_3 (ty__int.size) (by decide) rfl) ?_
  refine gA (v := .slice A1 n1 c1) rfl rfl rfl rfl (fun _ henv => rn_load1 henv ty__int rfl (hst.oat (k := 0) rfl) rfl) ?_
  refine gA (v := .int .i64 (n1 : Nat)) rfl rfl rfl rfl (fun _ henv => rn_len henv Tryd.underlying23 rfl) ?_
  refine gA (v := .bool (decide (((n1 : Nat) : Int) > (128 : Int)))) rfl rfl rfl rfl (fun _ henv => rn_bin henv rfl rfl rfl) ?_
  intro a henv
  rw [show (decide (((n1 : Nat) : Int) > (128 : Int))) = false from (decide_eq_false (by omega))] at henv
  refine sv (v := .bool false) henv rfl (rn_pick henv rfl rfl) ?_
  clear henv a; intro a henv
  refine wpList_nil ?_
  refine th_n ?_
  refine if_f henv rfl (rfl) ?_
  refine wp_skip ?_
  refine th_n ?_
  refine wp_seq ?_
  refine wp_seq ?_
  refine region_seq ?_
  refine sv (v := .int .i64 0) henv rfl (rn_assign henv rfl) ?_
  clear henv a; intro a henv
  refine wpList_nil ?_
  refine th_n ?_
  refine wp_block ?_
  refine wp_loop_ghost (fun mz a w => ∃ j : Nat, n1 - j = mz ∧ Env 79 a [(1, .pointer (some ⟨g51, 0, none⟩)), (2, .int .i64 0), (3, .bool false), (4, .int .i64 (j : Nat))] ∧ St w0 w [bk g51 #[.int .i64 i, .int .i64 g, .slice A0 n0 c0, .slice A1 n1 c1] 25] [pfRow fJ FJ 5 A0 n0 c0 es0, pfRow fI FI 1 A1 n1 c1 es1] ∧ j ≤ n1 ∧ (∀ x ∈ es1.take j, 0 ≤ x ∧ x < g)) _ ⟨0, rfl, henv.sub ⟨rfl, rfl, rfl, rfl, trivial⟩, hst.pick [0] [0, 1] (by decide), (Nat.zero_le _), (fun _ h => by cases h)⟩ ?_
  clear henv hst a
  rintro mz a w53 ⟨j, rfl, henv, hst, hj, hno⟩
  rcases out_cases es1 g j with hv | ⟨x, he1, hxo⟩ | ⟨x, he1, hxo, hxg⟩ | ⟨x, he1, hxo, hxg⟩
  · refine wp_seq ?_
    refine wp_seq ?_
    refine region_seq ?_
    revert a
    refine mA rfl rfl ?_
    refine sA (v := .pointer (some ⟨g51, 3, none⟩)) rfl (fun _ henv => rn_fieldAddr henv fd_anvil_api_Prog_3 (ty__int.size) (by decide) rfl) ?_
    refine sA (v := .slice A1 n1 c1) rfl (fun _ henv => rn_load1 henv ty__int rfl (hst.oat (k := 0) rfl) rfl) ?_
    refine sA (v := .int .i64 (n1 : Nat)) rfl (fun _ henv => rn_len henv Tryd.underlying23 rfl) ?_
    refine sA (v := .bool (decide (((j : Nat) : Int) < ((n1 : Nat) : Int)))) rfl (fun _ henv => rn_bin henv rfl rfl rfl) ?_
    intro a henv
    refine wpList_nil ?_
    refine th_n ?_
    refine if_split henv rfl (fun hc54 => ?_) (fun hc54 => ?_)
    · exfalso; have q := of_decide_eq_true hc54; have := List.getElem?_eq_none_iff.1 hv; omega
    · have q := List.getElem?_eq_none_iff.1 hv
      exact absurd (all_full hno q) hO
  · refine wp_seq ?_
    refine wp_seq ?_
    refine region_seq ?_
    revert a
    refine mA rfl rfl ?_
    refine sA (v := .pointer (some ⟨g51, 3, none⟩)) rfl (fun _ henv => rn_fieldAddr henv fd_anvil_api_Prog_3 (ty__int.size) (by decide) rfl) ?_
    refine sA (v := .slice A1 n1 c1) rfl (fun _ henv => rn_load1 henv ty__int rfl (hst.oat (k := 0) rfl) rfl) ?_
    refine sA (v := .int .i64 (n1 : Nat)) rfl (fun _ henv => rn_len henv Tryd.underlying23 rfl) ?_
    refine sA (v := .bool (decide (((j : Nat) : Int) < ((n1 : Nat) : Int)))) rfl (fun _ henv => rn_bin henv rfl rfl rfl) ?_
    intro a henv
    refine wpList_nil ?_
    refine th_n ?_
    refine if_split henv rfl (fun hc55 => ?_) (fun hc55 => ?_)
    · have hlt : j < n1 := by have := of_decide_eq_true hc55; omega
      refine wp_skip ?_
      refine th_n ?_
      refine wp_seq ?_
      refine wp_block ?_
      refine wp_seq ?_
      refine region_any (n := 16) (Sk [bk g51 #[.int .i64 i, .int .i64 g, .slice A0 n0 c0, .slice A1 n1 c1] 25] [pfRow fJ FJ 5 A0 n0 c0 es0, pfRow fI FI 1 A1 n1 c1 es1] [] []) mixed rfl henv hst ?_
      clear henv hst; intro w56 henv hst
      refine tA (i := 0) [1, 3, 4, 5, 6, 7, 8, 9, 10, 11, 12, 13, 14, 15] (v := .pointer (some ⟨g51, 3, none⟩)) rfl (by kernel_rfl) (fun _ _ _ h => h) henv rfl (fun _ => rn_fieldAddr henv fd_anvil_api_Prog_3 (ty__int.size) (by decide) rfl) ?_
      clear henv a; intro a henv
      refine sAny_take (i := 1) [3, 4, 5, 6, 7, 8, 9, 10, 11, 12, 13, 14, 15] (fun w' => w'.heap[g51]? = some (.cells #[.int .i64 i, .int .i64 g, .slice A0 n0 c0, .slice A1 n1 c1] 25 (0, 0))) (v := .slice A1 n1 c1) rfl (by kernel_rfl) (fun _ _ _ h => h) (fun _ _ _ hS => hS.1.oat (k := 0) rfl) henv rfl (hst.oat (k := 0) rfl) (fun w' hg => rn_load1 henv ty__int rfl hg rfl) ?_
      clear henv a; intro a henv
      refine tM (i := 2) (rg 3 13) rfl (by kernel_rfl) (fun _ _ _ h => h) henv rfl rfl ?_
      clear henv a; intro a henv
      refine sAny_take (i := 3) [4, 5, 6, 7, 8, 9, 10, 11, 12, 13, 14, 15] (fun w' => (pfRow fI FI 1 A1 n1 c1 es1).P w') (v := .pointer (some ⟨ab A1, ao A1 + j * 1, none⟩)) rfl (by kernel_rfl) (fun _ _ _ h => h) (fun _ _ _ hS => hS.1.pat (k := 1) rfl) henv rfl (hst.pat (k := 1) rfl) (fun w' hg => rn_idxR (i := j) henv Tryd.underlying23 (ty_int.size) rfl rfl (by omega) rfl (show (pfRow fI FI 1 A1 n1 c1 es1).P _ from hg).1) ?_
      clear henv a; intro a henv
      refine sAny_take (i := 4) [5, 6, 7, 8, 9, 10, 11, 12, 13, 14, 15] (fun w' => (pfRow fI FI 1 A1 n1 c1 es1).P w') (v := .int .i64 x) rfl (by kernel_rfl) (fun _ _ _ h => h) (fun _ _ _ hS => hS.1.pat (k := 1) rfl) henv rfl (hst.pat (k := 1) rfl) (fun w' hg => rn_loadE1 (i := j) (j := 0) (e := x) henv ty_int rfl rfl fI_len (by decide) (show (pfRow fI FI 1 A1 n1 c1 es1).P _ from hg).1 (by omega) he1 rfl) ?_
      clear henv a; intro a henv
      refine tA (i := 5) (rg 6 10) (v := .bool (decide (x < (0 : Int)))) rfl (by kernel_rfl) (fun _ _ _ h => h) henv rfl (fun _ => rn_bin henv rfl rfl rfl) ?_
      clear henv a; intro a henv
      rw [show (decide (x < (0 : Int))) = true from (decide_eq_true (by omega))] at henv
      refine tM (i := 6) (rg 7 9) rfl (by kernel_rfl) (fun _ _ _ h => h) henv rfl rfl ?_
      clear henv a; intro a henv
      refine sAny_skipg (i := 7) [8, 10, 11, 14, 15] rfl (by kernel_rfl) (fun _ _ _ h => h) henv rfl rfl rfl rfl rfl ?_
      clear henv a; intro a henv
      refine sAny_skipg (i := 8) [10, 11, 14, 15] rfl (by kernel_rfl) (fun _ _ _ h => h) henv rfl rfl rfl rfl rfl ?_
      clear henv a; intro a henv
      refine sAny_skipg (i := 9) [10, 11, 14, 15] rfl (by kernel_rfl) (fun _ _ _ h => h) henv rfl rfl rfl rfl rfl ?_
      clear henv a; intro a henv
      refine sAny_skipg (i := 10) [11, 14, 15] rfl (by kernel_rfl) (fun _ _ _ h => h) henv rfl rfl rfl rfl rfl ?_
      clear henv a; intro a henv
      refine sAny_skipg (i := 11) [14, 15] rfl (by kernel_rfl) (fun _ _ _ h => h) henv rfl rfl rfl rfl rfl ?_
      clear henv a; intro a henv
      refine sAny_skipg (i := 12) [13, 14, 15] rfl (by kernel_rfl) (fun _ _ _ h => h) henv rfl rfl rfl rfl rfl ?_
      clear henv a; intro a henv
      refine sAny_skipg (i := 13) [14, 15] rfl (by kernel_rfl) (fun _ _ _ h => h) henv rfl rfl rfl rfl rfl ?_
      clear henv a; intro a henv
      refine sAny_skipg (i := 14) [15] rfl (by kernel_rfl) (fun _ _ _ h => h) henv rfl rfl rfl rfl rfl ?_
      clear henv a; intro a henv
      refine tA (i := 15) [] (v := .bool true) rfl (by kernel_rfl) (fun _ _ _ h => h) henv rfl (fun _ => rn_pick henv rfl rfl) ?_
      clear henv a; intro a henv
      refine sAny_done (by kernel_rfl) ?_ _
      refine th_n ?_
      refine if_t henv rfl (rfl) ?_
      refine wp_seq ?_
      refine region_seq ?_
      revert a
      refine aA rfl rfl ?_
      refine aA rfl rfl ?_
      intro a henv
      refine wpList_nil ?_
      refine th_n ?_
      refine wp_ret ?_
      refine bl_r (th_r (th_r (bl_r (th_r ?_))))
      refine leave henv (res2 Tryd.results12 (RV.tmp henv rfl) (RV.tmp henv rfl)) ?_
      exact ⟨rfl, hst.below⟩
    · exfalso; have q := of_decide_eq_false hc55; have := (List.getElem?_eq_some_iff.1 he1).1; omega
  · refine wp_seq ?_
    refine wp_seq ?_
    refine region_seq ?_
    revert a
    refine mA rfl rfl ?_
    refine sA (v := .pointer (some ⟨g51, 3, none⟩)) rfl (fun _ henv => rn_fieldAddr henv fd_anvil_api_Prog_3 (ty__int.size) (by decide) rfl) ?_
    refine sA (v := .slice A1 n1 c1) rfl (fun _ henv => rn_load1 henv ty__int rfl (hst.oat (k := 0) rfl) rfl) ?_
    refine sA (v := .int .i64 (n1 : Nat)) rfl (fun _ henv => rn_len henv Tryd.underlying23 rfl) ?_
    refine sA (v := .bool (decide (((j : Nat) : Int) < ((n1 : Nat) : Int)))) rfl (fun _ henv => rn_bin henv rfl rfl rfl) ?_
    intro a henv
    refine wpList_nil ?_
    refine th_n ?_
    refine if_split henv rfl (fun hc57 => ?_) (fun hc57 => ?_)
    · have hlt : j < n1 := by have := of_decide_eq_true hc57; omega
      refine wp_skip ?_
      refine th_n ?_
      refine wp_seq ?_
      refine wp_block ?_
      refine wp_seq ?_
      refine region_any (n := 16) (Sk [bk g51 #[.int .i64 i, .int .i64 g, .slice A0 n0 c0, .slice A1 n1 c1] 25] [pfRow fJ FJ 5 A0 n0 c0 es0, pfRow fI FI 1 A1 n1 c1 es1] [] []) mixed rfl henv hst ?_
      clear henv hst; intro w58 henv hst
      refine tA (i := 0) [1, 3, 4, 5, 6, 7, 8, 9, 10, 11, 12, 13, 14, 15] (v := .pointer (some ⟨g51, 3, none⟩)) rfl (by kernel_rfl) (fun _ _ _ h => h) henv rfl (fun _ => rn_fieldAddr henv fd_anvil_api_Prog_3 (ty__int.size) (by decide) rfl) ?_
      clear henv a; intro a henv
      refine sAny_take (i := 1) [3, 4, 5, 6, 7, 8, 9, 10, 11, 12, 13, 14, 15] (fun w' => w'.heap[g51]? = some (.cells #[.int .i64 i, .int .i64 g, .slice A0 n0 c0, .slice A1 n1 c1] 25 (0, 0))) (v := .slice A1 n1 c1) rfl (by kernel_rfl) (fun _ _ _ h => h) (fun _ _ _ hS => hS.1.oat (k := 0) rfl) henv rfl (hst.oat (k := 0) rfl) (fun w' hg => rn_load1 henv ty__int rfl hg rfl) ?_
      clear henv a; intro a henv
      refine tM (i := 2) (rg 3 13) rfl (by kernel_rfl) (fun _ _ _ h => h) henv rfl rfl ?_
      clear henv a; intro a henv
      refine sAny_take (i := 3) [4, 5, 6, 7, 8, 9, 10, 11, 12, 13, 14, 15] (fun w' => (pfRow fI FI 1 A1 n1 c1 es1).P w') (v := .pointer (some ⟨ab A1, ao A1 + j * 1, none⟩)) rfl (by kernel_rfl) (fun _ _ _ h => h) (fun _ _ _ hS => hS.1.pat (k := 1) rfl) henv rfl (hst.pat (k := 1) rfl) (fun w' hg => rn_idxR (i := j) henv Tryd.underlying23 (ty_int.size) rfl rfl (by omega) rfl (show (pfRow fI FI 1 A1 n1 c1 es1).P _ from hg).1) ?_
      clear henv a; intro a henv
      refine sAny_take (i := 4) [5, 6, 7, 8, 9, 10, 11, 12, 13, 14, 15] (fun w' => (pfRow fI FI 1 A1 n1 c1 es1).P w') (v := .int .i64 x) rfl (by kernel_rfl) (fun _ _ _ h => h) (fun _ _ _ hS => hS.1.pat (k := 1) rfl) henv rfl (hst.pat (k := 1) rfl) (fun w' hg => rn_loadE1 (i := j) (j := 0) (e := x) henv ty_int rfl rfl fI_len (by decide) (show (pfRow fI FI 1 A1 n1 c1 es1).P _ from hg).1 (by omega) he1 rfl) ?_
      clear henv a; intro a henv
      refine tA (i := 5) (rg 6 10) (v := .bool (decide (x < (0 : Int)))) rfl (by kernel_rfl) (fun _ _ _ h => h) henv rfl (fun _ => rn_bin henv rfl rfl rfl) ?_
      clear henv a; intro a henv
      rw [show (decide (x < (0 : Int))) = false from (decide_eq_false (by omega))] at henv
      refine tM (i := 6) (rg 7 9) rfl (by kernel_rfl) (fun _ _ _ h => h) henv rfl rfl ?_
      clear henv a; intro a henv
      refine tAg (i := 7) [8, 10, 11, 14, 15] (v := .pointer (some ⟨g51, 3, none⟩)) rfl (by kernel_rfl) (fun _ _ _ h => h) henv rfl rfl rfl rfl (fun _ => rn_fieldAddr henv fd_anvil_api_Prog_3 (ty__int.size) (by decide) rfl) ?_
      clear henv a; intro a henv
      refine sAny_takeg (i := 8) [10, 11, 14, 15] (fun w' => w'.heap[g51]? = some (.cells #[.int .i64 i, .int .i64 g, .slice A0 n0 c0, .slice A1 n1 c1] 25 (0, 0))) (v := .slice A1 n1 c1) rfl (by kernel_rfl) (fun _ _ _ h => h) (fun _ _ _ hS => hS.1.oat (k := 0) rfl) henv rfl rfl rfl rfl (hst.oat (k := 0) rfl) (fun w' hg => rn_load1 henv ty__int rfl hg rfl) ?_
      clear henv a; intro a henv
      refine tAg (i := 9) [10, 11, 14, 15] (v := .int .i64 (j : Nat)) rfl (by kernel_rfl) (fun _ _ _ h => h) henv rfl rfl rfl rfl (fun _ => rn_move henv rfl) ?_
      clear henv a; intro a henv
      refine sAny_takeg (i := 10) [11, 14, 15] (fun w' => (pfRow fI FI 1 A1 n1 c1 es1).P w') (v := .pointer (some ⟨ab A1, ao A1 + j * 1, none⟩)) rfl (by kernel_rfl) (fun _ _ _ h => h) (fun _ _ _ hS => hS.1.pat (k := 1) rfl) henv rfl rfl rfl rfl (hst.pat (k := 1) rfl) (fun w' hg => rn_idxR (i := j) henv Tryd.underlying23 (ty_int.size) rfl rfl (by omega) rfl (show (pfRow fI FI 1 A1 n1 c1 es1).P _ from hg).1) ?_
      clear henv a; intro a henv
      refine sAny_takeg (i := 11) [14, 15] (fun w' => (pfRow fI FI 1 A1 n1 c1 es1).P w') (v := .int .i64 x) rfl (by kernel_rfl) (fun _ _ _ h => h) (fun _ _ _ hS => hS.1.pat (k := 1) rfl) henv rfl rfl rfl rfl (hst.pat (k := 1) rfl) (fun w' hg => rn_loadE1 (i := j) (j := 0) (e := x) henv ty_int rfl rfl fI_len (by decide) (show (pfRow fI FI 1 A1 n1 c1 es1).P _ from hg).1 (by omega) he1 rfl) ?_
      clear henv a; intro a henv
      refine tAg (i := 12) [13, 14, 15] (v := .pointer (some ⟨g51, 1, none⟩)) rfl (by kernel_rfl) (fun _ _ _ h => h) henv rfl rfl rfl rfl (fun _ => rn_fieldAddr henv fd_anvil_api_Prog_1 (ty_int.size) (by decide) rfl) ?_
      clear henv a; intro a henv
      refine sAny_takeg (i := 13) [14, 15] (fun w' => w'.heap[g51]? = some (.cells #[.int .i64 i, .int .i64 g, .slice A0 n0 c0, .slice A1 n1 c1] 25 (0, 0))) (v := .int .i64 g) rfl (by kernel_rfl) (fun _ _ _ h => h) (fun _ _ _ hS => hS.1.oat (k := 0) rfl) henv rfl rfl rfl rfl (hst.oat (k := 0) rfl) (fun w' hg => rn_load1 henv ty_int rfl hg rfl) ?_
      clear henv a; intro a henv
      refine tAg (i := 14) [15] (v := .bool (decide (x ≥ g))) rfl (by kernel_rfl) (fun _ _ _ h => h) henv rfl rfl rfl rfl (fun _ => rn_bin henv rfl rfl rfl) ?_
      clear henv a; intro a henv
      rw [show (decide (x ≥ g)) = true from (decide_eq_true (by omega))] at henv
      refine tA (i := 15) [] (v := .bool true) rfl (by kernel_rfl) (fun _ _ _ h => h) henv rfl (fun _ => rn_pick henv rfl rfl) ?_
      clear henv a; intro a henv
      refine sAny_done (by kernel_rfl) ?_ _
      refine th_n ?_
      refine if_t henv rfl (rfl) ?_
      refine wp_seq ?_
      refine region_seq ?_
      revert a
      refine aA rfl rfl ?_
      refine aA rfl rfl ?_
      intro a henv
      refine wpList_nil ?_
      refine th_n ?_
      refine wp_ret ?_
      refine bl_r (th_r (th_r (bl_r (th_r ?_))))
      refine leave henv (res2 Tryd.results12 (RV.tmp henv rfl) (RV.tmp henv rfl)) ?_
      exact ⟨rfl, hst.below⟩
    · exfalso; have q := of_decide_eq_false hc57; have := (List.getElem?_eq_some_iff.1 he1).1; omega
  · refine wp_seq ?_
    refine wp_seq ?_
    refine region_seq ?_
    revert a
    refine mA rfl rfl ?_
    refine sA (v := .pointer (some ⟨g51, 3, none⟩)) rfl (fun _ henv => rn_fieldAddr henv fd_anvil_api_Prog_3 (ty__int.size) (by decide) rfl) ?_
    refine sA (v := .slice A1 n1 c1) rfl (fun _ henv => rn_load1 henv ty__int rfl (hst.oat (k := 0) rfl) rfl) ?_
    refine sA (v := .int .i64 (n1 : Nat)) rfl (fun _ henv => rn_len henv Tryd.underlying23 rfl) ?_
    refine sA (v := .bool (decide (((j : Nat) : Int) < ((n1 : Nat) : Int)))) rfl (fun _ henv => rn_bin henv rfl rfl rfl) ?_
    intro a henv
    refine wpList_nil ?_
    refine th_n ?_
    refine if_split henv rfl (fun hc59 => ?_) (fun hc59 => ?_)
    · have hlt : j < n1 := by have := of_decide_eq_true hc59; omega
      refine wp_skip ?_
      refine th_n ?_
      refine wp_seq ?_
      refine wp_block ?_
      refine wp_seq ?_
      refine region_any (n := 16) (Sk [bk g51 #[.int .i64 i, .int .i64 g, .slice A0 n0 c0, .slice A1 n1 c1] 25] [pfRow fJ FJ 5 A0 n0 c0 es0, pfRow fI FI 1 A1 n1 c1 es1] [] []) mixed rfl henv hst ?_
      clear henv hst; intro w60 henv hst
      refine tA (i := 0) [1, 3, 4, 5, 6, 7, 8, 9, 10, 11, 12, 13, 14, 15] (v := .pointer (some ⟨g51, 3, none⟩)) rfl (by kernel_rfl) (fun _ _ _ h => h) henv rfl (fun _ => rn_fieldAddr henv fd_anvil_api_Prog_3 (ty__int.size) (by decide) rfl) ?_
      clear henv a; intro a henv
      refine sAny_take (i := 1) [3, 4, 5, 6, 7, 8, 9, 10, 11, 12, 13, 14, 15] (fun w' => w'.heap[g51]? = some (.cells #[.int .i64 i, .int .i64 g, .slice A0 n0 c0, .slice A1 n1 c1] 25 (0, 0))) (v := .slice A1 n1 c1) rfl (by kernel_rfl) (fun _ _ _ h => h) (fun _ _ _ hS => hS.1.oat (k := 0) rfl) henv rfl (hst.oat (k := 0) rfl) (fun w' hg => rn_load1 henv ty__int rfl hg rfl) ?_
      clear henv a; intro a henv
      refine tM (i := 2) (rg 3 13) rfl (by kernel_rfl) (fun _ _ _ h => h) henv rfl rfl ?_
      clear henv a; intro a henv
      refine sAny_take (i := 3) [4, 5, 6, 7, 8, 9, 10, 11, 12, 13, 14, 15] (fun w' => (pfRow fI FI 1 A1 n1 c1 es1).P w') (v := .pointer (some ⟨ab A1, ao A1 + j * 1, none⟩)) rfl (by kernel_rfl) (fun _ _ _ h => h) (fun _ _ _ hS => hS.1.pat (k := 1) rfl) henv rfl (hst.pat (k := 1) rfl) (fun w' hg => rn_idxR (i := j) henv Tryd.underlying23 (ty_int.size) rfl rfl (by omega) rfl (show (pfRow fI FI 1 A1 n1 c1 es1).P _ from hg).1) ?_
      clear henv a; intro a henv
      refine sAny_take (i := 4) [5, 6, 7, 8, 9, 10, 11, 12, 13, 14, 15] (fun w' => (pfRow fI FI 1 A1 n1 c1 es1).P w') (v := .int .i64 x) rfl (by kernel_rfl) (fun _ _ _ h => h) (fun _ _ _ hS => hS.1.pat (k := 1) rfl) henv rfl (hst.pat (k := 1) rfl) (fun w' hg => rn_loadE1 (i := j) (j := 0) (e := x) henv ty_int rfl rfl fI_len (by decide) (show (pfRow fI FI 1 A1 n1 c1 es1).P _ from hg).1 (by omega) he1 rfl) ?_
      clear henv a; intro a henv
      refine tA (i := 5) (rg 6 10) (v := .bool (decide (x < (0 : Int)))) rfl (by kernel_rfl) (fun _ _ _ h => h) henv rfl (fun _ => rn_bin henv rfl rfl rfl) ?_
      clear henv a; intro a henv
      rw [show (decide (x < (0 : Int))) = false from (decide_eq_false (by omega))] at henv
      refine tM (i := 6) (rg 7 9) rfl (by kernel_rfl) (fun _ _ _ h => h) henv rfl rfl ?_
      clear henv a; intro a henv
      refine tAg (i := 7) [8, 10, 11, 14, 15] (v := .pointer (some ⟨g51, 3, none⟩)) rfl (by kernel_rfl) (fun _ _ _ h => h) henv rfl rfl rfl rfl (fun _ => rn_fieldAddr henv fd_anvil_api_Prog_3 (ty__int.size) (by decide) rfl) ?_
      clear henv a; intro a henv
      refine sAny_takeg (i := 8) [10, 11, 14, 15] (fun w' => w'.heap[g51]? = some (.cells #[.int .i64 i, .int .i64 g, .slice A0 n0 c0, .slice A1 n1 c1] 25 (0, 0))) (v := .slice A1 n1 c1) rfl (by kernel_rfl) (fun _ _ _ h => h) (fun _ _ _ hS => hS.1.oat (k := 0) rfl) henv rfl rfl rfl rfl (hst.oat (k := 0) rfl) (fun w' hg => rn_load1 henv ty__int rfl hg rfl) ?_
      clear henv a; intro a henv
      refine tAg (i := 9) [10, 11, 14, 15] (v := .int .i64 (j : Nat)) rfl (by kernel_rfl) (fun _ _ _ h => h) henv rfl rfl rfl rfl (fun _ => rn_move henv rfl) ?_
      clear henv a; intro a henv
      refine sAny_takeg (i := 10) [11, 14, 15] (fun w' => (pfRow fI FI 1 A1 n1 c1 es1).P w') (v := .pointer (some ⟨ab A1, ao A1 + j * 1, none⟩)) rfl (by kernel_rfl) (fun _ _ _ h => h) (fun _ _ _ hS => hS.1.pat (k := 1) rfl) henv rfl rfl rfl rfl (hst.pat (k := 1) rfl) (fun w' hg => rn_idxR (i := j) henv Tryd.underlying23 (ty_int.size) rfl rfl (by omega) rfl (show (pfRow fI FI 1 A1 n1 c1 es1).P _ from hg).1) ?_
      clear henv a; intro a henv
      refine sAny_takeg (i := 11) [14, 15] (fun w' => (pfRow fI FI 1 A1 n1 c1 es1).P w') (v := .int .i64 x) rfl (by kernel_rfl) (fun _ _ _ h => h) (fun _ _ _ hS => hS.1.pat (k := 1) rfl) henv rfl rfl rfl rfl (hst.pat (k := 1) rfl) (fun w' hg => rn_loadE1 (i := j) (j := 0) (e := x) henv ty_int rfl rfl fI_len (by decide) (show (pfRow fI FI 1 A1 n1 c1 es1).P _ from hg).1 (by omega) he1 rfl) ?_
      clear henv a; intro a henv
      refine tAg (i := 12) [13, 14, 15] (v := .pointer (some ⟨g51, 1, none⟩)) rfl (by kernel_rfl) (fun _ _ _ h => h) henv rfl rfl rfl rfl (fun _ => rn_fieldAddr henv fd_anvil_api_Prog_1 (ty_int.size) (by decide) rfl) ?_
      clear henv a; intro a henv
      refine sAny_takeg (i := 13) [14, 15] (fun w' => w'.heap[g51]? = some (.cells #[.int .i64 i, .int .i64 g, .slice A0 n0 c0, .slice A1 n1 c1] 25 (0, 0))) (v := .int .i64 g) rfl (by kernel_rfl) (fun _ _ _ h => h) (fun _ _ _ hS => hS.1.oat (k := 0) rfl) henv rfl rfl rfl rfl (hst.oat (k := 0) rfl) (fun w' hg => rn_load1 henv ty_int rfl hg rfl) ?_
      clear henv a; intro a henv
      refine tAg (i := 14) [15] (v := .bool (decide (x ≥ g))) rfl (by kernel_rfl) (fun _ _ _ h => h) henv rfl rfl rfl rfl (fun _ => rn_bin henv rfl rfl rfl) ?_
      clear henv a; intro a henv
      rw [show (decide (x ≥ g)) = false from (decide_eq_false (by omega))] at henv
      refine tA (i := 15) [] (v := .bool false) rfl (by kernel_rfl) (fun _ _ _ h => h) henv rfl (fun _ => rn_pick henv rfl rfl) ?_
      clear henv a; intro a henv
      refine sAny_done (by kernel_rfl) ?_ _
      refine th_n ?_
      refine if_f henv rfl (rfl) ?_
      refine wp_skip ?_
      refine bl_n (th_n ?_)
      refine region_seq ?_
      revert a
      refine mA rfl rfl ?_
      refine sA (v := .int .i64 (j + 1 : Nat)) rfl (fun _ henv => rn_add henv rfl rfl (by rw [IntWalk.i64_in _ (by omega)]; omega)) ?_
      refine aA rfl rfl ?_
      intro a henv
      refine wpList_nil ?_
      exact th_n ⟨_, (by omega), ⟨j + 1, rfl, henv.sub ⟨rfl, rfl, rfl, rfl, trivial⟩, hst.pick [0] [0, 1] (by decide), (by omega), (all_snoc hno he1 (by omega))⟩⟩
    · exfalso; have q := of_decide_eq_false hc59; have := (List.getElem?_eq_some_iff.1 he1).1; omega
set_option maxRecDepth 100000 in
set_option maxHeartbeats 4000000 in
theorem r_check_code {i g : Int} {A0 A1 : Option Addr} {n0 c0 n1 c1 : Nat} {es0 : List IE} {es1 : List Int} {k : Nat} {ek : IE} {w0 : World} (h0 : (pfRow fJ FJ 5 A0 n0 c0 es0).P w0) (h1 : (pfRow fI FI 1 A1 n1 c1 es1).P w0) (hH : HeadOk i g n0 n1) (hO : ∀ x ∈ es1, 0 ≤ x ∧ x < g) (hke : es0[k]? = some ek) (hkn : ¬ May ek g) (hlow : ∀ j e, j < k → es0[j]? = some e → May e g) :
    Calls Tryd.prog 12 #[.agg #[.int .i64 i, .int .i64 g, .slice A0 n0 c0, .slice A1 n1 c1]] w0 fun e w' => e = .returned (.tuple #[.int .i64 (k : Nat), .bool true]) ∧ Below w0.heap.size w0 w' := by
  obtain ⟨hh1, hh2, hh3, hh4, hh5, hh6⟩ := hH
  refine enter Tryd.func12 rfl Tryd.ntmps12 rfl ?_
  intro a henv hst
  have hlen0 := h0.2.1
  have hbig0 := Nat.le_trans h0.1.cap h0.1.big
  unfold maxLen at hbig0
  have hlen1 := h1.2.1
  have hbig1 := Nat.le_trans h1.1.cap h1.1.big
  unfold maxLen at hbig1
  replace hst := (hst.argRow h1).argRow h0
  clear h0 h1
  refine wp_seq ?_
  refine region_seq ?_
  refine seq_step rfl (op_box (c := #[.int .i64 i, .int .i64 g, .slice A0 n0 c0, .slice A1 n1 c1]) henv hst rfl rfl rfl ?_)
  clear henv hst a; intro a w52 g51 henv hst
  revert a
  refine aA rfl rfl ?_
  refine aA rfl rfl ?_
  intro a henv
  refine wpList_nil ?_
  refine th_n ?_
  refine wp_seq ?_
  refine wp_seq ?_
  refine region_seq ?_
  revert a
  refine sA (v := .pointer (some ⟨g51, 0, none⟩)) rfl (fun _ henv => rn_fieldAddr henv fd_anvil_api_Prog_0 (ty_int.size) (by decide) rfl) ?_
  refine sA (v := .int .i64 i) rfl (fun _ henv => rn_load1 henv ty_int rfl (hst.oat (k := 0) rfl) rfl) ?_
  refine sA (v := .bool (decide (i < (1 : Int)))) rfl (fun _ henv => rn_bin henv rfl rfl rfl) ?_
  intro a henv
  rw [show (decide (i < (1 : Int))) = false from (decide_eq_false (by omega))] at henv
  revert a
  refine mA rfl rfl ?_
  refine gA (v := .pointer (some ⟨g51, 0, none⟩)) rfl rfl rfl rfl (fun _ henv => rn_fieldAddr henv fd_anvil_api_Prog_0 (ty_int.size) (by decide) rfl) ?_
  refine gA (v := .int .i64 i) rfl rfl rfl rfl (fun _ henv => rn_load1 henv ty_int rfl (hst.oat (k := 0) rfl) rfl) ?_
  refine gA (v := .pointer (some ⟨g51, 1, none⟩)) rfl rfl rfl rfl (fun _ henv => rn_fieldAddr henv fd_anvil_api_Prog_1 (ty_int.size) (by decide) rfl) ?_
  refine gA (v := .int .i64 g) rfl rfl rfl rfl (fun _ henv => rn_load1 henv ty_int rfl (hst.oat (k := 0) rfl) rfl) ?_
  refine gA (v := .bool (decide (i > g))) rfl rfl rfl rfl (fun _ henv => rn_bin henv rfl rfl rfl) ?_
  intro a henv
  rw [show (decide (i > g)) = false from (decide_eq_false (by omega))] at henv
  revert a
  refine sA (v := .bool false) rfl (fun _ henv => rn_pick henv rfl rfl) ?_
  refine mA rfl rfl ?_
  refine gA (v := .pointer (some ⟨g51, 1, none⟩)) rfl rfl rfl rfl (fun _ henv => rn_fieldAddr henv fd_anvil_api_Prog_1 (ty_int.size) (by decide) rfl) ?_
  refine gA (v := .int .i64 g) rfl rfl rfl rfl (fun _ henv => rn_load1 henv ty_int rfl (hst.oat (k := 0) rfl) rfl) ?_
  refine gA (v := .bool (decide (g > (128 : Int)))) rfl rfl rfl rfl (fun _ henv => rn_bin henv rfl rfl rfl) ?_
  intro a henv
  rw [show (decide (g > (128 : Int))) = false from (decide_eq_false (by omega))] at henv
  revert a
  refine sA (v := .bool false) rfl (fun _ henv => rn_pick henv rfl rfl) ?_
  refine mA rfl rfl ?_
  refine gA (v := .pointer (some ⟨g51, 2, none⟩)) rfl rfl rfl rfl (fun _ henv => rn_fieldAddr henv fd_anvil_api_Prog_2 (ty__api_Instr.size) (by decide) rfl) ?_
  refine gA (v := .slice A0 n0 c0) rfl rfl rfl rfl (fun _ henv => rn_load1 henv ty__api_Instr rfl (hst.oat (k := 0) rfl) rfl) ?_
  refine gA (v := .int .i64 (n0 : Nat)) rfl rfl rfl rfl (fun _ henv => rn_len henv Tryd.underlying22 rfl) ?_
  refine gA (v := .bool (decide (((n0 : Nat) : Int) > (16384 : Int)))) rfl rfl rfl rfl (fun _ henv => rn_bin henv rfl rfl rfl) ?_
  intro a henv
  rw [show (decide (((n0 : Nat) : Int) > (16384 : Int))) = false from (decide_eq_false (by omega))] at henv
  revert a
  refine sA (v := .bool false) rfl (fun _ henv => rn_pick henv rfl rfl) ?_
  refine mA rfl rfl ?_
  refine gA (v := .pointer (some ⟨g51, 3, none⟩)) rfl rfl rfl rfl (fun _ henv => rn_fieldAddr henv fd_anvil_api_Prog_3 (ty__int.size) (by decide) rfl) ?_
  refine gA (v := .slice A1 n1 c1) rfl rfl rfl rfl (fun _ henv => rn_load1 henv ty__int rfl (hst.oat (k := 0) rfl) rfl) ?_
  refine gA (v := .int .i64 (n1 : Nat)) rfl rfl rfl rfl (fun _ henv => rn_len henv Tryd.underlying23 rfl) ?_
  refine gA (v := .bool (decide (((n1 : Nat) : Int) < (1 : Int)))) rfl rfl rfl rfl (fun _ henv => rn_bin henv rfl rfl rfl) ?_
  intro a henv
  rw [show (decide (((n1 : Nat) : Int) < (1 : Int))) = false from (decide_eq_false (by omega))] at henv
  revert a
  refine sA (v := .bool false) rfl (fun _ henv => rn_pick henv rfl rfl) ?_
  refine mA rfl rfl ?_
  refine gA (v := .pointer (some ⟨g51, 3, none⟩)) rfl rfl rfl rfl (fun _ henv => rn_fieldAddr henv fd_anvil_api_Prog_3 (ty__int.size) (by decide) rfl) ?_
  refine gA (v := .slice A1 n1 c1) rfl rfl rfl rfl (fun _ henv => rn_load1 henv ty__int rfl (hst.oat (k := 0) rfl) rfl) ?_
  refine gA (v := .int .i64 (n1 : Nat)) rfl rfl rfl rfl (fun _ henv => rn_len henv Tryd.underlying23 rfl) ?_
  refine gA (v := .bool (decide (((n1 : Nat) : Int) > (128 : Int)))) rfl rfl rfl rfl (fun _ henv => rn_bin henv rfl rfl rfl) ?_
  intro a henv
  rw [show (decide (((n1 : Nat) : Int) > (128 : Int))) = false from (decide_eq_false (by omega))] at henv
  refine sv (v := .bool false) henv rfl (rn_pick henv rfl rfl) ?_
  clear henv a; intro a henv
  refine wpList_nil ?_
  refine th_n ?_
  refine if_f henv rfl (rfl) ?_
  refine wp_skip ?_
  refine th_n ?_
  refine wp_seq ?_
  refine wp_seq ?_
  refine region_seq ?_
  refine sv (v := .int .i64 0) henv rfl (rn_assign henv rfl) ?_
  clear henv a; intro a henv
  refine wpList_nil ?_
  refine th_n ?_
  refine wp_block ?_
  refine wp_loop_ghost (fun mz a w => ∃ j : Nat, n1 - j = mz ∧ Env 79 a [(1, .pointer (some ⟨g51, 0, none⟩)), (2, .int .i64 0), (3, .bool false), (4, .int .i64 (j : Nat))] ∧ St w0 w [bk g51 #[.int .i64 i, .int .i64 g, .slice A0 n0 c0, .slice A1 n1 c1] 25] [pfRow fJ FJ 5 A0 n0 c0 es0, pfRow fI FI 1 A1 n1 c1 es1] ∧ j ≤ n1) _ ⟨0, rfl, henv.sub ⟨rfl, rfl, rfl, rfl, trivial⟩, hst.pick [0] [0, 1] (by decide), (Nat.zero_le _)⟩ ?_
  clear henv hst a
  rintro mz a w53 ⟨j, rfl, henv, hst, hj⟩
  refine wp_seq ?_
  refine wp_seq ?_
  refine region_seq ?_
  revert a
  refine mA rfl rfl ?_
  refine sA (v := .pointer (some ⟨g51, 3, none⟩)) rfl (fun _ henv => rn_fieldAddr henv fd_anvil_api_Prog_3 (ty__int.size) (by decide) rfl) ?_
  refine sA (v := .slice A1 n1 c1) rfl (fun _ henv => rn_load1 henv ty__int rfl (hst.oat (k := 0) rfl) rfl) ?_
  refine sA (v := .int .i64 (n1 : Nat)) rfl (fun _ henv => rn_len henv Tryd.underlying23 rfl) ?_
  refine sA (v := .bool (decide (((j : Nat) : Int) < ((n1 : Nat) : Int)))) rfl (fun _ henv => rn_bin henv rfl rfl rfl) ?_
  intro a henv
  refine wpList_nil ?_
  refine th_n ?_
  refine if_split henv rfl (fun hc54 => ?_) (fun hc54 => ?_)
  · have hlt : j < n1 := by have := of_decide_eq_true hc54; omega
    obtain ⟨x, he1⟩ : ∃ x, es1[j]? = some x := ⟨_, List.getElem?_eq_getElem (by omega)⟩
    have hxo := hO x (List.mem_of_getElem? he1)
    refine wp_skip ?_
    refine th_n ?_
    refine wp_seq ?_
    refine wp_block ?_
    refine wp_seq ?_
    refine region_any (n := 16) (Sk [bk g51 #[.int .i64 i, .int .i64 g, .slice A0 n0 c0, .slice A1 n1 c1] 25] [pfRow fJ FJ 5 A0 n0 c0 es0, pfRow fI FI 1 A1 n1 c1 es1] [] []) mixed rfl henv hst ?_
    clear henv hst; intro w55 henv hst
    refine tA (i := 0) [1, 3, 4, 5, 6, 7, 8, 9, 10, 11, 12, 13, 14, 15] (v := .pointer (some ⟨g51, 3, none⟩)) rfl (by kernel_rfl) (fun _ _ _ h => h) henv rfl (fun _ => rn_fieldAddr henv fd_anvil_api_Prog_3 (ty__int.size) (by decide) rfl) ?_
    clear henv a; intro a henv
    refine sAny_take (i := 1) [3, 4, 5, 6, 7, 8, 9, 10, 11, 12, 13, 14, 15] (fun w' => w'.heap[g51]? = some (.cells #[.int .i64 i, .int .i64 g, .slice A0 n0 c0, .slice A1 n1 c1] 25 (0, 0))) (v := .slice A1 n1 c1) rfl (by kernel_rfl) (fun _ _ _ h => h) (fun _ _ _ hS => hS.1.oat (k := 0) rfl) henv rfl (hst.oat (k := 0) rfl) (fun w' hg => rn_load1 henv ty__int rfl hg rfl) ?_
    clear henv a; intro a henv
    refine tM (i := 2) (rg 3 13) rfl (by kernel_rfl) (fun _ _ _ h => h) henv rfl rfl ?_
    clear henv a; intro a henv
    refine sAny_take (i := 3) [4, 5, 6, 7, 8, 9, 10, 11, 12, 13, 14, 15] (fun w' => (pfRow fI FI 1 A1 n1 c1 es1).P w') (v := .pointer (some ⟨ab A1, ao A1 + j * 1, none⟩)) rfl (by kernel_rfl) (fun _ _ _ h => h) (fun _ _ _ hS => hS.1.pat (k := 1) rfl) henv rfl (hst.pat (k := 1) rfl) (fun w' hg => rn_idxR (i := j) henv Tryd.underlying23 (ty_int.size) rfl rfl (by omega) rfl (show (pfRow fI FI 1 A1 n1 c1 es1).P _ from hg).1) ?_
    clear henv a; intro a henv
    refine sAny_take (i := 4) [5, 6, 7, 8, 9, 10, 11, 12, 13, 14, 15] (fun w' => (pfRow fI FI 1 A1 n1 c1 es1).P w') (v := .int .i64 x) rfl (by kernel_rfl) (fun _ _ _ h => h) (fun _ _ _ hS => hS.1.pat (k := 1) rfl) henv rfl (hst.pat (k := 1) rfl) (fun w' hg => rn_loadE1 (i := j) (j := 0) (e := x) henv ty_int rfl rfl fI_len (by decide) (show (pfRow fI FI 1 A1 n1 c1 es1).P _ from hg).1 (by omega) he1 rfl) ?_
    clear henv a; intro a henv
    refine tA (i := 5) (rg 6 10) (v := .bool (decide (x < (0 : Int)))) rfl (by kernel_rfl) (fun _ _ _ h => h) henv rfl (fun _ => rn_bin henv rfl rfl rfl) ?_
    clear henv a; intro a henv
    rw [show (decide (x < (0 : Int))) = false from (decide_eq_false (by omega))] at henv
    refine tM (i := 6) (rg 7 9) rfl (by kernel_rfl) (fun _ _ _ h => h) henv rfl rfl ?_
    clear henv a; intro a henv
    refine tAg (i := 7) [8, 10, 11, 14, 15] (v := .pointer (some ⟨g51, 3, none⟩)) rfl (by kernel_rfl) (fun _ _ _ h => h) henv rfl rfl rfl rfl (fun _ => rn_fieldAddr henv fd_anvil_api_Prog_3 (ty__int.size) (by decide) rfl) ?_
    clear henv a; intro a henv
    refine sAny_takeg (i := 8) [10, 11, 14, 15] (fun w' => w'.heap[g51]? = some (.cells #[.int .i64 i, .int .i64 g, .slice A0 n0 c0, .slice A1 n1 c1] 25 (0, 0))) (v := .slice A1 n1 c1) rfl (by kernel_rfl) (fun _ _ _ h => h) (fun _ _ _ hS => hS.1.oat (k := 0) rfl) henv rfl rfl rfl rfl (hst.oat (k := 0) rfl) (fun w' hg => rn_load1 henv ty__int rfl hg rfl) ?_
    clear henv a; intro a henv
    refine tAg (i := 9) [10, 11, 14, 15] (v := .int .i64 (j : Nat)) rfl (by kernel_rfl) (fun _ _ _ h => h) henv rfl rfl rfl rfl (fun _ => rn_move henv rfl) ?_
    clear henv a; intro a henv
    refine sAny_takeg (i := 10) [11, 14, 15] (fun w' => (pfRow fI FI 1 A1 n1 c1 es1).P w') (v := .pointer (some ⟨ab A1, ao A1 + j * 1, none⟩)) rfl (by kernel_rfl) (fun _ _ _ h => h) (fun _ _ _ hS => hS.1.pat (k := 1) rfl) henv rfl rfl rfl rfl (hst.pat (k := 1) rfl) (fun w' hg => rn_idxR (i := j) henv Tryd.underlying23 (ty_int.size) rfl rfl (by omega) rfl (show (pfRow fI FI 1 A1 n1 c1 es1).P _ from hg).1) ?_
    clear henv a; intro a henv
    refine sAny_takeg (i := 11) [14, 15] (fun w' => (pfRow fI FI 1 A1 n1 c1 es1).P w') (v := .int .i64 x) rfl (by kernel_rfl) (fun _ _ _ h => h) (fun _ _ _ hS => hS.1.pat (k := 1) rfl) henv rfl rfl rfl rfl (hst.pat (k := 1) rfl) (fun w' hg => rn_loadE1 (i := j) (j := 0) (e := x) henv ty_int rfl rfl fI_len (by decide) (show (pfRow fI FI 1 A1 n1 c1 es1).P _ from hg).1 (by omega) he1 rfl) ?_
    clear henv a; intro a henv
    refine tAg (i := 12) [13, 14, 15] (v := .pointer (some ⟨g51, 1, none⟩)) rfl (by kernel_rfl) (fun _ _ _ h => h) henv rfl rfl rfl rfl (fun _ => rn_fieldAddr henv fd_anvil_api_Prog_1 (ty_int.size) (by decide) rfl) ?_
    clear henv a; intro a henv
    refine sAny_takeg (i := 13) [14, 15] (fun w' => w'.heap[g51]? = some (.cells #[.int .i64 i, .int .i64 g, .slice A0 n0 c0, .slice A1 n1 c1] 25 (0, 0))) (v := .int .i64 g) rfl (by kernel_rfl) (fun _ _ _ h => h) (fun _ _ _ hS => hS.1.oat (k := 0) rfl) henv rfl rfl rfl rfl (hst.oat (k := 0) rfl) (fun w' hg => rn_load1 henv ty_int rfl hg rfl) ?_
    clear henv a; intro a henv
    refine tAg (i := 14) [15] (v := .bool (decide (x ≥ g))) rfl (by kernel_rfl) (fun _ _ _ h => h) henv rfl rfl rfl rfl (fun _ => rn_bin henv rfl rfl rfl) ?_
    clear henv a; intro a henv
    rw [show (decide (x ≥ g)) = false from (decide_eq_false (by omega))] at henv
    refine tA (i := 15) [] (v := .bool false) rfl (by kernel_rfl) (fun _ _ _ h => h) henv rfl (fun _ => rn_pick henv rfl rfl) ?_
    clear henv a; intro a henv
    refine sAny_done (by kernel_rfl) ?_ _
    refine th_n ?_
    refine if_f henv rfl (rfl) ?_
    refine wp_skip ?_
    refine bl_n (th_n ?_)
    refine region_seq ?_
    revert a
    refine mA rfl rfl ?_
    refine sA (v := .int .i64 (j + 1 : Nat)) rfl (fun _ henv => rn_add henv rfl rfl (by rw [IntWalk.i64_in _ (by omega)]; omega)) ?_
    refine aA rfl rfl ?_
    intro a henv
    refine wpList_nil ?_
    exact th_n ⟨_, (by omega), ⟨j + 1, rfl, henv.sub ⟨rfl, rfl, rfl, rfl, trivial⟩, hst.pick [0] [0, 1] (by decide), (by omega)⟩⟩
  · have hje : j = n1 := by have := of_decide_eq_false hc54; omega
    refine wp_exit ?_
    refine th_x (th_x (bl_x (th_n ?_)))
    refine wp_seq ?_
    refine wp_seq ?_
    refine region_seq ?_
    refine sv (v := .int .i64 0) henv rfl (rn_assign henv rfl) ?_
    clear henv a; intro a henv
    refine wpList_nil ?_
    refine th_n ?_
    refine wp_block ?_
    refine wp_loop_ghost (fun mz a w => ∃ j : Nat, n0 - j = mz ∧ Env 79 a [(1, .pointer (some ⟨g51, 0, none⟩)), (2, .int .i64 0), (3, .bool false), (5, .int .i64 (j : Nat))] ∧ St w0 w [bk g51 #[.int .i64 i, .int .i64 g, .slice A0 n0 c0, .slice A1 n1 c1] 25] [pfRow fJ FJ 5 A0 n0 c0 es0, pfRow fI FI 1 A1 n1 c1 es1] ∧ j ≤ n0 ∧ j ≤ k) _ ⟨0, rfl, henv.sub ⟨rfl, rfl, rfl, rfl, trivial⟩, hst.pick [0] [0, 1] (by decide), (Nat.zero_le _), (Nat.zero_le _)⟩ ?_
    clear henv hst a
    rintro mz a w56 ⟨j, rfl, henv, hst, hj, hjk⟩
    refine wp_seq ?_
    refine wp_seq ?_
    refine region_seq ?_
    revert a
    refine mA rfl rfl ?_
    refine sA (v := .pointer (some ⟨g51, 2, none⟩)) rfl (fun _ henv => rn_fieldAddr henv fd_anvil_api_Prog_2 (ty__api_Instr.size) (by decide) rfl) ?_
    refine sA (v := .slice A0 n0 c0) rfl (fun _ henv => rn_load1 henv ty__api_Instr rfl (hst.oat (k := 0) rfl) rfl) ?_
    refine sA (v := .int .i64 (n0 : Nat)) rfl (fun _ henv => rn_len henv Tryd.underlying22 rfl) ?_
    refine sA (v := .bool (decide (((j : Nat) : Int) < ((n0 : Nat) : Int)))) rfl (fun _ henv => rn_bin henv rfl rfl rfl) ?_
    intro a henv
    refine wpList_nil ?_
    refine th_n ?_
    refine if_split henv rfl (fun hc57 => ?_) (fun hc57 => ?_)
    · have hlt : j < n0 := by have := of_decide_eq_true hc57; omega
      obtain ⟨⟨op, tr, ra, rb, cn⟩, he0⟩ : ∃ e, es0[j]? = some e := ⟨_, List.getElem?_eq_getElem (by omega)⟩
      refine wp_skip ?_
      refine th_n ?_
      refine wp_seq ?_
      refine wp_block ?_
      refine wp_seq ?_
      refine region_any (n := 9) (Sk [bk g51 #[.int .i64 i, .int .i64 g, .slice A0 n0 c0, .slice A1 n1 c1] 25] [pfRow fJ FJ 5 A0 n0 c0 es0, pfRow fI FI 1 A1 n1 c1 es1] [] []) mixed rfl henv hst ?_
      clear henv hst; intro w58 henv hst
      refine tA (i := 0) [1, 3, 4, 7, 8] (v := .pointer (some ⟨g51, 2, none⟩)) rfl (by kernel_rfl) (fun _ _ _ h => h) henv rfl (fun _ => rn_fieldAddr henv fd_anvil_api_Prog_2 (ty__api_Instr.size) (by decide) rfl) ?_
      clear henv a; intro a henv
      refine sAny_take (i := 1) [3, 4, 7, 8] (fun w' => w'.heap[g51]? = some (.cells #[.int .i64 i, .int .i64 g, .slice A0 n0 c0, .slice A1 n1 c1] 25 (0, 0))) (v := .slice A0 n0 c0) rfl (by kernel_rfl) (fun _ _ _ h => h) (fun _ _ _ hS => hS.1.oat (k := 0) rfl) henv rfl (hst.oat (k := 0) rfl) (fun w' hg => rn_load1 henv ty__api_Instr rfl hg rfl) ?_
      clear henv a; intro a henv
      refine tM (i := 2) [3, 4, 7, 8] rfl (by kernel_rfl) (fun _ _ _ h => h) henv rfl rfl ?_
      clear henv a; intro a henv
      refine sAny_take (i := 3) [4, 7, 8] (fun w' => (pfRow fJ FJ 5 A0 n0 c0 es0).P w') (v := .pointer (some ⟨ab A0, ao A0 + j * 5, none⟩)) rfl (by kernel_rfl) (fun _ _ _ h => h) (fun _ _ _ hS => hS.1.pat (k := 0) rfl) henv rfl (hst.pat (k := 0) rfl) (fun w' hg => rn_idxR (i := j) henv Tryd.underlying22 (ty_anvil_api_Instr.size) rfl rfl (by omega) rfl (show (pfRow fJ FJ 5 A0 n0 c0 es0).P _ from hg).1) ?_
      clear henv a; intro a henv
      refine sAny_take (i := 4) [7, 8] (fun w' => (pfRow fJ FJ 5 A0 n0 c0 es0).P w') (v := .agg #[.int .i64 op, .int .i64 tr, .int .i64 ra, .int .i64 rb, .int .i64 cn]) rfl (by kernel_rfl) (fun _ _ _ h => h) (fun _ _ _ hS => hS.1.pat (k := 0) rfl) henv rfl (hst.pat (k := 0) rfl) (fun w' hg => rn_loadE (i := j) (e := (op, tr, ra, rb, cn)) henv ty_anvil_api_Instr rfl rfl fJ_len (show (pfRow fJ FJ 5 A0 n0 c0 es0).P _ from hg).1 (by omega) he0 rfl) ?_
      clear henv a; intro a henv
      refine tA (i := 5) [6, 7, 8] (v := .pointer (some ⟨g51, 1, none⟩)) rfl (by kernel_rfl) (fun _ _ _ h => h) henv rfl (fun _ => rn_fieldAddr henv fd_anvil_api_Prog_1 (ty_int.size) (by decide) rfl) ?_
      clear henv a; intro a henv
      refine sAny_take (i := 6) [7, 8] (fun w' => w'.heap[g51]? = some (.cells #[.int .i64 i, .int .i64 g, .slice A0 n0 c0, .slice A1 n1 c1] 25 (0, 0))) (v := .int .i64 g) rfl (by kernel_rfl) (fun _ _ _ h => h) (fun _ _ _ hS => hS.1.oat (k := 0) rfl) henv rfl (hst.oat (k := 0) rfl) (fun w' hg => rn_load1 henv ty_int rfl hg rfl) ?_
      clear henv a; intro a henv
      refine sAny_one (i := 7) (by kernel_rfl) rfl rfl (op_call henv rfl Tryd.call35 rfl (r_may (op := op) (tr := tr) (ra := ra) (rb := rb) (cn := cn) (g := g)) ?_)
      rintro e w59 ⟨rfl, hb⟩
      refine ⟨_, rfl, ?_⟩
      clear henv a; intro a henv
      replace hst := hst.call hb
      clear hb
      refine ⟨.inr ⟨hst.kn.pick [0] [0, 1], .inr (hst.kn.pick [] [])⟩, ?_⟩
      refine tA (i := 8) [] (v := .bool (!(decide (May (op, tr, ra, rb, cn) g)))) rfl (by kernel_rfl) (fun _ _ _ h => h) henv rfl (fun _ => rn_un henv rfl rfl) ?_
      clear henv a; intro a henv
      refine sAny_done (by kernel_rfl) ?_ _
      refine th_n ?_
      refine if_split henv rfl (fun hc60 => ?_) (fun hc60 => ?_)
      · have hmay : ¬ May (op, tr, ra, rb, cn) g := of_decide_eq_false (bnot_t hc60)
        have hjk2 : j = k := by
          rcases Nat.lt_or_ge j k with q | q
          · exact absurd (hlow j _ q he0) hmay
          · omega
        refine wp_seq ?_
        refine region_seq ?_
        revert a
        refine mA rfl rfl ?_
        refine aA rfl rfl ?_
        refine aA rfl rfl ?_
        intro a henv
        refine wpList_nil ?_
        refine th_n ?_
        refine wp_ret ?_
        refine bl_r (th_r (th_r (bl_r (th_r ?_))))
        refine leave henv (res2 Tryd.results12 (RV.tmp henv rfl) (RV.tmp henv rfl)) ?_
        subst hjk2
        exact ⟨rfl, hst.below⟩
      · have hmay : May (op, tr, ra, rb, cn) g := of_decide_eq_true (bnot_f hc60)
        refine wp_skip ?_
        refine bl_n (th_n ?_)
        refine region_seq ?_
        revert a
        refine mA rfl rfl ?_
        refine sA (v := .int .i64 (j + 1 : Nat)) rfl (fun _ henv => rn_add henv rfl rfl (by rw [IntWalk.i64_in _ (by omega)]; omega)) ?_
        refine aA rfl rfl ?_
        intro a henv
        refine wpList_nil ?_
        exact th_n ⟨_, (by omega), ⟨j + 1, rfl, henv.sub ⟨rfl, rfl, rfl, rfl, trivial⟩, hst.pick [0] [0, 1] (by decide), (by omega), (Nat.lt_of_le_of_ne hjk fun hh => hkn (by subst hh; rw [he0] at hke; exact Option.some.inj hke ▸ hmay))⟩⟩
    · have hje : j = n0 := by have := of_decide_eq_false hc57; omega
      exfalso
      have := (List.getElem?_eq_some_iff.1 hke).1
      omega
theorem g_check_ok_ {i g : Int} {A0 A1 : Option Addr} {n0 c0 n1 c1 : Nat} {es0 : List IE} {es1 : List Int} {w0 : World} (h0 : (pfRow fJ FJ 5 A0 n0 c0 es0).P w0) (h1 : (pfRow fI FI 1 A1 n1 c1 es1).P w0) (hR : Right i g n0 n1 es0 es1) :
    Calls Tryd.prog 11 #[.agg #[.int .i64 i, .int .i64 g, .slice A0 n0 c0, .slice A1 n1 c1]] w0 fun e w' => e = .returned (.tuple #[.int .i64 0, .int .i64 0]) ∧ Below w0.heap.size w0 w' := g_check_ok h0 h1 hR.1 hR.2.1 hR.2.2
theorem g_check_bad {i g : Int} {A0 A1 : Option Addr} {n0 c0 n1 c1 : Nat} {es0 : List IE} {es1 : List Int} {k : Int} {w0 : World} (h0 : (pfRow fJ FJ 5 A0 n0 c0 es0).P w0) (h1 : (pfRow fI FI 1 A1 n1 c1 es1).P w0) (hR : Wrong i g n0 n1 es0 es1 k) :
    Calls Tryd.prog 11 #[.agg #[.int .i64 i, .int .i64 g, .slice A0 n0 c0, .slice A1 n1 c1]] w0 fun e w' => e = .returned (.tuple #[.int .i64 k, .int .i64 80]) ∧ Below w0.heap.size w0 w' := by
  rcases hR with ⟨rfl, hH⟩ | ⟨rfl, hH, hO⟩ | ⟨q, ek, rfl, hH, hO, hke, hkn, hlow⟩
  · exact g_check_head h0 h1 hH
  · exact g_check_outs h0 h1 hH hO
  · exact g_check_code h0 h1 hH hO hke hkn hlow
theorem r_check_ok_ {i g : Int} {A0 A1 : Option Addr} {n0 c0 n1 c1 : Nat} {es0 : List IE} {es1 : List Int} {w0 : World} (h0 : (pfRow fJ FJ 5 A0 n0 c0 es0).P w0) (h1 : (pfRow fI FI 1 A1 n1 c1 es1).P w0) (hR : Right i g n0 n1 es0 es1) :
    Calls Tryd.prog 12 #[.agg #[.int .i64 i, .int .i64 g, .slice A0 n0 c0, .slice A1 n1 c1]] w0 fun e w' => e = .returned (.tuple #[.int .i64 0, .bool false]) ∧ Below w0.heap.size w0 w' := r_check_ok h0 h1 hR.1 hR.2.1 hR.2.2
theorem r_check_bad {i g : Int} {A0 A1 : Option Addr} {n0 c0 n1 c1 : Nat} {es0 : List IE} {es1 : List Int} {k : Int} {w0 : World} (h0 : (pfRow fJ FJ 5 A0 n0 c0 es0).P w0) (h1 : (pfRow fI FI 1 A1 n1 c1 es1).P w0) (hR : Wrong i g n0 n1 es0 es1 k) :
    Calls Tryd.prog 12 #[.agg #[.int .i64 i, .int .i64 g, .slice A0 n0 c0, .slice A1 n1 c1]] w0 fun e w' => e = .returned (.tuple #[.int .i64 k, .bool true]) ∧ Below w0.heap.size w0 w' := by
  rcases hR with ⟨rfl, hH⟩ | ⟨rfl, hH, hO⟩ | ⟨q, ek, rfl, hH, hO, hke, hkn, hlow⟩
  · exact r_check_head h0 h1 hH
  · exact r_check_outs h0 h1 hH hO
  · exact r_check_code h0 h1 hH hO hke hkn hlow
set_option maxRecDepth 100000 in
set_option maxHeartbeats 2000000 in
theorem g_right_ok {i g : Int} {A0 A1 : Option Addr} {n0 c0 n1 c1 : Nat} {es0 : List IE} {es1 : List Int} {w0 : World} (h0 : (pfRow fJ FJ 5 A0 n0 c0 es0).P w0) (h1 : (pfRow fI FI 1 A1 n1 c1 es1).P w0) (hR : Right i g n0 n1 es0 es1) :
    Calls Tryd.prog 37 #[.agg #[.int .i64 i, .int .i64 g, .slice A0 n0 c0, .slice A1 n1 c1]] w0 fun e w' => e = .returned (.bool true) ∧ Below w0.heap.size w0 w' := by
  refine enter Tryd.func37 rfl Tryd.ntmps37 rfl ?_
  intro a henv hst
  have hlen0 := h0.2.1
  have hbig0 := Nat.le_trans h0.1.cap h0.1.big
  unfold maxLen at hbig0
  have hlen1 := h1.2.1
  have hbig1 := Nat.le_trans h1.1.cap h1.1.big
  unfold maxLen at hbig1
  replace hst := (hst.argRow h1).argRow h0
  clear h0 h1
  refine wp_seq ?_
  refine region_seq ?_
  refine seq_step rfl (op_box (c := #[.int .i64 i, .int .i64 g, .slice A0 n0 c0, .slice A1 n1 c1]) henv hst rfl rfl rfl ?_)
  clear henv hst a; intro a w52 g51 henv hst
  refine sv (v := .bool false) henv rfl (rn_assign henv rfl) ?_
  clear henv a; intro a henv
  refine wpList_nil ?_
  refine th_n ?_
  refine wp_seq ?_
  refine region_seq ?_
  refine sv (v := .agg #[.int .i64 i, .int .i64 g, .slice A0 n0 c0, .slice A1 n1 c1]) henv rfl (rn_load0 henv ty_anvil_api_Prog rfl (hst.oat (k := 0) rfl) rfl) ?_
  clear henv a; intro a henv
  refine seq_step rfl (op_call henv rfl Tryd.call11 rfl (g_check_ok_ (hst.pat (k := 0) rfl) (hst.pat (k := 1) rfl) hR) ?_)
  rintro e w53 ⟨rfl, hb⟩
  refine ⟨_, rfl, ?_⟩
  clear henv a; intro a henv
  replace hst := hst.call hb
  clear hb
  revert a
  refine mA rfl rfl ?_
  refine sA (v := .int .i64 0) rfl (fun _ henv => rn_extract henv rfl rfl) ?_
  refine sA (v := .int .i64 0) rfl (fun _ henv => rn_extract henv rfl rfl) ?_
  refine aA rfl rfl ?_
  refine aA rfl rfl ?_
  intro a henv
  refine wpList_nil ?_
  refine th_n ?_
  refine wp_seq ?_
  refine region_seq ?_
  revert a
  refine mA rfl rfl ?_
  refine sA (v := .bool true) rfl (fun _ henv => rn_bin henv rfl rfl rfl) ?_
  refine aA rfl rfl ?_
  intro a henv
  refine wpList_nil ?_
  refine th_n ?_
  refine wp_ret ?_
  refine leave henv (res1 Tryd.results37 (RV.tmp henv rfl)) ?_
  exact ⟨rfl, hst.below⟩
set_option maxRecDepth 100000 in
set_option maxHeartbeats 2000000 in
theorem g_right_bad {i g : Int} {A0 A1 : Option Addr} {n0 c0 n1 c1 : Nat} {es0 : List IE} {es1 : List Int} {k : Int} {w0 : World} (h0 : (pfRow fJ FJ 5 A0 n0 c0 es0).P w0) (h1 : (pfRow fI FI 1 A1 n1 c1 es1).P w0) (hR : Wrong i g n0 n1 es0 es1 k) :
    Calls Tryd.prog 37 #[.agg #[.int .i64 i, .int .i64 g, .slice A0 n0 c0, .slice A1 n1 c1]] w0 fun e w' => e = .returned (.bool false) ∧ Below w0.heap.size w0 w' := by
  refine enter Tryd.func37 rfl Tryd.ntmps37 rfl ?_
  intro a henv hst
  have hlen0 := h0.2.1
  have hbig0 := Nat.le_trans h0.1.cap h0.1.big
  unfold maxLen at hbig0
  have hlen1 := h1.2.1
  have hbig1 := Nat.le_trans h1.1.cap h1.1.big
  unfold maxLen at hbig1
  replace hst := (hst.argRow h1).argRow h0
  clear h0 h1
  refine wp_seq ?_
  refine region_seq ?_
  refine seq_step rfl (op_box (c := #[.int .i64 i, .int .i64 g, .slice A0 n0 c0, .slice A1 n1 c1]) henv hst rfl rfl rfl ?_)
  clear henv hst a; intro a w52 g51 henv hst
  refine sv (v := .bool false) henv rfl (rn_assign henv rfl) ?_
  clear henv a; intro a henv
  refine wpList_nil ?_
  refine th_n ?_
  refine wp_seq ?_
  refine region_seq ?_
  refine sv (v := .agg #[.int .i64 i, .int .i64 g, .slice A0 n0 c0, .slice A1 n1 c1]) henv rfl (rn_load0 henv ty_anvil_api_Prog rfl (hst.oat (k := 0) rfl) rfl) ?_
  clear henv a; intro a henv
  refine seq_step rfl (op_call henv rfl Tryd.call11 rfl (g_check_bad (hst.pat (k := 0) rfl) (hst.pat (k := 1) rfl) hR) ?_)
  rintro e w53 ⟨rfl, hb⟩
  refine ⟨_, rfl, ?_⟩
  clear henv a; intro a henv
  replace hst := hst.call hb
  clear hb
  revert a
  refine mA rfl rfl ?_
  refine sA (v := .int .i64 k) rfl (fun _ henv => rn_extract henv rfl rfl) ?_
  refine sA (v := .int .i64 80) rfl (fun _ henv => rn_extract henv rfl rfl) ?_
  refine aA rfl rfl ?_
  refine aA rfl rfl ?_
  intro a henv
  refine wpList_nil ?_
  refine th_n ?_
  refine wp_seq ?_
  refine region_seq ?_
  revert a
  refine mA rfl rfl ?_
  refine sA (v := .bool false) rfl (fun _ henv => rn_bin henv rfl rfl rfl) ?_
  refine aA rfl rfl ?_
  intro a henv
  refine wpList_nil ?_
  refine th_n ?_
  refine wp_ret ?_
  refine leave henv (res1 Tryd.results37 (RV.tmp henv rfl)) ?_
  exact ⟨rfl, hst.below⟩
set_option maxRecDepth 100000 in
set_option maxHeartbeats 2000000 in
theorem r_right_ok {i g : Int} {A0 A1 : Option Addr} {n0 c0 n1 c1 : Nat} {es0 : List IE} {es1 : List Int} {w0 : World} (h0 : (pfRow fJ FJ 5 A0 n0 c0 es0).P w0) (h1 : (pfRow fI FI 1 A1 n1 c1 es1).P w0) (hR : Right i g n0 n1 es0 es1) :
    Calls Tryd.prog 15 #[.agg #[.int .i64 i, .int .i64 g, .slice A0 n0 c0, .slice A1 n1 c1]] w0 fun e w' => e = .returned (.bool true) ∧ Below w0.heap.size w0 w' := by
  refine enter Tryd.func15 rfl Tryd.ntmps15 rfl ?_
  intro a henv hst
  have hlen0 := h0.2.1
  have hbig0 := Nat.le_trans h0.1.cap h0.1.big
  unfold maxLen at hbig0
  have hlen1 := h1.2.1
  have hbig1 := Nat.le_trans h1.1.cap h1.1.big
  unfold maxLen at hbig1
  replace hst := (hst.argRow h1).argRow h0
  clear h0 h1
  refine wp_seq ?_
  refine region_seq ?_
  refine seq_step rfl (op_box (c := #[.int .i64 i, .int .i64 g, .slice A0 n0 c0, .slice A1 n1 c1]) henv hst rfl rfl rfl ?_)
  clear henv hst a; intro a w52 g51 henv hst
  refine sv (v := .bool false) henv rfl (rn_assign henv rfl) ?_
  clear henv a; intro a henv
  refine wpList_nil ?_
  refine th_n ?_
  refine wp_seq ?_
  refine region_seq ?_
  refine sv (v := .agg #[.int .i64 i, .int .i64 g, .slice A0 n0 c0, .slice A1 n1 c1]) henv rfl (rn_load0 henv ty_anvil_api_Prog rfl (hst.oat (k := 0) rfl) rfl) ?_
  clear henv a; intro a henv
  refine seq_step rfl (op_call henv rfl Tryd.call12 rfl (r_check_ok_ (hst.pat (k := 0) rfl) (hst.pat (k := 1) rfl) hR) ?_)
  rintro e w53 ⟨rfl, hb⟩
  refine ⟨_, rfl, ?_⟩
  clear henv a; intro a henv
  replace hst := hst.call hb
  clear hb
  revert a
  refine mA rfl rfl ?_
  refine sA (v := .int .i64 0) rfl (fun _ henv => rn_extract henv rfl rfl) ?_
  refine sA (v := .bool false) rfl (fun _ henv => rn_extract henv rfl rfl) ?_
  refine aA rfl rfl ?_
  refine aA rfl rfl ?_
  intro a henv
  refine wpList_nil ?_
  refine th_n ?_
  refine wp_seq ?_
  refine region_seq ?_
  revert a
  refine mA rfl rfl ?_
  refine sA (v := .bool true) rfl (fun _ henv => rn_un henv rfl rfl) ?_
  refine aA rfl rfl ?_
  intro a henv
  refine wpList_nil ?_
  refine th_n ?_
  refine wp_ret ?_
  refine leave henv (res1 Tryd.results15 (RV.tmp henv rfl)) ?_
  exact ⟨rfl, hst.below⟩
set_option maxRecDepth 100000 in
set_option maxHeartbeats 2000000 in
theorem r_right_bad {i g : Int} {A0 A1 : Option Addr} {n0 c0 n1 c1 : Nat} {es0 : List IE} {es1 : List Int} {k : Int} {w0 : World} (h0 : (pfRow fJ FJ 5 A0 n0 c0 es0).P w0) (h1 : (pfRow fI FI 1 A1 n1 c1 es1).P w0) (hR : Wrong i g n0 n1 es0 es1 k) :
    Calls Tryd.prog 15 #[.agg #[.int .i64 i, .int .i64 g, .slice A0 n0 c0, .slice A1 n1 c1]] w0 fun e w' => e = .returned (.bool false) ∧ Below w0.heap.size w0 w' := by
  refine enter Tryd.func15 rfl Tryd.ntmps15 rfl ?_
  intro a henv hst
  have hlen0 := h0.2.1
  have hbig0 := Nat.le_trans h0.1.cap h0.1.big
  unfold maxLen at hbig0
  have hlen1 := h1.2.1
  have hbig1 := Nat.le_trans h1.1.cap h1.1.big
  unfold maxLen at hbig1
  replace hst := (hst.argRow h1).argRow h0
  clear h0 h1
  refine wp_seq ?_
  refine region_seq ?_
  refine seq_step rfl (op_box (c := #[.int .i64 i, .int .i64 g, .slice A0 n0 c0, .slice A1 n1 c1]) henv hst rfl rfl rfl ?_)
  clear henv hst a; intro a w52 g51 henv hst
  refine sv (v := .bool false) henv rfl (rn_assign henv rfl) ?_
  clear henv a; intro a henv
  refine wpList_nil ?_
  refine th_n ?_
  refine wp_seq ?_
  refine region_seq ?_
  refine sv (v := .agg #[.int .i64 i, .int .i64 g, .slice A0 n0 c0, .slice A1 n1 c1]) henv rfl (rn_load0 henv ty_anvil_api_Prog rfl (hst.oat (k := 0) rfl) rfl) ?_
  clear henv a; intro a henv
  refine seq_step rfl (op_call henv rfl Tryd.call12 rfl (r_check_bad (hst.pat (k := 0) rfl) (hst.pat (k := 1) rfl) hR) ?_)
  rintro e w53 ⟨rfl, hb⟩
  refine ⟨_, rfl, ?_⟩
  clear henv a; intro a henv
  replace hst := hst.call hb
  clear hb
  revert a
  refine mA rfl rfl ?_
  refine sA (v := .int .i64 k) rfl (fun _ henv => rn_extract henv rfl rfl) ?_
  refine sA (v := .bool true) rfl (fun _ henv => rn_extract henv rfl rfl) ?_
  refine aA rfl rfl ?_
  refine aA rfl rfl ?_
  intro a henv
  refine wpList_nil ?_
  refine th_n ?_
  refine wp_seq ?_
  refine region_seq ?_
  revert a
  refine mA rfl rfl ?_
  refine sA (v := .bool false) rfl (fun _ henv => rn_un henv rfl rfl) ?_
  refine aA rfl rfl ?_
  intro a henv
  refine wpList_nil ?_
  refine th_n ?_
  refine wp_ret ?_
  refine leave henv (res1 Tryd.results15 (RV.tmp henv rfl)) ?_
  exact ⟨rfl, hst.below⟩
set_option maxRecDepth 100000 in
set_option maxHeartbeats 2000000 in
theorem g_long {i g : Int} {A0 A1 : Option Addr} {n0 c0 n1 c1 : Nat}  {w0 : World} :
    Calls Tryd.prog 13 #[.agg #[.int .i64 i, .int .i64 g, .slice A0 n0 c0, .slice A1 n1 c1]] w0 fun e w' => e = .returned (.bool (decide (400 < n0 ∨ 400 < n1))) ∧ Below w0.heap.size w0 w' := by
  refine enter Tryd.func13 rfl Tryd.ntmps13 rfl ?_
  intro a henv hst
  refine wp_seq ?_
  refine region_seq ?_
  refine seq_step rfl (op_box (c := #[.int .i64 i, .int .i64 g, .slice A0 n0 c0, .slice A1 n1 c1]) henv hst rfl rfl rfl ?_)
  clear henv hst a; intro a w52 g51 henv hst
  refine sv (v := .bool false) henv rfl (rn_assign henv rfl) ?_
  clear henv a; intro a henv
  refine wpList_nil ?_
  refine th_n ?_
  refine wp_seq ?_
  refine region_seq ?_
  revert a
  refine sA (v := .pointer (some ⟨g51, 2, none⟩)) rfl (fun _ henv => rn_fieldAddr henv fd_anvil_api_Prog_2 (ty__api_Instr.size) (by decide) rfl) ?_
  refine sA (v := .slice A0 n0 c0) rfl (fun _ henv => rn_load1 henv ty__api_Instr rfl (hst.oat (k := 0) rfl) rfl) ?_
  refine sA (v := .int .i64 (n0 : Nat)) rfl (fun _ henv => rn_len henv Tryd.underlying22 rfl) ?_
  refine sA (v := .bool (decide (((n0 : Nat) : Int) > (400 : Int)))) rfl (fun _ henv => rn_bin henv rfl rfl rfl) ?_
  refine mA rfl rfl ?_
  intro a henv
  rcases bool_em (decide (((n0 : Nat) : Int) > (400 : Int))) with hg53 | hg53
  · rw [hg53] at henv
    have hx54 := of_decide_eq_true hg53
    revert a
    refine kA rfl rfl rfl rfl rfl ?_
    refine kA rfl rfl rfl rfl rfl ?_
    refine kA rfl rfl rfl rfl rfl ?_
    refine kA rfl rfl rfl rfl rfl ?_
    refine sA (v := .bool true) rfl (fun _ henv => rn_pick henv rfl rfl) ?_
    refine aA rfl rfl ?_
    intro a henv
    refine wpList_nil ?_
    refine th_n ?_
    refine wp_ret ?_
    refine leave henv (res1 Tryd.results13 (RV.tmp henv rfl)) ?_
    exact ⟨by rw [decide_eq_true (show 400 < n0 ∨ 400 < n1 by omega)], hst.below⟩
  · rw [hg53] at henv
    have hx55 := of_decide_eq_false hg53
    revert a
    refine gA (v := .pointer (some ⟨g51, 3, none⟩)) rfl rfl rfl rfl (fun _ henv => rn_fieldAddr henv fd_anvil_api_Prog_3 (ty__int.size) (by decide) rfl) ?_
    refine gA (v := .slice A1 n1 c1) rfl rfl rfl rfl (fun _ henv => rn_load1 henv ty__int rfl (hst.oat (k := 0) rfl) rfl) ?_
    refine gA (v := .int .i64 (n1 : Nat)) rfl rfl rfl rfl (fun _ henv => rn_len henv Tryd.underlying23 rfl) ?_
    refine gA (v := .bool (decide (((n1 : Nat) : Int) > (400 : Int)))) rfl rfl rfl rfl (fun _ henv => rn_bin henv rfl rfl rfl) ?_
    refine sA (v := .bool (decide (((n1 : Nat) : Int) > (400 : Int)))) rfl (fun _ henv => rn_pick henv rfl rfl) ?_
    refine aA rfl rfl ?_
    intro a henv
    refine wpList_nil ?_
    refine th_n ?_
    refine wp_ret ?_
    refine leave henv (res1 Tryd.results13 (RV.tmp henv rfl)) ?_
    exact ⟨congrArg (fun b => Ending.returned (Value.bool b)) (decide_eq_decide.2 (by omega)), hst.below⟩
end Go.Proofs.YtbdngknpngcojaaDoor.W

/- strconv.Itoa of one digit, live; ProgChecks. Printed by pv/gen_g2.py. No condition. -/
namespace Go.Proofs.YtbdngknpngcojaaDoor.W
open Go.RowKit Anv Go.Lib
theorem small_text {n : Nat} (h : n < 10) : (([48, 49, 50, 51, 52, 53, 54, 55, 56, 57, 97, 98, 99, 100, 101, 102, 103, 104, 105, 106, 107, 108, 109, 110, 111, 112, 113, 114, 115, 116, 117, 118, 119, 120, 121, 122] : List UInt8).drop n).take (n + 1 - n) = textZ (n : Nat) := by
  have : ∀ m : Fin 10, (([48, 49, 50, 51, 52, 53, 54, 55, 56, 57, 97, 98, 99, 100, 101, 102, 103, 104, 105, 106, 107, 108, 109, 110, 111, 112, 113, 114, 115, 116, 117, 118, 119, 120, 121, 122] : List UInt8).drop m.1).take (m.1 + 1 - m.1) = textZ (m.1 : Nat) := by decide +kernel
  exact this ⟨n, h⟩
theorem tz1 : textZ 1 = [49] := by decide +kernel
theorem tz0 : textZ 0 = [48] := by decide +kernel
def outT (r : Int) : List UInt8 := 32 :: 114 :: textZ r
theorem one_out : ((([0] : List Int).take 0).flatMap outT) = [] := rfl
theorem one_outs : (([0] : List Int).take 1).flatMap outT = [32, 114, 48] := by simp [outT, tz0]
theorem out_step {X : List UInt8} {es : List Int} {j : Nat} (h : es[j]? = some 0) : (X ++ (es.take j).flatMap outT) ++ ([32] ++ [114, 48]) = X ++ (es.take (j + 1)).flatMap outT := by
  rw [take_one h, List.flatMap_append, List.append_assoc, show ([0] : List Int).flatMap outT = [32] ++ [114, 48] by simp [outT, tz0]]
theorem right_one : Right 1 1 0 1 [] [0] := ⟨by unfold HeadOk; omega, fun x hx => by rw [List.mem_singleton.1 hx]; omega, fun e h => by cases h⟩
section
variable {N : Nat} {dq : List Deferred} {a : Act} {l : List (Nat × Value)} {w : World} {d : Nat} {ty : TypeId} {pos : String} {af : Array Edge} {gd : Option (Nat × Bool)}
theorem rn_prog013 {x0 x1 x3 : Operand} {v0 : Int} {v1 : Int} {A3 : Option Addr} {n3 c3 : Nat} (h : EnvD dq N a l) (h0 : evl l x0 = some (.int .i64 v0)) (h1 : evl l x1 = some (.int .i64 v1)) (h3 : evl l x3 = some (.slice A3 n3 c3)) :
    (execOp a.eval ⟨some d, .build 25 #[(0, x0), (1, x1), (3, x3)], ty, pos, af, gd⟩).run Tryd.prog w = .ok (.value (.agg #[.int .i64 v0, .int .i64 v1, .slice none 0 0, .slice A3 n3 c3])) w := by
  have hz : (zeroValue 25).run Tryd.prog w = .ok (.agg #[.int .i64 0, .int .i64 0, .slice none 0 0, .slice none 0 0]) w := by obtain ⟨i, hi, hv⟩ := zero_anvil_api_Prog; simp [zeroValue, typeInfo, hi, hv]
  simp [execOp, h.ev h0, h.ev h1, h.ev h3, Instr.build, hz, run_underlying Tryd.underlying25, Sem.run_bind, run_sizeOf ty_int.size, run_sizeOf ty__api_Instr.size, run_sizeOf ty__int.size, Instr.fill, Value.cells]
end
set_option maxRecDepth 100000 in
set_option maxHeartbeats 2000000 in
theorem g_small {n : Nat} {w0 : World} (hn : n < 10) :
    Calls Tryd.prog 78 #[.int .i64 (n : Nat)] w0 fun e w' => e = .returned (.string ⟨(textZ (n : Nat)).toArray⟩) ∧ Below w0.heap.size w0 w' := by
  refine enter Tryd.func78 rfl Tryd.ntmps78 rfl ?_
  intro a henv hst
  refine wp_seq ?_
  refine region_seq ?_
  refine sv (v := .string ⟨#[]⟩) henv rfl (rn_assign henv rfl) ?_
  clear henv a; intro a henv
  refine wpList_nil ?_
  refine th_n ?_
  refine wp_seq ?_
  refine wp_seq ?_
  refine region_seq ?_
  revert a
  refine mA rfl rfl ?_
  refine sA (v := .bool (decide (((n : Nat) : Int) < (10 : Int)))) rfl (fun _ henv => rn_bin henv rfl rfl rfl) ?_
  intro a henv
  rw [show (decide (((n : Nat) : Int) < (10 : Int))) = true from (decide_eq_true (by omega))] at henv
  refine wpList_nil ?_
  refine th_n ?_
  refine if_t henv rfl (rfl) ?_
  refine wp_seq ?_
  refine region_seq ?_
  revert a
  refine mA rfl rfl ?_
  refine mA rfl rfl ?_
  refine sA (v := .int .i64 (n + 1 : Nat)) rfl (fun _ henv => rn_add henv rfl rfl (by rw [IntWalk.i64_in _ (by omega)]; omega)) ?_
  refine sA (v := .string ⟨((([48, 49, 50, 51, 52, 53, 54, 55, 56, 57, 97, 98, 99, 100, 101, 102, 103, 104, 105, 106, 107, 108, 109, 110, 111, 112, 113, 114, 115, 116, 117, 118, 119, 120, 121, 122]).drop n).take ((n + 1) - n)).toArray⟩) rfl (fun _ henv => rn_cutS (n := n) (m := n + 1) henv Tryd.underlying9 rfl rfl rfl (by (try simp only [List.length_append, List.length_cons, List.length_nil, tz1, tz0]); omega) (by (try simp only [List.length_append, List.length_cons, List.length_nil, tz1, tz0]); omega)) ?_
  refine aA rfl rfl ?_
  intro a henv
  refine wpList_nil ?_
  refine th_n ?_
  refine wp_ret ?_
  refine th_r ?_
  refine leave henv (res1 Tryd.results78 (RV.tmp henv rfl)) ?_
  exact ⟨by rw [small_text hn], hst.below⟩
set_option maxRecDepth 100000 in
set_option maxHeartbeats 2000000 in
theorem g_format {n : Nat} {w0 : World} (hn : n < 10) :
    Calls Tryd.prog 71 #[.int .i64 (n : Nat), .int .i64 10] w0 fun e w' => e = .returned (.string ⟨(textZ (n : Nat)).toArray⟩) ∧ Below w0.heap.size w0 w' := by
  refine enter Tryd.func71 rfl Tryd.ntmps71 rfl ?_
  intro a henv hst
  refine wp_seq ?_
  refine region_seq ?_
  refine sv (v := .string ⟨#[]⟩) henv rfl (rn_assign henv rfl) ?_
  clear henv a; intro a henv
  refine wpList_nil ?_
  refine th_n ?_
  refine wp_seq ?_
  refine wp_seq ?_
  refine region_seq ?_
  revert a
  refine mA rfl rfl ?_
  refine sA (v := .bool true) rfl (fun _ henv => rn_bin henv rfl rfl rfl) ?_
  intro a henv
  refine wpList_nil ?_
  refine th_n ?_
  refine if_t henv rfl (rfl) ?_
  refine wp_seq ?_
  refine wp_seq ?_
  refine region_seq ?_
  revert a
  refine mA rfl rfl ?_
  refine sA (v := .bool (decide ((0 : Int) ≤ ((n : Nat) : Int)))) rfl (fun _ henv => rn_bin henv rfl rfl rfl) ?_
  intro a henv
  rw [show (decide ((0 : Int) ≤ ((n : Nat) : Int))) = true from (decide_eq_true (by omega))] at henv
  revert a
  refine mA rfl rfl ?_
  refine gA (v := .int .i64 (n : Nat)) rfl rfl rfl rfl (fun _ henv => rn_move henv rfl) ?_
  refine gA (v := .bool (decide (((n : Nat) : Int) < (100 : Int)))) rfl rfl rfl rfl (fun _ henv => rn_bin henv rfl rfl rfl) ?_
  intro a henv
  rw [show (decide (((n : Nat) : Int) < (100 : Int))) = true from (decide_eq_true (by omega))] at henv
  refine sv (v := .bool true) henv rfl (rn_pick henv rfl rfl) ?_
  clear henv a; intro a henv
  refine wpList_nil ?_
  refine th_n ?_
  refine if_t henv rfl (rfl) ?_
  refine wp_seq ?_
  refine region_seq ?_
  refine sv (v := .int .i64 (n : Nat)) henv rfl (rn_move henv rfl) ?_
  clear henv a; intro a henv
  refine seq_step rfl (op_call henv rfl Tryd.call78 rfl (g_small hn) ?_)
  rintro e w51 ⟨rfl, hb⟩
  refine ⟨_, rfl, ?_⟩
  clear henv a; intro a henv
  replace hst := hst.call hb
  clear hb
  refine sv (v := .string ⟨(textZ (n : Nat)).toArray⟩) henv rfl (rn_assign henv rfl) ?_
  clear henv a; intro a henv
  refine wpList_nil ?_
  refine th_n ?_
  refine wp_ret ?_
  refine th_r (th_r ?_)
  refine leave henv (res1 Tryd.results71 (RV.tmp henv rfl)) ?_
  exact ⟨rfl, hst.below⟩
set_option maxRecDepth 100000 in
set_option maxHeartbeats 2000000 in
theorem g_itoa0 {n : Nat} {w0 : World} (hn : n < 10) :
    Calls Tryd.prog 61 #[.int .i64 (n : Nat)] w0 fun e w' => e = .returned (.string ⟨(textZ (n : Nat)).toArray⟩) ∧ Below w0.heap.size w0 w' := by
  refine enter Tryd.func61 rfl Tryd.ntmps61 rfl ?_
  intro a henv hst
  refine wp_seq ?_
  refine region_seq ?_
  refine sv (v := .string ⟨#[]⟩) henv rfl (rn_assign henv rfl) ?_
  clear henv a; intro a henv
  refine wpList_nil ?_
  refine th_n ?_
  refine wp_seq ?_
  refine region_seq ?_
  refine sv (v := .int .i64 (n : Nat)) henv rfl (rn_move henv rfl) ?_
  clear henv a; intro a henv
  refine seq_step rfl (op_call henv rfl Tryd.call71 rfl (g_format hn) ?_)
  rintro e w51 ⟨rfl, hb⟩
  refine ⟨_, rfl, ?_⟩
  clear henv a; intro a henv
  replace hst := hst.call hb
  clear hb
  refine sv (v := .string ⟨(textZ (n : Nat)).toArray⟩) henv rfl (rn_assign henv rfl) ?_
  clear henv a; intro a henv
  refine wpList_nil ?_
  refine th_n ?_
  refine wp_ret ?_
  refine leave henv (res1 Tryd.results61 (RV.tmp henv rfl)) ?_
  exact ⟨rfl, hst.below⟩
set_option maxRecDepth 100000 in
set_option maxHeartbeats 2000000 in
theorem g_itoa {n : Nat} {w0 : World} (hn : n < 10) :
    Calls Tryd.prog 45 #[.int .i64 (n : Nat)] w0 fun e w' => e = .returned (.string ⟨(textZ (n : Nat)).toArray⟩) ∧ Below w0.heap.size w0 w' := by
  refine enter Tryd.func45 rfl Tryd.ntmps45 rfl ?_
  intro a henv hst
  refine wp_seq ?_
  refine region_seq ?_
  refine sv (v := .string ⟨#[]⟩) henv rfl (rn_assign henv rfl) ?_
  clear henv a; intro a henv
  refine wpList_nil ?_
  refine th_n ?_
  refine wp_seq ?_
  refine region_seq ?_
  refine sv (v := .int .i64 (n : Nat)) henv rfl (rn_move henv rfl) ?_
  clear henv a; intro a henv
  refine seq_step rfl (op_call henv rfl Tryd.call61 rfl (g_itoa0 hn) ?_)
  rintro e w51 ⟨rfl, hb⟩
  refine ⟨_, rfl, ?_⟩
  clear henv a; intro a henv
  replace hst := hst.call hb
  clear hb
  refine sv (v := .string ⟨(textZ (n : Nat)).toArray⟩) henv rfl (rn_assign henv rfl) ?_
  clear henv a; intro a henv
  refine wpList_nil ?_
  refine th_n ?_
  refine wp_ret ?_
  refine leave henv (res1 Tryd.results45 (RV.tmp henv rfl)) ?_
  exact ⟨rfl, hst.below⟩
set_option maxRecDepth 100000 in
set_option maxHeartbeats 2000000 in
theorem g_reg0 {w0 : World} :
    Calls Tryd.prog 47 #[.int .i64 0] w0 fun e w' => e = .returned (.string ⟨[114, 48].toArray⟩) ∧ Below w0.heap.size w0 w' := by
  refine enter Tryd.func47 rfl Tryd.ntmps47 rfl ?_
  intro a henv hst
  refine wp_seq ?_
  refine region_seq ?_
  refine sv (v := .string ⟨#[]⟩) henv rfl (rn_assign henv rfl) ?_
  clear henv a; intro a henv
  refine wpList_nil ?_
  refine th_n ?_
  refine wp_seq ?_
  refine region_seq ?_
  refine sv (v := .int .i64 0) henv rfl (rn_move henv rfl) ?_
  clear henv a; intro a henv
  refine seq_step rfl (op_call henv rfl Tryd.call45 rfl (g_itoa (n := 0) (by decide)) ?_)
  rintro e w51 ⟨rfl, hb⟩
  refine ⟨_, rfl, ?_⟩
  clear henv a; intro a henv
  replace hst := hst.call hb
  clear hb
  revert a
  refine sA (v := .string ⟨(([114]) ++ (textZ (0 : Int))).toArray⟩) rfl (fun _ henv => rn_catS (s := [114]) (t := (textZ (0 : Int))) henv rfl rfl (by (try simp only [List.length_append, List.length_cons, List.length_nil, tz1, tz0]); omega)) ?_
  refine aA rfl rfl ?_
  intro a henv
  refine wpList_nil ?_
  refine th_n ?_
  refine wp_ret ?_
  refine leave henv (res1 Tryd.results47 (RV.tmp henv rfl)) ?_
  exact ⟨by rw [show textZ 0 = [48] by decide +kernel]; rfl, hst.below⟩
set_option maxRecDepth 100000 in
set_option maxHeartbeats 4000000 in
theorem g_text1 {A1 : Option Addr} {c1 : Nat} {w0 : World} (h1 : (pfRow fI FI 1 A1 1 c1 ([0])).P w0) :
    Calls Tryd.prog 31 #[.agg #[.int .i64 1, .int .i64 1, .slice none 0 0, .slice A1 1 c1]] w0 fun e w' => e = .returned (.tuple #[.string ⟨[105, 110, 32, 49, 32, 114, 101, 103, 115, 32, 49, 10, 111, 117, 116, 32, 114, 48, 10].toArray⟩, .int .i64 0]) ∧ Below w0.heap.size w0 w' := by
  refine enter Tryd.func31 rfl Tryd.ntmps31 rfl ?_
  intro a henv hst
  replace hst := hst.argRow h1
  refine wp_seq ?_
  refine region_seq ?_
  refine seq_step rfl (op_box (c := #[.int .i64 1, .int .i64 1, .slice none 0 0, .slice A1 1 c1]) henv hst rfl rfl rfl ?_)
  clear henv hst a; intro a w52 g51 henv hst
  revert a
  refine aA rfl rfl ?_
  refine aA rfl rfl ?_
  intro a henv
  refine wpList_nil ?_
  refine th_n ?_
  refine wp_seq ?_
  refine wp_seq ?_
  refine region_seq ?_
  refine sv (v := .agg #[.int .i64 1, .int .i64 1, .slice none 0 0, .slice A1 1 c1]) henv rfl (rn_load0 henv ty_anvil_api_Prog rfl (hst.oat (k := 0) rfl) rfl) ?_
  clear henv a; intro a henv
  refine seq_step rfl (op_call henv rfl Tryd.call37 rfl (g_right_ok (es0 := []) (es1 := [0]) (row_nil fJ FJ 5 _) (hst.pat (k := 0) rfl) right_one) ?_)
  rintro e w53 ⟨rfl, hb⟩
  refine ⟨_, rfl, ?_⟩
  clear henv a; intro a henv
  replace hst := hst.call hb
  clear hb
  refine sv (v := .bool false) henv rfl (rn_un henv rfl rfl) ?_
  clear henv a; intro a henv
  refine wpList_nil ?_
  refine th_n ?_
  refine if_f henv rfl (rfl) ?_
  refine wp_skip ?_
  refine th_n ?_
  refine wp_seq ?_
  refine region_seq ?_
  refine seq_step rfl (op_alloc (c := #[.pointer none, .slice none 0 0]) henv hst rfl zero_strings_Builder rfl ?_)
  clear henv hst a; intro a w55 g54 henv hst
  refine wpList_nil ?_
  replace hst := hst.bld (k := 0) rfl
  replace hst : St w0 _ [bldF g54 (.slice none 0 0) ([] : List UInt8).length (byteCells ([] : List UInt8)), bk g51 #[.int .i64 1, .int .i64 1, .slice none 0 0, .slice A1 1 c1] 25] [pfRow fI FI 1 A1 1 c1 ([0])] := hst
  refine th_n ?_
  refine wp_seq ?_
  refine region_any (n := 11) (Sk [bk g51 #[.int .i64 1, .int .i64 1, .slice none 0 0, .slice A1 1 c1] 25] [pfRow fI FI 1 A1 1 c1 ([0])] [] []) mixed rfl henv hst ?_
  clear henv hst; intro w56 henv hst
  refine tA (i := 0) [1, 2, 3, 4, 7, 8, 9, 10] (v := .pointer (some ⟨g51, 0, none⟩)) rfl (by kernel_rfl) (fun _ _ _ h => h) henv rfl (fun _ => rn_fieldAddr henv fd_anvil_api_Prog_0 (ty_int.size) (by decide) rfl) ?_
  clear henv a; intro a henv
  refine sAny_take (i := 1) [2, 3, 4, 7, 8, 9, 10] (fun w' => w'.heap[g51]? = some (.cells #[.int .i64 1, .int .i64 1, .slice none 0 0, .slice A1 1 c1] 25 (0, 0))) (v := .int .i64 1) rfl (by kernel_rfl) (fun _ _ _ h => h) (fun _ _ _ hS => hS.1.oat (k := 0) rfl) henv rfl (hst.oat (k := 1) rfl) (fun w' hg => rn_load1 henv ty_int rfl hg rfl) ?_
  clear henv a; intro a henv
  refine tA (i := 5) (rg 6 5) (v := .pointer (some ⟨g51, 1, none⟩)) rfl (by kernel_rfl) (fun _ _ _ h => h) henv rfl (fun _ => rn_fieldAddr henv fd_anvil_api_Prog_1 (ty_int.size) (by decide) rfl) ?_
  clear henv a; intro a henv
  refine sAny_take (i := 6) [7, 8, 9, 10] (fun w' => w'.heap[g51]? = some (.cells #[.int .i64 1, .int .i64 1, .slice none 0 0, .slice A1 1 c1] 25 (0, 0))) (v := .int .i64 1) rfl (by kernel_rfl) (fun _ _ _ h => h) (fun _ _ _ hS => hS.1.oat (k := 0) rfl) henv rfl (hst.oat (k := 1) rfl) (fun w' hg => rn_load1 henv ty_int rfl hg rfl) ?_
  clear henv a; intro a henv
  refine sAny_one (i := 2) (by kernel_rfl) rfl rfl (op_call henv rfl Tryd.call45 rfl (g_itoa (n := 1) (by decide)) ?_)
  rintro e w57 ⟨rfl, hb⟩
  refine ⟨_, rfl, ?_⟩
  clear henv a; intro a henv
  replace hst := hst.call hb
  clear hb
  refine ⟨.inr ⟨hst.kn.pick [1] [0], .inr (hst.kn.pick [] [])⟩, ?_⟩
  refine tA (i := 3) [4, 8, 9, 10] (v := .string ⟨(([105, 110, 32]) ++ (textZ (1 : Int))).toArray⟩) rfl (by kernel_rfl) (fun _ _ _ h => h) henv rfl (fun _ => rn_catS (s := [105, 110, 32]) (t := (textZ (1 : Int))) henv rfl rfl (by (try simp only [List.length_append, List.length_cons, List.length_nil, tz1, tz0]); omega)) ?_
  clear henv a; intro a henv
  refine tA (i := 4) [8, 9, 10] (v := .string ⟨((([105, 110, 32]) ++ (textZ (1 : Int))) ++ ([32, 114, 101, 103, 115, 32])).toArray⟩) rfl (by kernel_rfl) (fun _ _ _ h => h) henv rfl (fun _ => rn_catS (s := (([105, 110, 32]) ++ (textZ (1 : Int)))) (t := [32, 114, 101, 103, 115, 32]) henv rfl rfl (by (try simp only [List.length_append, List.length_cons, List.length_nil, tz1, tz0]); omega)) ?_
  clear henv a; intro a henv
  refine sAny_one (i := 7) (by kernel_rfl) rfl rfl (op_call henv rfl Tryd.call45 rfl (g_itoa (n := 1) (by decide)) ?_)
  rintro e w58 ⟨rfl, hb⟩
  refine ⟨_, rfl, ?_⟩
  clear henv a; intro a henv
  replace hst := hst.call hb
  clear hb
  refine ⟨.inr ⟨hst.kn.pick [1] [0], .inr (hst.kn.pick [] [])⟩, ?_⟩
  refine tA (i := 8) [9, 10] (v := .string ⟨(((([105, 110, 32]) ++ (textZ (1 : Int))) ++ ([32, 114, 101, 103, 115, 32])) ++ (textZ (1 : Int))).toArray⟩) rfl (by kernel_rfl) (fun _ _ _ h => h) henv rfl (fun _ => rn_catS (s := ((([105, 110, 32]) ++ (textZ (1 : Int))) ++ ([32, 114, 101, 103, 115, 32]))) (t := (textZ (1 : Int))) henv rfl rfl (by (try simp only [List.length_append, List.length_cons, List.length_nil, tz1, tz0]); omega)) ?_
  clear henv a; intro a henv
  refine tA (i := 9) [10] (v := .string ⟨((((([105, 110, 32]) ++ (textZ (1 : Int))) ++ ([32, 114, 101, 103, 115, 32])) ++ (textZ (1 : Int))) ++ ([10])).toArray⟩) rfl (by kernel_rfl) (fun _ _ _ h => h) henv rfl (fun _ => rn_catS (s := (((([105, 110, 32]) ++ (textZ (1 : Int))) ++ ([32, 114, 101, 103, 115, 32])) ++ (textZ (1 : Int)))) (t := [10]) henv rfl rfl (by (try simp only [List.length_append, List.length_cons, List.length_nil, tz1, tz0]); omega)) ?_
  clear henv a; intro a henv
  refine sAny_one (i := 10) (by kernel_rfl) rfl rfl (op_write (s := ⟨(((((([105, 110, 32]) ++ (textZ (1 : Int))) ++ ([32, 114, 101, 103, 115, 32])) ++ (textZ (1 : Int))) ++ ([10])) : List UInt8).toArray⟩) (k := 0) henv hst rfl rfl rfl rfl (by rw [ba_size]; simp only [List.length_append, List.length_cons, List.length_nil, tz1, tz0, one_out, one_outs]; omega) ?_)
  clear henv hst a; intro a w59 v60 henv hst
  rw [ba_size, byteCells_app, ← List.length_append] at hst
  rw [List.nil_append] at hst
  refine ⟨.inr ⟨hst.kn.pick [1] [0], .inr (hst.kn.pick [] [])⟩, ?_⟩
  refine sAny_done (by kernel_rfl) ?_ _
  refine th_n ?_
  refine wp_seq ?_
  refine wp_seq ?_
  refine region_seq ?_
  revert a
  refine sA (v := .pointer (some ⟨g51, 2, none⟩)) rfl (fun _ henv => rn_fieldAddr henv fd_anvil_api_Prog_2 (ty__api_Instr.size) (by decide) rfl) ?_
  refine sA (v := .slice none 0 0) rfl (fun _ henv => rn_load1 henv ty__api_Instr rfl (hst.oat (k := 1) rfl) rfl) ?_
  refine sA (v := .int .i64 0) rfl (fun _ henv => rn_len henv Tryd.underlying22 rfl) ?_
  refine mA rfl rfl ?_
  intro a henv
  refine wpList_nil ?_
  refine th_n ?_
  refine wp_block ?_
  refine wp_loop_ghost (fun mz a w => 0 = mz ∧ Env 50 a [(4, .pointer (some ⟨g54, 0, none⟩)), (1, .pointer (some ⟨g51, 0, none⟩)), (24, .slice none 0 0), (25, .int .i64 0), (26, .int .i64 0)] ∧ St w0 w [bldF g54 v60 ((((((([105, 110, 32]) ++ (textZ (1 : Int))) ++ ([32, 114, 101, 103, 115, 32])) ++ (textZ (1 : Int))) ++ ([10]))) : List UInt8).length (byteCells ((((((([105, 110, 32]) ++ (textZ (1 : Int))) ++ ([32, 114, 101, 103, 115, 32])) ++ (textZ (1 : Int))) ++ ([10]))) : List UInt8)), bk g51 #[.int .i64 1, .int .i64 1, .slice none 0 0, .slice A1 1 c1] 25] [pfRow fI FI 1 A1 1 c1 ([0])]) _ ⟨rfl, henv.sub ⟨rfl, rfl, rfl, rfl, rfl, trivial⟩, hst.pick [0, 1] [0] (by decide)⟩ ?_
  clear henv hst a
  rintro mz a w61 ⟨rfl, henv, hst⟩
  refine wp_seq ?_
  refine region_seq ?_
  refine sv (v := .bool false) henv rfl (rn_bin henv rfl rfl rfl) ?_
  clear henv a; intro a henv
  refine wpList_nil ?_
  refine th_n ?_
  refine wp_seq ?_
  refine if_f henv rfl (rfl) ?_
  refine wp_exit ?_
  refine th_x (th_x (bl_x (th_n ?_)))
  refine wp_seq ?_
  refine region_seq ?_
  refine seq_step rfl (op_write (s := ⟨([111, 117, 116] : List UInt8).toArray⟩) (k := 0) henv hst rfl rfl rfl rfl (by rw [ba_size]; simp only [List.length_append, List.length_cons, List.length_nil, tz1, tz0, one_out, one_outs]; omega) ?_)
  clear henv hst a; intro a w62 v63 henv hst
  rw [ba_size, byteCells_app, ← List.length_append] at hst
  refine wpList_nil ?_
  refine th_n ?_
  refine wp_seq ?_
  refine wp_seq ?_
  refine region_seq ?_
  revert a
  refine sA (v := .pointer (some ⟨g51, 3, none⟩)) rfl (fun _ henv => rn_fieldAddr henv fd_anvil_api_Prog_3 (ty__int.size) (by decide) rfl) ?_
  refine sA (v := .slice A1 1 c1) rfl (fun _ henv => rn_load1 henv ty__int rfl (hst.oat (k := 1) rfl) rfl) ?_
  refine sA (v := .int .i64 1) rfl (fun _ henv => rn_len henv Tryd.underlying23 rfl) ?_
  refine mA rfl rfl ?_
  intro a henv
  refine wpList_nil ?_
  refine th_n ?_
  refine wp_block ?_
  replace hst : St w0 w62 [bldF g54 v63 ((((((((([105, 110, 32]) ++ (textZ (1 : Int))) ++ ([32, 114, 101, 103, 115, 32])) ++ (textZ (1 : Int))) ++ ([10]))) ++ ([111, 117, 116])) ++ (([0] : List Int).take 0).flatMap outT) : List UInt8).length (byteCells ((((((((([105, 110, 32]) ++ (textZ (1 : Int))) ++ ([32, 114, 101, 103, 115, 32])) ++ (textZ (1 : Int))) ++ ([10]))) ++ ([111, 117, 116])) ++ (([0] : List Int).take 0).flatMap outT) : List UInt8))] [pfRow fI FI 1 A1 1 c1 ([0])] := by rw [show ((((((([105, 110, 32]) ++ (textZ (1 : Int))) ++ ([32, 114, 101, 103, 115, 32])) ++ (textZ (1 : Int))) ++ ([10]))) ++ ([111, 117, 116])) ++ (([0] : List Int).take 0).flatMap outT = ((((((([105, 110, 32]) ++ (textZ (1 : Int))) ++ ([32, 114, 101, 103, 115, 32])) ++ (textZ (1 : Int))) ++ ([10]))) ++ ([111, 117, 116])) by simp]; exact hst.pick [0] [0] (by decide)
  refine wp_loop_ghost (fun mz a w => ∃ j : Nat, ∃ vb : Value, 1 - j = mz ∧ Env 50 a [(4, .pointer (some ⟨g54, 0, none⟩)), (37, .slice A1 1 c1), (38, .int .i64 1), (39, .int .i64 (j : Nat))] ∧ St w0 w [bldF g54 vb ((((((((([105, 110, 32]) ++ (textZ (1 : Int))) ++ ([32, 114, 101, 103, 115, 32])) ++ (textZ (1 : Int))) ++ ([10]))) ++ ([111, 117, 116])) ++ ([0].take j).flatMap outT) : List UInt8).length (byteCells ((((((((([105, 110, 32]) ++ (textZ (1 : Int))) ++ ([32, 114, 101, 103, 115, 32])) ++ (textZ (1 : Int))) ++ ([10]))) ++ ([111, 117, 116])) ++ ([0].take j).flatMap outT) : List UInt8))] [pfRow fI FI 1 A1 1 c1 ([0])] ∧ j ≤ 1) _ ⟨0, v63, rfl, henv.sub ⟨rfl, rfl, rfl, rfl, trivial⟩, hst.pick [0] [0] (by decide), (Nat.zero_le _)⟩ ?_
  clear henv hst a
  rintro mz a w64 ⟨j, vb, rfl, henv, hst, hj⟩
  refine wp_seq ?_
  refine region_seq ?_
  refine sv (v := .bool (decide (((j : Nat) : Int) < (1 : Int)))) henv rfl (rn_bin henv rfl rfl rfl) ?_
  clear henv a; intro a henv
  refine wpList_nil ?_
  refine th_n ?_
  refine wp_seq ?_
  refine if_split henv rfl (fun hc65 => ?_) (fun hc65 => ?_)
  · have hlt : j < 1 := by have := of_decide_eq_true hc65; omega
    obtain rfl : j = 0 := by omega
    have hz : ([0] : List Int)[0]? = some 0 := rfl
    refine wp_skip ?_
    refine th_n ?_
    refine wp_seq ?_
    refine wp_block ?_
    refine wp_seq ?_
    refine region_seq ?_
    revert a
    refine sA (v := .pointer (some ⟨ab A1, ao A1 + 0 * 1, none⟩)) rfl (fun _ henv => rn_idxR (i := 0) henv Tryd.underlying23 (ty_int.size) rfl rfl (by omega) rfl (show (pfRow fI FI 1 A1 1 c1 ([0])).P _ from (hst.pat (k := 0) rfl)).1) ?_
    refine sA (v := .int .i64 0) rfl (fun _ henv => rn_loadE1 (i := 0) (j := 0) (e := 0) henv ty_int rfl rfl fI_len (by decide) (show (pfRow fI FI 1 A1 1 c1 ([0])).P _ from (hst.pat (k := 0) rfl)).1 (by omega) hz rfl) ?_
    refine aA rfl rfl ?_
    intro a henv
    refine wpList_nil ?_
    refine th_n ?_
    refine region_seq ?_
    refine sv (v := .int .i64 0) henv rfl (rn_move henv rfl) ?_
    clear henv a; intro a henv
    refine seq_step rfl (op_call henv rfl Tryd.call47 rfl g_reg0 ?_)
    rintro e w66 ⟨rfl, hb⟩
    refine ⟨_, rfl, ?_⟩
    clear henv a; intro a henv
    replace hst := hst.call hb
    clear hb
    refine sv (v := .string ⟨(([32]) ++ ([114, 48] : List UInt8)).toArray⟩) henv rfl (rn_catS (s := [32]) (t := ([114, 48] : List UInt8)) henv rfl rfl (by (try simp only [List.length_append, List.length_cons, List.length_nil, tz1, tz0]); omega)) ?_
    clear henv a; intro a henv
    refine seq_step rfl (op_write (s := ⟨((([32]) ++ ([114, 48] : List UInt8)) : List UInt8).toArray⟩) (k := 0) henv hst rfl rfl rfl rfl (by rw [ba_size]; simp only [List.length_append, List.length_cons, List.length_nil, tz1, tz0, one_out, one_outs]; omega) ?_)
    clear henv hst a; intro a w67 v68 henv hst
    rw [ba_size, byteCells_app, ← List.length_append] at hst
    refine wpList_nil ?_
    refine bl_n (th_n ?_)
    refine region_seq ?_
    revert a
    refine sA (v := .int .i64 (0 + 1 : Nat)) rfl (fun _ henv => rn_add henv rfl rfl (by rw [IntWalk.i64_in _ (by omega)]; omega)) ?_
    refine mA rfl rfl ?_
    intro a henv
    refine wpList_nil ?_
    rw [show ((((((((([105, 110, 32]) ++ (textZ (1 : Int))) ++ ([32, 114, 101, 103, 115, 32])) ++ (textZ (1 : Int))) ++ ([10]))) ++ ([111, 117, 116])) ++ ([0].take 0).flatMap outT) ++ (([32]) ++ ([114, 48] : List UInt8))) = ((((((([105, 110, 32]) ++ (textZ (1 : Int))) ++ ([32, 114, 101, 103, 115, 32])) ++ (textZ (1 : Int))) ++ ([10]))) ++ ([111, 117, 116])) ++ (([0] : List Int).take (0 + 1)).flatMap outT from out_step hz] at hst
    exact th_n ⟨_, (by omega), ⟨1, v68, rfl, henv.sub ⟨rfl, rfl, rfl, rfl, trivial⟩, hst.pick [0] [0] (by decide), (by omega)⟩⟩
  · obtain rfl : j = 1 := by have := of_decide_eq_false hc65; omega
    refine wp_exit ?_
    refine th_x (th_x (bl_x (th_n ?_)))
    refine wp_seq ?_
    refine region_seq ?_
    refine seq_step rfl (op_write (s := ⟨([10] : List UInt8).toArray⟩) (k := 0) henv hst rfl rfl rfl rfl (by rw [ba_size]; simp only [List.length_append, List.length_cons, List.length_nil, tz1, tz0, one_out, one_outs]; omega) ?_)
    clear henv hst a; intro a w69 v70 henv hst
    rw [ba_size, byteCells_app, ← List.length_append] at hst
    refine wpList_nil ?_
    refine th_n ?_
    refine wp_seq ?_
    refine region_seq ?_
    refine seq_step rfl (op_bstr (k := 0) henv hst rfl rfl rfl ?_)
    clear henv hst a; intro a w71 henv hst
    revert a
    refine aA rfl rfl ?_
    refine aA rfl rfl ?_
    intro a henv
    refine wpList_nil ?_
    refine th_n ?_
    refine wp_ret ?_
    refine leave henv (res2 Tryd.results31 (RV.tmp henv rfl) (RV.tmp henv rfl)) ?_
    exact ⟨by rw [show ((((((((([105, 110, 32]) ++ (textZ (1 : Int))) ++ ([32, 114, 101, 103, 115, 32])) ++ (textZ (1 : Int))) ++ ([10]))) ++ ([111, 117, 116])) ++ ([0].take 1).flatMap outT) ++ ([10])) = [105, 110, 32, 49, 32, 114, 101, 103, 115, 32, 49, 10, 111, 117, 116, 32, 114, 48, 10] by decide +kernel], hst.below⟩
set_option maxRecDepth 100000 in
set_option maxHeartbeats 2000000 in
theorem g_live {w0 : World} :
    Calls Tryd.prog 10 #[] w0 fun e w' => e = .returned (.bool true) ∧ Below w0.heap.size w0 w' := by
  refine enter Tryd.func10 rfl Tryd.ntmps10 rfl ?_
  intro a henv hst
  refine wp_seq ?_
  refine region_seq ?_
  refine sv (v := .bool false) henv rfl (rn_assign henv rfl) ?_
  clear henv a; intro a henv
  refine wpList_nil ?_
  refine th_n ?_
  refine wp_seq ?_
  refine region_seq ?_
  refine seq_step rfl (op_buildSlice (z := 1) (pv := #[(0, .int .i64 0)]) (c := #[.int .i64 0]) henv hst rfl Tryd.underlying23 (ty_int.size) zero_int (by decide) (by decide) rfl (by kernel_rfl) ?_)
  clear henv hst a; intro a w52 g51 henv hst
  refine sv (v := .agg #[.int .i64 1, .int .i64 1, .slice none 0 0, .slice (some ⟨g51, 0, none⟩) 1 1]) henv rfl (rn_prog013 henv rfl rfl rfl) ?_
  clear henv a; intro a henv
  replace hst := hst.giveBk (f := fI) (F := FI) (k := 0) (n := 1) (es := [0]) rfl rfl fI_len rfl (by decide) (esT_P (fun _ => rfl) _ _) (fun _ _ _ _ => esT_foot (fun _ => rfl))
  refine seq_step rfl (op_call henv rfl Tryd.call31 rfl (g_text1 (hst.pat (k := 0) rfl)) ?_)
  rintro e w53 ⟨rfl, hb⟩
  refine ⟨_, rfl, ?_⟩
  clear henv a; intro a henv
  replace hst := hst.call hb
  clear hb
  revert a
  refine mA rfl rfl ?_
  refine sA (v := .string ⟨([105, 110, 32, 49, 32, 114, 101, 103, 115, 32, 49, 10, 111, 117, 116, 32, 114, 48, 10] : List UInt8).toArray⟩) rfl (fun _ henv => rn_extract henv rfl rfl) ?_
  refine sA (v := .int .i64 0) rfl (fun _ henv => rn_extract henv rfl rfl) ?_
  refine aA rfl rfl ?_
  refine aA rfl rfl ?_
  intro a henv
  refine wpList_nil ?_
  refine th_n ?_
  refine wp_seq ?_
  refine region_seq ?_
  revert a
  refine mA rfl rfl ?_
  refine sA (v := .bool (decide (([105, 110, 32, 49, 32, 114, 101, 103, 115, 32, 49, 10, 111, 117, 116, 32, 114, 48, 10] : List UInt8) = [105, 110, 32, 49, 32, 114, 101, 103, 115, 32, 49, 10, 111, 117, 116, 32, 114, 48, 10]))) rfl (fun _ henv => rn_eqls (s := ([105, 110, 32, 49, 32, 114, 101, 103, 115, 32, 49, 10, 111, 117, 116, 32, 114, 48, 10] : List UInt8)) (t := [105, 110, 32, 49, 32, 114, 101, 103, 115, 32, 49, 10, 111, 117, 116, 32, 114, 48, 10]) henv rfl rfl) ?_
  intro a henv
  rw [show (decide (([105, 110, 32, 49, 32, 114, 101, 103, 115, 32, 49, 10, 111, 117, 116, 32, 114, 48, 10] : List UInt8) = [105, 110, 32, 49, 32, 114, 101, 103, 115, 32, 49, 10, 111, 117, 116, 32, 114, 48, 10])) = true from (by decide)] at henv
  revert a
  refine mA rfl rfl ?_
  refine gA (v := .int .i64 0) rfl rfl rfl rfl (fun _ henv => rn_move henv rfl) ?_
  refine gA (v := .bool true) rfl rfl rfl rfl (fun _ henv => rn_bin henv rfl rfl rfl) ?_
  refine sA (v := .bool true) rfl (fun _ henv => rn_pick henv rfl rfl) ?_
  refine aA rfl rfl ?_
  intro a henv
  refine wpList_nil ?_
  refine th_n ?_
  refine wp_ret ?_
  refine leave henv (res1 Tryd.results10 (RV.tmp henv rfl)) ?_
  exact ⟨rfl, hst.below⟩
end Go.Proofs.YtbdngknpngcojaaDoor.W
