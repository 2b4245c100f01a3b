/- Programs held against each other, copied. Printed by pv/gen_g3.py. No condition. -/
import Derived.Test.YtbdngknpngcojaaDoorM48
import Derived.Test.YtbdngknpngcojaaDoorM15
import Derived.Test.YtbdngknpngcojaaDoorM40
import Derived.Test.YtbdngknpngcojaaDoorM36
import Derived.Test.YtbdngknpngcojaaDoorM47
import Derived.Test.YtbdngknpngcojaaDoorM34

namespace Go.Proofs.YtbdngknpngcojaaDoor.W
open Go.RowKit Anv Go.Lib
theorem instrI : IntS Tryd.prog 37 5 := ⟨by kernel_rfl, by kernel_rfl, by kernel_rfl, by kernel_rfl, by kernel_rfl⟩
theorem newrow_of {α : Type} {f : α → List Value} {F : α → PF} {E z B n m c : Nat} {A : Option Addr} {es : List α} {w : World} (h : (rowS notU E z A n c (fl f es)).P w) (hf : ∀ b, (rowS notU E z A n c (fl f es)).foot b → B ≤ b) (hn : n = m) (hE : (pfEs F es).P w := by exact fun _ _ => trivial) : NewRow notU E z f F B w A m c es := by
  subst hn
  exact ⟨h, hE, fun a ha => hf _ (by subst ha; rfl)⟩
set_option maxRecDepth 100000 in
set_option maxHeartbeats 2000000 in
theorem r_same {i g i2 g2 : Int} {A0 A1 A2 A3 : Option Addr} {n0 c0 n1 c1 n2 c2 n3 c3 : Nat} {es0 : List IE} {es1 : List Int} {es2 : List IE} {es3 : List Int} {w0 : World} (h0 : (pfRow fJ FJ 5 A0 n0 c0 es0).P w0) (h1 : (pfRow fI FI 1 A1 n1 c1 es1).P w0) (h2 : (pfRow fJ FJ 5 A2 n2 c2 es2).P w0) (h3 : (pfRow fI FI 1 A3 n3 c3 es3).P w0) :
    Calls Tryd.prog 16 #[.agg #[.int .i64 i, .int .i64 g, .slice A0 n0 c0, .slice A1 n1 c1], .agg #[.int .i64 i2, .int .i64 g2, .slice A2 n2 c2, .slice A3 n3 c3]] w0 fun e w' => e = .returned (.bool (decide (i = i2 ∧ g = g2 ∧ es0 = es2 ∧ es1 = es3))) ∧ Below w0.heap.size w0 w' := by
  refine enter Tryd.func16 rfl Tryd.ntmps16 rfl ?_
  intro a henv hst
  have hlen0 := h0.2.1
  have hbig0 := Nat.le_trans h0.1.cap h0.1.big
  unfold maxLen at hbig0
  have hlen1 := h1.2.1
  have hbig1 := Nat.le_trans h1.1.cap h1.1.big
  unfold maxLen at hbig1
  have hlen2 := h2.2.1
  have hbig2 := Nat.le_trans h2.1.cap h2.1.big
  unfold maxLen at hbig2
  have hlen3 := h3.2.1
  have hbig3 := Nat.le_trans h3.1.cap h3.1.big
  unfold maxLen at hbig3
  replace hst := hst.argRow h0
  replace hst := hst.argRow h1
  replace hst := hst.argRow h2
  replace hst := hst.argRow h3
  clear h0 h1 h2 h3
  refine wp_seq ?_
  refine region_seq ?_
  refine seq_step rfl (op_box (c := #[.int .i64 i, .int .i64 g, .slice A0 n0 c0, .slice A1 n1 c1]) henv hst rfl rfl rfl ?_)
  clear henv hst a; intro a w52 g51 henv hst
  refine seq_step rfl (op_box (c := #[.int .i64 i2, .int .i64 g2, .slice A2 n2 c2, .slice A3 n3 c3]) henv hst rfl rfl rfl ?_)
  clear henv hst a; intro a w54 g53 henv hst
  refine sv (v := .bool false) henv rfl (rn_assign henv rfl) ?_
  clear henv a; intro a henv
  refine wpList_nil ?_
  refine th_n ?_
  refine wp_seq ?_
  refine wp_seq ?_
  refine region_seq ?_
  revert a
  refine sA (v := .pointer (some ⟨g51, 0, none⟩)) rfl (fun _ henv => rn_fieldAddr henv fd_anvil_api_Prog_0 (ty_int.size) (by decide) rfl) ?_
  refine sA (v := .int .i64 i) rfl (fun _ henv => rn_load1 henv ty_int rfl (hst.oat (k := 1) rfl) rfl) ?_
  refine sA (v := .pointer (some ⟨g53, 0, none⟩)) rfl (fun _ henv => rn_fieldAddr henv fd_anvil_api_Prog_0 (ty_int.size) (by decide) rfl) ?_
  refine sA (v := .int .i64 i2) rfl (fun _ henv => rn_load1 henv ty_int rfl (hst.oat (k := 0) rfl) rfl) ?_
  refine sA (v := .bool (i != i2)) rfl (fun _ henv => rn_bin henv rfl rfl rfl) ?_
  refine mA rfl rfl ?_
  intro a henv
  rcases bool_em (i != i2) with hg55 | hg55
  · rw [hg55] at henv
    have hx56 := bne_yes hg55
    revert a
    refine kA rfl rfl rfl rfl rfl ?_
    refine kA rfl rfl rfl rfl rfl ?_
    refine kA rfl rfl rfl rfl rfl ?_
    refine kA rfl rfl rfl rfl rfl ?_
    refine kA rfl rfl rfl rfl rfl ?_
    refine sA (v := .bool true) rfl (fun _ henv => rn_pick henv rfl rfl) ?_
    refine mA rfl rfl ?_
    refine kA rfl rfl rfl rfl rfl ?_
    refine kA rfl rfl rfl rfl rfl ?_
    refine kA rfl rfl rfl rfl rfl ?_
    refine kA rfl rfl rfl rfl rfl ?_
    refine kA rfl rfl rfl rfl rfl ?_
    refine kA rfl rfl rfl rfl rfl ?_
    refine kA rfl rfl rfl rfl rfl ?_
    refine sA (v := .bool true) rfl (fun _ henv => rn_pick henv rfl rfl) ?_
    refine mA rfl rfl ?_
    refine kA rfl rfl rfl rfl rfl ?_
    refine kA rfl rfl rfl rfl rfl ?_
    refine kA rfl rfl rfl rfl rfl ?_
    refine kA rfl rfl rfl rfl rfl ?_
    refine kA rfl rfl rfl rfl rfl ?_
    refine kA rfl rfl rfl rfl rfl ?_
    refine kA rfl rfl rfl rfl rfl ?_
    refine sA (v := .bool true) rfl (fun _ henv => rn_pick henv rfl rfl) ?_
    intro a henv
    refine wpList_nil ?_
    refine th_n ?_
    refine if_t henv rfl (rfl) ?_
    refine wp_seq ?_
    refine region_seq ?_
    refine sv (v := .bool false) henv rfl (rn_assign henv rfl) ?_
    clear henv a; intro a henv
    refine wpList_nil ?_
    refine th_n ?_
    refine wp_ret ?_
    refine th_r ?_
    refine leave henv (res1 Tryd.results16 (RV.tmp henv rfl)) ?_
    exact ⟨by rw [decide_eq_false (fun q => by obtain ⟨q1, q2, q3, q4⟩ := q; contradiction)], hst.below⟩
  · rw [hg55] at henv
    have hx57 := bne_no hg55
    revert a
    refine gA (v := .pointer (some ⟨g51, 1, none⟩)) rfl rfl rfl rfl (fun _ henv => rn_fieldAddr henv fd_anvil_api_Prog_1 (ty_int.size) (by decide) rfl) ?_
    refine gA (v := .int .i64 g) rfl rfl rfl rfl (fun _ henv => rn_load1 henv ty_int rfl (hst.oat (k := 1) rfl) rfl) ?_
    refine gA (v := .pointer (some ⟨g53, 1, none⟩)) rfl rfl rfl rfl (fun _ henv => rn_fieldAddr henv fd_anvil_api_Prog_1 (ty_int.size) (by decide) rfl) ?_
    refine gA (v := .int .i64 g2) rfl rfl rfl rfl (fun _ henv => rn_load1 henv ty_int rfl (hst.oat (k := 0) rfl) rfl) ?_
    refine gA (v := .bool (g != g2)) rfl rfl rfl rfl (fun _ henv => rn_bin henv rfl rfl rfl) ?_
    refine sA (v := .bool (g != g2)) rfl (fun _ henv => rn_pick henv rfl rfl) ?_
    refine mA rfl rfl ?_
    intro a henv
    rcases bool_em (g != g2) with hg58 | hg58
    · rw [hg58] at henv
      have hx59 := bne_yes hg58
      revert a
      refine kA rfl rfl rfl rfl rfl ?_
      refine kA rfl rfl rfl rfl rfl ?_
      refine kA rfl rfl rfl rfl rfl ?_
      refine kA rfl rfl rfl rfl rfl ?_
      refine kA rfl rfl rfl rfl rfl ?_
      refine kA rfl rfl rfl rfl rfl ?_
      refine kA rfl rfl rfl rfl rfl ?_
      refine sA (v := .bool true) rfl (fun _ henv => rn_pick henv rfl rfl) ?_
      refine mA rfl rfl ?_
      refine kA rfl rfl rfl rfl rfl ?_
      refine kA rfl rfl rfl rfl rfl ?_
      refine kA rfl rfl rfl rfl rfl ?_
      refine kA rfl rfl rfl rfl rfl ?_
      refine kA rfl rfl rfl rfl rfl ?_
      refine kA rfl rfl rfl rfl rfl ?_
      refine kA rfl rfl rfl rfl rfl ?_
      refine sA (v := .bool true) rfl (fun _ henv => rn_pick henv rfl rfl) ?_
      intro a henv
      refine wpList_nil ?_
      refine th_n ?_
      refine if_t henv rfl (rfl) ?_
      refine wp_seq ?_
      refine region_seq ?_
      refine sv (v := .bool false) henv rfl (rn_assign henv rfl) ?_
      clear henv a; intro a henv
      refine wpList_nil ?_
      refine th_n ?_
      refine wp_ret ?_
      refine th_r ?_
      refine leave henv (res1 Tryd.results16 (RV.tmp henv rfl)) ?_
      exact ⟨by rw [decide_eq_false (fun q => by obtain ⟨q1, q2, q3, q4⟩ := q; contradiction)], hst.below⟩
    · rw [hg58] at henv
      have hx60 := bne_no hg58
      revert a
      refine gA (v := .pointer (some ⟨g51, 2, none⟩)) rfl rfl rfl rfl (fun _ henv => rn_fieldAddr henv fd_anvil_api_Prog_2 (ty__api_Instr.size) (by decide) rfl) ?_
      refine gA (v := .slice A0 n0 c0) rfl rfl rfl rfl (fun _ henv => rn_load1 henv ty__api_Instr rfl (hst.oat (k := 1) rfl) rfl) ?_
      refine gA (v := .int .i64 (n0 : Nat)) rfl rfl rfl rfl (fun _ henv => rn_len henv Tryd.underlying22 rfl) ?_
      refine gA (v := .pointer (some ⟨g53, 2, none⟩)) rfl rfl rfl rfl (fun _ henv => rn_fieldAddr henv fd_anvil_api_Prog_2 (ty__api_Instr.size) (by decide) rfl) ?_
      refine gA (v := .slice A2 n2 c2) rfl rfl rfl rfl (fun _ henv => rn_load1 henv ty__api_Instr rfl (hst.oat (k := 0) rfl) rfl) ?_
      refine gA (v := .int .i64 (n2 : Nat)) rfl rfl rfl rfl (fun _ henv => rn_len henv Tryd.underlying22 rfl) ?_
      refine gA (v := .bool (((n0 : Nat) : Int) != ((n2 : Nat) : Int))) rfl rfl rfl rfl (fun _ henv => rn_bin henv rfl rfl rfl) ?_
      refine sA (v := .bool (((n0 : Nat) : Int) != ((n2 : Nat) : Int))) rfl (fun _ henv => rn_pick henv rfl rfl) ?_
      refine mA rfl rfl ?_
      intro a henv
      rcases bool_em (((n0 : Nat) : Int) != ((n2 : Nat) : Int)) with hg61 | hg61
      · rw [hg61] at henv
        have hx62 := bne_yes hg61
        have hne : ¬ (es0 = es2) := fun q => hx62 (by rw [← hlen0, ← hlen2, q])
        revert a
        refine kA rfl rfl rfl rfl rfl ?_
        refine kA rfl rfl rfl rfl rfl ?_
        refine kA rfl rfl rfl rfl rfl ?_
        refine kA rfl rfl rfl rfl rfl ?_
        refine kA rfl rfl rfl rfl rfl ?_
        refine kA rfl rfl rfl rfl rfl ?_
        refine kA rfl rfl rfl rfl rfl ?_
        refine sA (v := .bool true) rfl (fun _ henv => rn_pick henv rfl rfl) ?_
        intro a henv
        refine wpList_nil ?_
        refine th_n ?_
        refine if_t henv rfl (rfl) ?_
        refine wp_seq ?_
        refine region_seq ?_
        refine sv (v := .bool false) henv rfl (rn_assign henv rfl) ?_
        clear henv a; intro a henv
        refine wpList_nil ?_
        refine th_n ?_
        refine wp_ret ?_
        refine th_r ?_
        refine leave henv (res1 Tryd.results16 (RV.tmp henv rfl)) ?_
        exact ⟨by rw [decide_eq_false (fun q => by obtain ⟨q1, q2, q3, q4⟩ := q; contradiction)], hst.below⟩
      · rw [hg61] at henv
        have hx63 := bne_no hg61
        have hnnfJ : n0 = n2 := by omega
        revert a
        refine gA (v := .pointer (some ⟨g51, 3, none⟩)) rfl rfl rfl rfl (fun _ henv => rn_fieldAddr henv fd_anvil_api_Prog_3 (ty__int.size) (by decide) rfl) ?_
        refine gA (v := .slice A1 n1 c1) rfl rfl rfl rfl (fun _ henv => rn_load1 henv ty__int rfl (hst.oat (k := 1) rfl) rfl) ?_
        refine gA (v := .int .i64 (n1 : Nat)) rfl rfl rfl rfl (fun _ henv => rn_len henv Tryd.underlying23 rfl) ?_
        refine gA (v := .pointer (some ⟨g53, 3, none⟩)) rfl rfl rfl rfl (fun _ henv => rn_fieldAddr henv fd_anvil_api_Prog_3 (ty__int.size) (by decide) rfl) ?_
        refine gA (v := .slice A3 n3 c3) rfl rfl rfl rfl (fun _ henv => rn_load1 henv ty__int rfl (hst.oat (k := 0) rfl) rfl) ?_
        refine gA (v := .int .i64 (n3 : Nat)) rfl rfl rfl rfl (fun _ henv => rn_len henv Tryd.underlying23 rfl) ?_
        refine gA (v := .bool (((n1 : Nat) : Int) != ((n3 : Nat) : Int))) rfl rfl rfl rfl (fun _ henv => rn_bin henv rfl rfl rfl) ?_
        refine sA (v := .bool (((n1 : Nat) : Int) != ((n3 : Nat) : Int))) rfl (fun _ henv => rn_pick henv rfl rfl) ?_
        intro a henv
        refine wpList_nil ?_
        refine th_n ?_
        refine if_split henv rfl (fun hc64 => ?_) (fun hc64 => ?_)
        · have hx65 := bne_yes hc64
          have hne : ¬ (es1 = es3) := fun q => hx65 (by rw [← hlen1, ← hlen3, q])
          refine wp_seq ?_
          refine region_seq ?_
          refine sv (v := .bool false) henv rfl (rn_assign henv rfl) ?_
          clear henv a; intro a henv
          refine wpList_nil ?_
          refine th_n ?_
          refine wp_ret ?_
          refine th_r ?_
          refine leave henv (res1 Tryd.results16 (RV.tmp henv rfl)) ?_
          exact ⟨by rw [decide_eq_false (fun q => by obtain ⟨q1, q2, q3, q4⟩ := q; contradiction)], hst.below⟩
        · have hx66 := bne_no hc64
          have hnnfI : n1 = n3 := by omega
          refine wp_skip ?_
          refine th_n ?_
          refine wp_seq ?_
          refine wp_seq ?_
          refine region_seq ?_
          refine sv (v := .int .i64 0) henv rfl (rn_assign henv rfl) ?_
          clear henv a; intro a henv
          refine wpList_nil ?_
          refine th_n ?_
          refine wp_block ?_
          refine wp_loop_ghost (fun mz a w => ∃ j : Nat, n0 - j = mz ∧ Env 73 a [(2, .pointer (some ⟨g51, 0, none⟩)), (3, .pointer (some ⟨g53, 0, none⟩)), (5, .int .i64 (j : Nat))] ∧ St w0 w [bk g53 #[.int .i64 i2, .int .i64 g2, .slice A2 n2 c2, .slice A3 n3 c3] 25, bk g51 #[.int .i64 i, .int .i64 g, .slice A0 n0 c0, .slice A1 n1 c1] 25] [pfRow fI FI 1 A3 n3 c3 es3, pfRow fJ FJ 5 A2 n2 c2 es2, pfRow fI FI 1 A1 n1 c1 es1, pfRow fJ FJ 5 A0 n0 c0 es0] ∧ j ≤ n0 ∧ es0.take j = es2.take j) _ ⟨0, rfl, henv.sub ⟨rfl, rfl, rfl, trivial⟩, hst.pick [0, 1] [0, 1, 2, 3] (by decide), (Nat.zero_le _), rfl⟩ ?_
          clear henv hst a
          rintro mz a w67 ⟨j, rfl, henv, hst, hj, hefJ⟩
          refine wp_seq ?_
          refine wp_seq ?_
          refine region_seq ?_
          revert a
          refine mA rfl rfl ?_
          refine sA (v := .pointer (some ⟨g51, 2, none⟩)) rfl (fun _ henv => rn_fieldAddr henv fd_anvil_api_Prog_2 (ty__api_Instr.size) (by decide) rfl) ?_
          refine sA (v := .slice A0 n0 c0) rfl (fun _ henv => rn_load1 henv ty__api_Instr rfl (hst.oat (k := 1) rfl) rfl) ?_
          refine sA (v := .int .i64 (n0 : Nat)) rfl (fun _ henv => rn_len henv Tryd.underlying22 rfl) ?_
          refine sA (v := .bool (decide (((j : Nat) : Int) < ((n0 : Nat) : Int)))) rfl (fun _ henv => rn_bin henv rfl rfl rfl) ?_
          intro a henv
          refine wpList_nil ?_
          refine th_n ?_
          refine if_split henv rfl (fun hc68 => ?_) (fun hc68 => ?_)
          · have hlt : j < n0 := by have := of_decide_eq_true hc68; omega
            obtain ⟨⟨a1, a2, a3, a4, a5⟩, hxfJ⟩ : ∃ e, es0[j]? = some e := ⟨_, List.getElem?_eq_getElem (by omega)⟩
            obtain ⟨⟨b1, b2, b3, b4, b5⟩, hyfJ⟩ : ∃ e, es2[j]? = some e := ⟨_, List.getElem?_eq_getElem (by omega)⟩
            refine wp_skip ?_
            refine th_n ?_
            refine wp_seq ?_
            refine wp_block ?_
            refine wp_seq ?_
            refine region_any (n := 11) (Sk [bk g53 #[.int .i64 i2, .int .i64 g2, .slice A2 n2 c2, .slice A3 n3 c3] 25, bk g51 #[.int .i64 i, .int .i64 g, .slice A0 n0 c0, .slice A1 n1 c1] 25] [pfRow fI FI 1 A3 n3 c3 es3, pfRow fJ FJ 5 A2 n2 c2 es2, pfRow fI FI 1 A1 n1 c1 es1, pfRow fJ FJ 5 A0 n0 c0 es0] [] []) mixed rfl henv hst ?_
            clear henv hst; intro w69 henv hst
            refine tA (i := 0) [1, 3, 4, 10] (v := .pointer (some ⟨g51, 2, none⟩)) rfl (by kernel_rfl) (fun _ _ _ h => h) henv rfl (fun _ => rn_fieldAddr henv fd_anvil_api_Prog_2 (ty__api_Instr.size) (by decide) rfl) ?_
            clear henv a; intro a henv
            refine sAny_take (i := 1) [3, 4, 10] (fun w' => w'.heap[g51]? = some (.cells #[.int .i64 i, .int .i64 g, .slice A0 n0 c0, .slice A1 n1 c1] 25 (0, 0))) (v := .slice A0 n0 c0) rfl (by kernel_rfl) (fun _ _ _ h => h) (fun _ _ _ hS => hS.1.oat (k := 1) rfl) henv rfl (hst.oat (k := 1) rfl) (fun w' hg => rn_load1 henv ty__api_Instr rfl hg rfl) ?_
            clear henv a; intro a henv
            refine tM (i := 2) [3, 4, 10] rfl (by kernel_rfl) (fun _ _ _ h => h) henv rfl rfl ?_
            clear henv a; intro a henv
            refine sAny_take (i := 3) [4, 10] (fun w' => (pfRow fJ FJ 5 A0 n0 c0 es0).P w') (v := .pointer (some ⟨ab A0, ao A0 + j * 5, none⟩)) rfl (by kernel_rfl) (fun _ _ _ h => h) (fun _ _ _ hS => hS.1.pat (k := 3) rfl) henv rfl (hst.pat (k := 3) rfl) (fun w' hg => rn_idxR (i := j) henv Tryd.underlying22 (ty_anvil_api_Instr.size) rfl rfl (by omega) rfl (show (pfRow fJ FJ 5 A0 n0 c0 es0).P _ from hg).1) ?_
            clear henv a; intro a henv
            refine sAny_take (i := 4) [10] (fun w' => (pfRow fJ FJ 5 A0 n0 c0 es0).P w') (v := .agg #[.int .i64 a1, .int .i64 a2, .int .i64 a3, .int .i64 a4, .int .i64 a5]) rfl (by kernel_rfl) (fun _ _ _ h => h) (fun _ _ _ hS => hS.1.pat (k := 3) rfl) henv rfl (hst.pat (k := 3) rfl) (fun w' hg => rn_loadE (i := j) (e := (a1, a2, a3, a4, a5)) henv ty_anvil_api_Instr rfl rfl fJ_len (show (pfRow fJ FJ 5 A0 n0 c0 es0).P _ from hg).1 (by omega) hxfJ rfl) ?_
            clear henv a; intro a henv
            refine tA (i := 5) [6, 8, 9, 10] (v := .pointer (some ⟨g53, 2, none⟩)) rfl (by kernel_rfl) (fun _ _ _ h => h) henv rfl (fun _ => rn_fieldAddr henv fd_anvil_api_Prog_2 (ty__api_Instr.size) (by decide) rfl) ?_
            clear henv a; intro a henv
            refine sAny_take (i := 6) [8, 9, 10] (fun w' => w'.heap[g53]? = some (.cells #[.int .i64 i2, .int .i64 g2, .slice A2 n2 c2, .slice A3 n3 c3] 25 (0, 0))) (v := .slice A2 n2 c2) rfl (by kernel_rfl) (fun _ _ _ h => h) (fun _ _ _ hS => hS.1.oat (k := 0) rfl) henv rfl (hst.oat (k := 0) rfl) (fun w' hg => rn_load1 henv ty__api_Instr rfl hg rfl) ?_
            clear henv a; intro a henv
            refine tM (i := 7) [8, 9, 10] rfl (by kernel_rfl) (fun _ _ _ h => h) henv rfl rfl ?_
            clear henv a; intro a henv
            refine sAny_take (i := 8) [9, 10] (fun w' => (pfRow fJ FJ 5 A2 n2 c2 es2).P w') (v := .pointer (some ⟨ab A2, ao A2 + j * 5, none⟩)) rfl (by kernel_rfl) (fun _ _ _ h => h) (fun _ _ _ hS => hS.1.pat (k := 1) rfl) henv rfl (hst.pat (k := 1) rfl) (fun w' hg => rn_idxR (i := j) henv Tryd.underlying22 (ty_anvil_api_Instr.size) rfl rfl (by omega) rfl (show (pfRow fJ FJ 5 A2 n2 c2 es2).P _ from hg).1) ?_
            clear henv a; intro a henv
            refine sAny_take (i := 9) [10] (fun w' => (pfRow fJ FJ 5 A2 n2 c2 es2).P w') (v := .agg #[.int .i64 b1, .int .i64 b2, .int .i64 b3, .int .i64 b4, .int .i64 b5]) rfl (by kernel_rfl) (fun _ _ _ h => h) (fun _ _ _ hS => hS.1.pat (k := 1) rfl) henv rfl (hst.pat (k := 1) rfl) (fun w' hg => rn_loadE (i := j) (e := (b1, b2, b3, b4, b5)) henv ty_anvil_api_Instr rfl rfl fJ_len (show (pfRow fJ FJ 5 A2 n2 c2 es2).P _ from hg).1 (by omega) hyfJ rfl) ?_
            clear henv a; intro a henv
            refine tA (i := 10) [] (v := .bool (!decide ([a1, a2, a3, a4, a5] = [b1, b2, b3, b4, b5]))) rfl (by kernel_rfl) (fun _ _ _ h => h) henv rfl (fun _ => rn_neqI [a1, a2, a3, a4, a5] [b1, b2, b3, b4, b5] henv instrI rfl rfl rfl rfl) ?_
            clear henv a; intro a henv
            refine sAny_done (by kernel_rfl) ?_ _
            refine th_n ?_
            refine if_split henv rfl (fun hc70 => ?_) (fun hc70 => ?_)
            · have hne : ¬ (es0 = es2) := fun q => by rw [q] at hxfJ; rw [hxfJ] at hyfJ; exact of_decide_eq_false (bnot_t hc70) (by injection hyfJ with q; injection q with q1 q; injection q with q2 q; injection q with q3 q; injection q with q4 q5; rw [q1, q2, q3, q4, q5])
              refine wp_seq ?_
              refine region_seq ?_
              refine sv (v := .bool false) henv rfl (rn_assign henv rfl) ?_
              clear henv a; intro a henv
              refine wpList_nil ?_
              refine th_n ?_
              refine wp_ret ?_
              refine bl_r (th_r (th_r (bl_r (th_r ?_))))
              refine leave henv (res1 Tryd.results16 (RV.tmp henv rfl)) ?_
              exact ⟨by rw [decide_eq_false (fun q => by obtain ⟨q1, q2, q3, q4⟩ := q; contradiction)], hst.below⟩
            · have heq : ((a1, a2, a3, a4, a5) : IE) = (b1, b2, b3, b4, b5) := by have q := of_decide_eq_true (bnot_f hc70); simp only [List.cons.injEq, and_true] at q; obtain ⟨q1, q2, q3, q4, q5⟩ := q; rw [q1, q2, q3, q4, q5]
              refine wp_skip ?_
              refine bl_n (th_n ?_)
              refine region_seq ?_
              revert a
              refine mA rfl rfl ?_
              refine sA (v := .int .i64 (j + 1 : Nat)) rfl (fun _ henv => rn_add henv rfl rfl (by rw [IntWalk.i64_in _ (by omega)]; omega)) ?_
              refine aA rfl rfl ?_
              intro a henv
              refine wpList_nil ?_
              exact th_n ⟨_, (by omega), ⟨j + 1, rfl, henv.sub ⟨rfl, rfl, rfl, trivial⟩, hst.pick [0, 1] [0, 1, 2, 3] (by decide), (by omega), (by rw [take_one hxfJ, take_one hyfJ, hefJ, heq])⟩⟩
          · have hjfJ : j = n0 := by have := of_decide_eq_false hc68; omega
            have hsfJ : es0 = es2 := by rw [List.take_of_length_le (by omega), List.take_of_length_le (by omega)] at hefJ; exact hefJ
            refine wp_exit ?_
            refine th_x (th_x (bl_x (th_n ?_)))
            refine wp_seq ?_
            refine wp_seq ?_
            refine region_seq ?_
            refine sv (v := .int .i64 0) henv rfl (rn_assign henv rfl) ?_
            clear henv a; intro a henv
            refine wpList_nil ?_
            refine th_n ?_
            refine wp_block ?_
            refine wp_loop_ghost (fun mz a w => ∃ j : Nat, n1 - j = mz ∧ Env 73 a [(2, .pointer (some ⟨g51, 0, none⟩)), (3, .pointer (some ⟨g53, 0, none⟩)), (6, .int .i64 (j : Nat))] ∧ St w0 w [bk g53 #[.int .i64 i2, .int .i64 g2, .slice A2 n2 c2, .slice A3 n3 c3] 25, bk g51 #[.int .i64 i, .int .i64 g, .slice A0 n0 c0, .slice A1 n1 c1] 25] [pfRow fI FI 1 A3 n3 c3 es3, pfRow fJ FJ 5 A2 n2 c2 es2, pfRow fI FI 1 A1 n1 c1 es1, pfRow fJ FJ 5 A0 n0 c0 es0] ∧ j ≤ n1 ∧ es1.take j = es3.take j) _ ⟨0, rfl, henv.sub ⟨rfl, rfl, rfl, trivial⟩, hst.pick [0, 1] [0, 1, 2, 3] (by decide), (Nat.zero_le _), rfl⟩ ?_
            clear henv hst a
            rintro mz a w71 ⟨j, rfl, henv, hst, hj, hefI⟩
            refine wp_seq ?_
            refine wp_seq ?_
            refine region_seq ?_
            revert a
            refine mA rfl rfl ?_
            refine sA (v := .pointer (some ⟨g51, 3, none⟩)) rfl (fun _ henv => rn_fieldAddr henv fd_anvil_api_Prog_3 (ty__int.size) (by decide) rfl) ?_
            refine sA (v := .slice A1 n1 c1) rfl (fun _ henv => rn_load1 henv ty__int rfl (hst.oat (k := 1) rfl) rfl) ?_
            refine sA (v := .int .i64 (n1 : Nat)) rfl (fun _ henv => rn_len henv Tryd.underlying23 rfl) ?_
            refine sA (v := .bool (decide (((j : Nat) : Int) < ((n1 : Nat) : Int)))) rfl (fun _ henv => rn_bin henv rfl rfl rfl) ?_
            intro a henv
            refine wpList_nil ?_
            refine th_n ?_
            refine if_split henv rfl (fun hc72 => ?_) (fun hc72 => ?_)
            · have hlt : j < n1 := by have := of_decide_eq_true hc72; omega
              obtain ⟨x, hxfI⟩ : ∃ e, es1[j]? = some e := ⟨_, List.getElem?_eq_getElem (by omega)⟩
              obtain ⟨y, hyfI⟩ : ∃ e, es3[j]? = some e := ⟨_, List.getElem?_eq_getElem (by omega)⟩
              refine wp_skip ?_
              refine th_n ?_
              refine wp_seq ?_
              refine wp_block ?_
              refine wp_seq ?_
              refine region_any (n := 11) (Sk [bk g53 #[.int .i64 i2, .int .i64 g2, .slice A2 n2 c2, .slice A3 n3 c3] 25, bk g51 #[.int .i64 i, .int .i64 g, .slice A0 n0 c0, .slice A1 n1 c1] 25] [pfRow fI FI 1 A3 n3 c3 es3, pfRow fJ FJ 5 A2 n2 c2 es2, pfRow fI FI 1 A1 n1 c1 es1, pfRow fJ FJ 5 A0 n0 c0 es0] [] []) mixed rfl henv hst ?_
              clear henv hst; intro w73 henv hst
              refine tA (i := 0) [1, 3, 4, 10] (v := .pointer (some ⟨g51, 3, none⟩)) rfl (by kernel_rfl) (fun _ _ _ h => h) henv rfl (fun _ => rn_fieldAddr henv fd_anvil_api_Prog_3 (ty__int.size) (by decide) rfl) ?_
              clear henv a; intro a henv
              refine sAny_take (i := 1) [3, 4, 10] (fun w' => w'.heap[g51]? = some (.cells #[.int .i64 i, .int .i64 g, .slice A0 n0 c0, .slice A1 n1 c1] 25 (0, 0))) (v := .slice A1 n1 c1) rfl (by kernel_rfl) (fun _ _ _ h => h) (fun _ _ _ hS => hS.1.oat (k := 1) rfl) henv rfl (hst.oat (k := 1) rfl) (fun w' hg => rn_load1 henv ty__int rfl hg rfl) ?_
              clear henv a; intro a henv
              refine tM (i := 2) [3, 4, 10] rfl (by kernel_rfl) (fun _ _ _ h => h) henv rfl rfl ?_
              clear henv a; intro a henv
              refine sAny_take (i := 3) [4, 10] (fun w' => (pfRow fI FI 1 A1 n1 c1 es1).P w') (v := .pointer (some ⟨ab A1, ao A1 + j * 1, none⟩)) rfl (by kernel_rfl) (fun _ _ _ h => h) (fun _ _ _ hS => hS.1.pat (k := 2) rfl) henv rfl (hst.pat (k := 2) rfl) (fun w' hg => rn_idxR (i := j) henv Tryd.underlying23 (ty_int.size) rfl rfl (by omega) rfl (show (pfRow fI FI 1 A1 n1 c1 es1).P _ from hg).1) ?_
              clear henv a; intro a henv
              refine sAny_take (i := 4) [10] (fun w' => (pfRow fI FI 1 A1 n1 c1 es1).P w') (v := .int .i64 x) rfl (by kernel_rfl) (fun _ _ _ h => h) (fun _ _ _ hS => hS.1.pat (k := 2) rfl) henv rfl (hst.pat (k := 2) rfl) (fun w' hg => rn_loadE1 (i := j) (j := 0) (e := x) henv ty_int rfl rfl fI_len (by decide) (show (pfRow fI FI 1 A1 n1 c1 es1).P _ from hg).1 (by omega) hxfI rfl) ?_
              clear henv a; intro a henv
              refine tA (i := 5) [6, 8, 9, 10] (v := .pointer (some ⟨g53, 3, none⟩)) rfl (by kernel_rfl) (fun _ _ _ h => h) henv rfl (fun _ => rn_fieldAddr henv fd_anvil_api_Prog_3 (ty__int.size) (by decide) rfl) ?_
              clear henv a; intro a henv
              refine sAny_take (i := 6) [8, 9, 10] (fun w' => w'.heap[g53]? = some (.cells #[.int .i64 i2, .int .i64 g2, .slice A2 n2 c2, .slice A3 n3 c3] 25 (0, 0))) (v := .slice A3 n3 c3) rfl (by kernel_rfl) (fun _ _ _ h => h) (fun _ _ _ hS => hS.1.oat (k := 0) rfl) henv rfl (hst.oat (k := 0) rfl) (fun w' hg => rn_load1 henv ty__int rfl hg rfl) ?_
              clear henv a; intro a henv
              refine tM (i := 7) [8, 9, 10] rfl (by kernel_rfl) (fun _ _ _ h => h) henv rfl rfl ?_
              clear henv a; intro a henv
              refine sAny_take (i := 8) [9, 10] (fun w' => (pfRow fI FI 1 A3 n3 c3 es3).P w') (v := .pointer (some ⟨ab A3, ao A3 + j * 1, none⟩)) rfl (by kernel_rfl) (fun _ _ _ h => h) (fun _ _ _ hS => hS.1.pat (k := 0) rfl) henv rfl (hst.pat (k := 0) rfl) (fun w' hg => rn_idxR (i := j) henv Tryd.underlying23 (ty_int.size) rfl rfl (by omega) rfl (show (pfRow fI FI 1 A3 n3 c3 es3).P _ from hg).1) ?_
              clear henv a; intro a henv
              refine sAny_take (i := 9) [10] (fun w' => (pfRow fI FI 1 A3 n3 c3 es3).P w') (v := .int .i64 y) rfl (by kernel_rfl) (fun _ _ _ h => h) (fun _ _ _ hS => hS.1.pat (k := 0) rfl) henv rfl (hst.pat (k := 0) rfl) (fun w' hg => rn_loadE1 (i := j) (j := 0) (e := y) henv ty_int rfl rfl fI_len (by decide) (show (pfRow fI FI 1 A3 n3 c3 es3).P _ from hg).1 (by omega) hyfI rfl) ?_
              clear henv a; intro a henv
              refine tA (i := 10) [] (v := .bool (x != y)) rfl (by kernel_rfl) (fun _ _ _ h => h) henv rfl (fun _ => rn_bin henv rfl rfl rfl) ?_
              clear henv a; intro a henv
              refine sAny_done (by kernel_rfl) ?_ _
              refine th_n ?_
              refine if_split henv rfl (fun hc74 => ?_) (fun hc74 => ?_)
              · have hne : ¬ (es1 = es3) := fun q => by rw [q] at hxfI; rw [hxfI] at hyfI; exact bne_yes hc74 (Option.some.inj hyfI)
                refine wp_seq ?_
                refine region_seq ?_
                refine sv (v := .bool false) henv rfl (rn_assign henv rfl) ?_
                clear henv a; intro a henv
                refine wpList_nil ?_
                refine th_n ?_
                refine wp_ret ?_
                refine bl_r (th_r (th_r (bl_r (th_r ?_))))
                refine leave henv (res1 Tryd.results16 (RV.tmp henv rfl)) ?_
                exact ⟨by rw [decide_eq_false (fun q => by obtain ⟨q1, q2, q3, q4⟩ := q; contradiction)], hst.below⟩
              · have heq : x = y := bne_no hc74
                refine wp_skip ?_
                refine bl_n (th_n ?_)
                refine region_seq ?_
                revert a
                refine mA rfl rfl ?_
                refine sA (v := .int .i64 (j + 1 : Nat)) rfl (fun _ henv => rn_add henv rfl rfl (by rw [IntWalk.i64_in _ (by omega)]; omega)) ?_
                refine aA rfl rfl ?_
                intro a henv
                refine wpList_nil ?_
                exact th_n ⟨_, (by omega), ⟨j + 1, rfl, henv.sub ⟨rfl, rfl, rfl, trivial⟩, hst.pick [0, 1] [0, 1, 2, 3] (by decide), (by omega), (by rw [take_one hxfI, take_one hyfI, hefI, heq])⟩⟩
            · have hjfI : j = n1 := by have := of_decide_eq_false hc72; omega
              have hsfI : es1 = es3 := by rw [List.take_of_length_le (by omega), List.take_of_length_le (by omega)] at hefI; exact hefI
              refine wp_exit ?_
              refine th_x (th_x (bl_x (th_n ?_)))
              refine wp_seq ?_
              refine region_seq ?_
              refine sv (v := .bool true) henv rfl (rn_assign henv rfl) ?_
              clear henv a; intro a henv
              refine wpList_nil ?_
              refine th_n ?_
              refine wp_ret ?_
              refine leave henv (res1 Tryd.results16 (RV.tmp henv rfl)) ?_
              exact ⟨by rw [decide_eq_true (show (i = i2 ∧ g = g2 ∧ es0 = es2 ∧ es1 = es3) from ⟨by assumption, by assumption, hsfJ, hsfI⟩)], hst.below⟩
end Go.Proofs.YtbdngknpngcojaaDoor.W

/- Copy; ProgCopies. Printed by pv/gen_g4.py. No condition. -/
namespace Go.Proofs.YtbdngknpngcojaaDoor.W
open Go.RowKit Anv Go.Lib
section
variable {N : Nat} {dq : List Deferred} {a : Act} {l : List (Nat × Value)} {w : World} {d : Nat} {ty : TypeId} {pos : String} {af : Array Edge} {gd : Option (Nat × Bool)}
end
def TwoR (b0 : Nat) (w : World) (A : Option Addr) (n c : Nat) (es : List IE) (B : Option Addr) (m d : Nat) (os : List Int) : Prop :=
  NewRow notU 37 5 fJ FJ b0 w A n c es ∧ NewRow notU 3 1 fI FI b0 w B m d os ∧ ∀ a b, A = some a → B = some b → a.block ≠ b.block
abbrev V5 := Value × Value × Value × Value × Value
def fV5 (p : V5) : List Value := [p.1, p.2.1, p.2.2.1, p.2.2.2.1, p.2.2.2.2]
def fV1 (v : Value) : List Value := [v]
end Go.Proofs.YtbdngknpngcojaaDoor.W

/- prog.moved, Depth. Printed by pv/gen_g5.py. No condition. -/
namespace Go.Proofs.YtbdngknpngcojaaDoor.W
open Go.RowKit Anv Go.Lib
section
variable {N : Nat} {dq : List Deferred} {a : Act} {l : List (Nat × Value)} {w : World} {d : Nat} {ty : TypeId} {pos : String} {af : Array Edge} {gd : Option (Nat × Bool)}
end
def mvB (op rb g : Int) : Int := if op = 3 ∨ op = 4 then rb + g else rb
def mvI (g : Int) (e : IE) : IE := (e.1, e.2.1 + g, e.2.2.1 + g, mvB e.1 e.2.2.2.1 g, e.2.2.2.2)
def mxL (d : List Int) (l : List Int) : Int := l.foldl (fun m r => max m (d.getD r.toNat 0)) 0
def dstep (d : List Int) (e : IE) : List Int := d.set e.2.1.toNat (mxL d (asksL e.1 e.2.2.1 e.2.2.2.1) + 1)
def dpt (g : Nat) (es : List IE) (os : List Int) : Int := mxL (es.foldl dstep (List.replicate g 0)) os
end Go.Proofs.YtbdngknpngcojaaDoor.W

/- Plain laws of programs joined: they may be, and how deep they are. No program. No condition. -/
namespace Go.Proofs.YtbdngknpngcojaaDoor.W
open Go.RowKit Anv Go.Lib
def moveI (g : Int) (os : List Int) (k : Nat) : IE := (1, g + (k : Nat), os.getD k 0, 0, 0)
def jnC (g : Int) (es : List IE) (os : List Int) (es2 : List IE) : List IE := (es ++ (List.range os.length).map (moveI g os)) ++ es2.map (mvI g)
def jnO (g : Int) (os : List Int) : List Int := os.map (· + g)
end Go.Proofs.YtbdngknpngcojaaDoor.W

/- Join; ProgJoins. Printed by pv/gen_g6.py. No condition. -/
namespace Go.Proofs.YtbdngknpngcojaaDoor.W
open Go.RowKit Anv Go.Lib
section
variable {N : Nat} {dq : List Deferred} {a : Act} {l : List (Nat × Value)} {w : World} {d : Nat} {ty : TypeId} {pos : String} {af : Array Edge} {gd : Option (Nat × Bool)}
end
end Go.Proofs.YtbdngknpngcojaaDoor.W

/- ProgNames. Printed by pv/gen_gE.py. No condition. -/
namespace Go.Proofs.YtbdngknpngcojaaDoor.W
open Go.RowKit Anv Go.Lib
def fY (b : UInt8) : List Value := [.int .u8 (b.toNat : Nat)]
def FY (_ : UInt8) : PF := pfT0
theorem fY_len (b : UInt8) : (fY b).length = 1 := rfl
section
variable {N : Nat} {dq : List Deferred} {a : Act} {l : List (Nat × Value)} {w : World} {d : Nat} {ty : TypeId} {pos : String} {af : Array Edge} {gd : Option (Nat × Bool)}
end
end Go.Proofs.YtbdngknpngcojaaDoor.W

/- Plain laws: which instructions of a program are needed. No program. No condition. -/
namespace Go.Proofs.YtbdngknpngcojaaDoor.W
open Go.RowKit Anv Go.Lib
def fO (b : Bool) : List Value := [.bool b]
def FO (_ : Bool) : PF := pfT0
def askE (e : IE) : List Int := asksL e.1 e.2.2.1 e.2.2.2.1
def ndF (os : List Int) : List IE → List Bool × (Int → Bool)
  | [] => ([], fun r => decide (r ∈ os))
  | e :: l => if (ndF os l).2 e.2.1 then (true :: (ndF os l).1, fun r => decide (r ∈ askE e) || (!decide (r = e.2.1) && (ndF os l).2 r)) else (false :: (ndF os l).1, (ndF os l).2)
def scR (os : List Int) (r : Int) : List IE → List Bool → Bool
  | e :: l, b :: bs => (decide (r ∈ askE e) && b) || (!decide (e.2.1 = r) && scR os r l bs)
  | _, _ => decide (r ∈ os)
def ndT (os : List Int) (es : List IE) (t : Nat) : List Bool := List.replicate t false ++ (ndF os (es.drop t)).1
def akT (g : Nat) (f : Int → Bool) : List Bool := (List.range g).map fun r => f (r : Nat)
def mkF (f : Int → Bool) (l : List Int) (r : Int) : Bool := f r || decide (r ∈ l)
def kpF (os : List Int) : List IE → List IE
  | [] => []
  | e :: l => if (ndF os l).2 e.2.1 then e :: kpF os l else kpF os l
end Go.Proofs.YtbdngknpngcojaaDoor.W

/- anvilref08.Needed. Printed by pv/gen_gB.py. No condition. -/
namespace Go.Proofs.YtbdngknpngcojaaDoor.W
open Go.RowKit Anv Go.Lib
end Go.Proofs.YtbdngknpngcojaaDoor.W
