/- Programs held against each other, copied. Printed by pv/gen_g3.py. No condition. -/
import Derived.Test.YtbdngknpngcojaaDoorM47
import Derived.Test.YtbdngknpngcojaaDoorM15
import Derived.Test.YtbdngknpngcojaaDoorM40
import Derived.Test.YtbdngknpngcojaaDoorM48

namespace Go.Proofs.YtbdngknpngcojaaDoor.W
open Go.RowKit Anv Go.Lib
theorem instrI : IntS Tryd.prog 37 5 := ⟨by kernel_rfl, by kernel_rfl, by kernel_rfl, by kernel_rfl, by kernel_rfl⟩
theorem row_none {α : Type} {f : α → List Value} {F : α → PF} {z n c : Nat} {A : Option Addr} {es : List α} {w : World} (h : (pfRow f F z A n c es).P w) (hA : A = none) : n = 0 := by
  subst hA
  rcases Nat.eq_zero_or_pos n with h0 | h0
  · exact h0
  · obtain ⟨b, off, e, _⟩ := h.1.cells h0
    cases e
theorem newrow_nil {α : Type} {f : α → List Value} {F : α → PF} {E z B : Nat} {w : World} : NewRow notU E z f F B w none 0 0 [] :=
  ⟨⟨World.ownsRow_nil w 0 E z, fun g hg => by simp [Value.ownBlock] at hg⟩, es_nil F w, fun a h => by cases h⟩
theorem newrow_of {α : Type} {f : α → List Value} {F : α → PF} {E z B n m c : Nat} {A : Option Addr} {es : List α} {w : World} (h : (rowS notU E z A n c (fl f es)).P w) (hf : ∀ b, (rowS notU E z A n c (fl f es)).foot b → B ≤ b) (hn : n = m) (hE : (pfEs F es).P w := by exact fun _ _ => trivial) : NewRow notU E z f F B w A m c es := by
  subst hn
  exact ⟨h, hE, fun a ha => hf _ (by subst ha; rfl)⟩
set_option maxRecDepth 100000 in
set_option maxHeartbeats 2000000 in
theorem g_eqJ {A0 A1 : Option Addr} {n0 c0 n1 c1 : Nat} {es0 : List IE} {es1 : List IE} {w0 : World} (h0 : (pfRow fJ FJ 5 A0 n0 c0 es0).P w0) (h1 : (pfRow fJ FJ 5 A1 n1 c1 es1).P w0) :
    Calls Tryd.prog 39 #[.slice A0 n0 c0, .slice A1 n1 c1] w0 fun e w' => e = .returned (.bool (decide (es0 = es1))) ∧ Below w0.heap.size w0 w' := by
  refine enter Tryd.func39 rfl Tryd.ntmps39 rfl ?_
  intro a henv hst
  have hlen0 := h0.2.1
  have hbig0 := Nat.le_trans h0.1.cap h0.1.big
  unfold maxLen at hbig0
  have hlen1 := h1.2.1
  have hbig1 := Nat.le_trans h1.1.cap h1.1.big
  unfold maxLen at hbig1
  replace hst := hst.argRow h0
  replace hst := hst.argRow h1
  clear h0 h1
  refine wp_seq ?_
  refine region_seq ?_
  refine sv (v := .bool false) henv rfl (rn_assign henv rfl) ?_
  clear henv a; intro a henv
  refine wpList_nil ?_
  refine th_n ?_
  refine wp_seq ?_
  refine wp_seq ?_
  refine region_seq ?_
  revert a
  refine mA rfl rfl ?_
  refine sA (v := .int .i64 (n0 : Nat)) rfl (fun _ henv => rn_len henv Tryd.underlying22 rfl) ?_
  refine mA rfl rfl ?_
  refine sA (v := .int .i64 (n1 : Nat)) rfl (fun _ henv => rn_len henv Tryd.underlying22 rfl) ?_
  refine sA (v := .bool (((n0 : Nat) : Int) != ((n1 : Nat) : Int))) rfl (fun _ henv => rn_bin henv rfl rfl rfl) ?_
  intro a henv
  refine wpList_nil ?_
  refine th_n ?_
  refine if_split henv rfl (fun hc51 => ?_) (fun hc51 => ?_)
  · have hx52 := bne_yes hc51
    have hne : ¬ (es0 = es1) := fun q => hx52 (by rw [← hlen0, ← hlen1, q])
    refine wp_seq ?_
    refine region_seq ?_
    refine sv (v := .bool false) henv rfl (rn_assign henv rfl) ?_
    clear henv a; intro a henv
    refine wpList_nil ?_
    refine th_n ?_
    refine wp_ret ?_
    refine th_r ?_
    refine leave henv (res1 Tryd.results39 (RV.tmp henv rfl)) ?_
    exact ⟨by rw [decide_eq_false hne], hst.below⟩
  · have hx53 := bne_no hc51
    have hnnfJ : n0 = n1 := by omega
    refine wp_skip ?_
    refine th_n ?_
    refine wp_seq ?_
    refine wp_seq ?_
    refine region_seq ?_
    revert a
    refine mA rfl rfl ?_
    refine sA (v := .int .i64 (n0 : Nat)) rfl (fun _ henv => rn_len henv Tryd.underlying22 rfl) ?_
    refine mA rfl rfl ?_
    intro a henv
    refine wpList_nil ?_
    refine th_n ?_
    refine wp_block ?_
    refine wp_loop_ghost (fun mz a w => ∃ j : Nat, n0 - j = mz ∧ Env 26 a [(0, .slice A0 n0 c0), (1, .slice A1 n1 c1), (12, .int .i64 (n0 : Nat)), (13, .int .i64 (j : Nat))] ∧ St w0 w [] [pfRow fJ FJ 5 A1 n1 c1 es1, pfRow fJ FJ 5 A0 n0 c0 es0] ∧ j ≤ n0 ∧ es0.take j = es1.take j) _ ⟨0, rfl, henv.sub ⟨rfl, rfl, rfl, rfl, trivial⟩, hst.pick [] [0, 1] (by decide), (Nat.zero_le _), rfl⟩ ?_
    clear henv hst a
    rintro mz a w54 ⟨j, rfl, henv, hst, hj, hefJ⟩
    refine wp_seq ?_
    refine region_seq ?_
    refine sv (v := .bool (decide (((j : Nat) : Int) < ((n0 : Nat) : Int)))) henv rfl (rn_bin henv rfl rfl rfl) ?_
    clear henv a; intro a henv
    refine wpList_nil ?_
    refine th_n ?_
    refine wp_seq ?_
    refine if_split henv rfl (fun hc55 => ?_) (fun hc55 => ?_)
    · have hlt : j < n0 := by have := of_decide_eq_true hc55; omega
      obtain ⟨⟨a1, a2, a3, a4, a5⟩, hxfJ⟩ : ∃ e, es0[j]? = some e := ⟨_, List.getElem?_eq_getElem (by omega)⟩
      obtain ⟨⟨b1, b2, b3, b4, b5⟩, hyfJ⟩ : ∃ e, es1[j]? = some e := ⟨_, List.getElem?_eq_getElem (by omega)⟩
      refine wp_skip ?_
      refine th_n ?_
      refine wp_seq ?_
      refine wp_block ?_
      refine wp_seq ?_
      refine region_seq ?_
      revert a
      refine mA rfl rfl ?_
      refine aA rfl rfl ?_
      intro a henv
      refine wpList_nil ?_
      refine th_n ?_
      refine wp_seq ?_
      refine region_any (n := 9) (Sk [] [pfRow fJ FJ 5 A1 n1 c1 es1, pfRow fJ FJ 5 A0 n0 c0 es0] [] []) mixed rfl henv hst ?_
      clear henv hst; intro w56 henv hst
      refine tM (i := 0) [2, 3, 8] rfl (by kernel_rfl) (fun _ _ _ h => h) henv rfl rfl ?_
      clear henv a; intro a henv
      refine tM (i := 1) [2, 3, 8] rfl (by kernel_rfl) (fun _ _ _ h => h) henv rfl rfl ?_
      clear henv a; intro a henv
      refine sAny_take (i := 2) [3, 8] (fun w' => (pfRow fJ FJ 5 A0 n0 c0 es0).P w') (v := .pointer (some ⟨ab A0, ao A0 + j * 5, none⟩)) rfl (by kernel_rfl) (fun _ _ _ h => h) (fun _ _ _ hS => hS.1.pat (k := 1) rfl) henv rfl (hst.pat (k := 1) rfl) (fun w' hg => rn_idxR (i := j) henv Tryd.underlying22 (ty_anvil_api_Instr.size) rfl rfl (by omega) rfl (show (pfRow fJ FJ 5 A0 n0 c0 es0).P _ from hg).1) ?_
      clear henv a; intro a henv
      refine sAny_take (i := 3) [8] (fun w' => (pfRow fJ FJ 5 A0 n0 c0 es0).P w') (v := .agg #[.int .i64 a1, .int .i64 a2, .int .i64 a3, .int .i64 a4, .int .i64 a5]) rfl (by kernel_rfl) (fun _ _ _ h => h) (fun _ _ _ hS => hS.1.pat (k := 1) rfl) henv rfl (hst.pat (k := 1) rfl) (fun w' hg => rn_loadE (i := j) (e := (a1, a2, a3, a4, a5)) henv ty_anvil_api_Instr rfl rfl fJ_len (show (pfRow fJ FJ 5 A0 n0 c0 es0).P _ from hg).1 (by omega) hxfJ rfl) ?_
      clear henv a; intro a henv
      refine tM (i := 4) [6, 7, 8] rfl (by kernel_rfl) (fun _ _ _ h => h) henv rfl rfl ?_
      clear henv a; intro a henv
      refine tM (i := 5) [6, 7, 8] rfl (by kernel_rfl) (fun _ _ _ h => h) henv rfl rfl ?_
      clear henv a; intro a henv
      refine sAny_take (i := 6) [7, 8] (fun w' => (pfRow fJ FJ 5 A1 n1 c1 es1).P w') (v := .pointer (some ⟨ab A1, ao A1 + j * 5, none⟩)) rfl (by kernel_rfl) (fun _ _ _ h => h) (fun _ _ _ hS => hS.1.pat (k := 0) rfl) henv rfl (hst.pat (k := 0) rfl) (fun w' hg => rn_idxR (i := j) henv Tryd.underlying22 (ty_anvil_api_Instr.size) rfl rfl (by omega) rfl (show (pfRow fJ FJ 5 A1 n1 c1 es1).P _ from hg).1) ?_
      clear henv a; intro a henv
      refine sAny_take (i := 7) [8] (fun w' => (pfRow fJ FJ 5 A1 n1 c1 es1).P w') (v := .agg #[.int .i64 b1, .int .i64 b2, .int .i64 b3, .int .i64 b4, .int .i64 b5]) rfl (by kernel_rfl) (fun _ _ _ h => h) (fun _ _ _ hS => hS.1.pat (k := 0) rfl) henv rfl (hst.pat (k := 0) rfl) (fun w' hg => rn_loadE (i := j) (e := (b1, b2, b3, b4, b5)) henv ty_anvil_api_Instr rfl rfl fJ_len (show (pfRow fJ FJ 5 A1 n1 c1 es1).P _ from hg).1 (by omega) hyfJ rfl) ?_
      clear henv a; intro a henv
      refine tA (i := 8) [] (v := .bool (!decide ([a1, a2, a3, a4, a5] = [b1, b2, b3, b4, b5]))) rfl (by kernel_rfl) (fun _ _ _ h => h) henv rfl (fun _ => rn_neqI [a1, a2, a3, a4, a5] [b1, b2, b3, b4, b5] henv instrI rfl rfl rfl rfl) ?_
      clear henv a; intro a henv
      refine sAny_done (by kernel_rfl) ?_ _
      refine th_n ?_
      refine if_split henv rfl (fun hc57 => ?_) (fun hc57 => ?_)
      · have hne : ¬ (es0 = es1) := fun q => by rw [q] at hxfJ; rw [hxfJ] at hyfJ; exact of_decide_eq_false (bnot_t hc57) (by injection hyfJ with q; injection q with q1 q; injection q with q2 q; injection q with q3 q; injection q with q4 q5; rw [q1, q2, q3, q4, q5])
        refine wp_seq ?_
        refine region_seq ?_
        refine sv (v := .bool false) henv rfl (rn_assign henv rfl) ?_
        clear henv a; intro a henv
        refine wpList_nil ?_
        refine th_n ?_
        refine wp_ret ?_
        refine bl_r (th_r (th_r (bl_r (th_r ?_))))
        refine leave henv (res1 Tryd.results39 (RV.tmp henv rfl)) ?_
        exact ⟨by rw [decide_eq_false hne], hst.below⟩
      · have heq : ((a1, a2, a3, a4, a5) : IE) = (b1, b2, b3, b4, b5) := by have q := of_decide_eq_true (bnot_f hc57); simp only [List.cons.injEq, and_true] at q; obtain ⟨q1, q2, q3, q4, q5⟩ := q; rw [q1, q2, q3, q4, q5]
        refine wp_skip ?_
        refine bl_n (th_n ?_)
        refine region_seq ?_
        revert a
        refine sA (v := .int .i64 (j + 1 : Nat)) rfl (fun _ henv => rn_add henv rfl rfl (by rw [IntWalk.i64_in _ (by omega)]; omega)) ?_
        refine mA rfl rfl ?_
        intro a henv
        refine wpList_nil ?_
        exact th_n ⟨_, (by omega), ⟨j + 1, rfl, henv.sub ⟨rfl, rfl, rfl, rfl, trivial⟩, hst.pick [] [0, 1] (by decide), (by omega), (by rw [take_one hxfJ, take_one hyfJ, hefJ, heq])⟩⟩
    · have hjfJ : j = n0 := by have := of_decide_eq_false hc55; omega
      have hsfJ : es0 = es1 := by rw [List.take_of_length_le (by omega), List.take_of_length_le (by omega)] at hefJ; exact hefJ
      refine wp_exit ?_
      refine th_x (th_x (bl_x (th_n ?_)))
      refine wp_seq ?_
      refine region_seq ?_
      refine sv (v := .bool true) henv rfl (rn_assign henv rfl) ?_
      clear henv a; intro a henv
      refine wpList_nil ?_
      refine th_n ?_
      refine wp_ret ?_
      refine leave henv (res1 Tryd.results39 (RV.tmp henv rfl)) ?_
      exact ⟨by rw [decide_eq_true hsfJ], hst.below⟩
set_option maxRecDepth 100000 in
set_option maxHeartbeats 2000000 in
theorem g_eqI {A0 A1 : Option Addr} {n0 c0 n1 c1 : Nat} {es0 : List Int} {es1 : List Int} {w0 : World} (h0 : (pfRow fI FI 1 A0 n0 c0 es0).P w0) (h1 : (pfRow fI FI 1 A1 n1 c1 es1).P w0) :
    Calls Tryd.prog 40 #[.slice A0 n0 c0, .slice A1 n1 c1] w0 fun e w' => e = .returned (.bool (decide (es0 = es1))) ∧ Below w0.heap.size w0 w' := by
  refine enter Tryd.func40 rfl Tryd.ntmps40 rfl ?_
  intro a henv hst
  have hlen0 := h0.2.1
  have hbig0 := Nat.le_trans h0.1.cap h0.1.big
  unfold maxLen at hbig0
  have hlen1 := h1.2.1
  have hbig1 := Nat.le_trans h1.1.cap h1.1.big
  unfold maxLen at hbig1
  replace hst := hst.argRow h0
  replace hst := hst.argRow h1
  clear h0 h1
  refine wp_seq ?_
  refine region_seq ?_
  refine sv (v := .bool false) henv rfl (rn_assign henv rfl) ?_
  clear henv a; intro a henv
  refine wpList_nil ?_
  refine th_n ?_
  refine wp_seq ?_
  refine wp_seq ?_
  refine region_seq ?_
  revert a
  refine mA rfl rfl ?_
  refine sA (v := .int .i64 (n0 : Nat)) rfl (fun _ henv => rn_len henv Tryd.underlying23 rfl) ?_
  refine mA rfl rfl ?_
  refine sA (v := .int .i64 (n1 : Nat)) rfl (fun _ henv => rn_len henv Tryd.underlying23 rfl) ?_
  refine sA (v := .bool (((n0 : Nat) : Int) != ((n1 : Nat) : Int))) rfl (fun _ henv => rn_bin henv rfl rfl rfl) ?_
  intro a henv
  refine wpList_nil ?_
  refine th_n ?_
  refine if_split henv rfl (fun hc51 => ?_) (fun hc51 => ?_)
  · have hx52 := bne_yes hc51
    have hne : ¬ (es0 = es1) := fun q => hx52 (by rw [← hlen0, ← hlen1, q])
    refine wp_seq ?_
    refine region_seq ?_
    refine sv (v := .bool false) henv rfl (rn_assign henv rfl) ?_
    clear henv a; intro a henv
    refine wpList_nil ?_
    refine th_n ?_
    refine wp_ret ?_
    refine th_r ?_
    refine leave henv (res1 Tryd.results40 (RV.tmp henv rfl)) ?_
    exact ⟨by rw [decide_eq_false hne], hst.below⟩
  · have hx53 := bne_no hc51
    have hnnfI : n0 = n1 := by omega
    refine wp_skip ?_
    refine th_n ?_
    refine wp_seq ?_
    refine wp_seq ?_
    refine region_seq ?_
    revert a
    refine mA rfl rfl ?_
    refine sA (v := .int .i64 (n0 : Nat)) rfl (fun _ henv => rn_len henv Tryd.underlying23 rfl) ?_
    refine mA rfl rfl ?_
    intro a henv
    refine wpList_nil ?_
    refine th_n ?_
    refine wp_block ?_
    refine wp_loop_ghost (fun mz a w => ∃ j : Nat, n0 - j = mz ∧ Env 26 a [(0, .slice A0 n0 c0), (1, .slice A1 n1 c1), (12, .int .i64 (n0 : Nat)), (13, .int .i64 (j : Nat))] ∧ St w0 w [] [pfRow fI FI 1 A1 n1 c1 es1, pfRow fI FI 1 A0 n0 c0 es0] ∧ j ≤ n0 ∧ es0.take j = es1.take j) _ ⟨0, rfl, henv.sub ⟨rfl, rfl, rfl, rfl, trivial⟩, hst.pick [] [0, 1] (by decide), (Nat.zero_le _), rfl⟩ ?_
    clear henv hst a
    rintro mz a w54 ⟨j, rfl, henv, hst, hj, hefI⟩
    refine wp_seq ?_
    refine region_seq ?_
    refine sv (v := .bool (decide (((j : Nat) : Int) < ((n0 : Nat) : Int)))) henv rfl (rn_bin henv rfl rfl rfl) ?_
    clear henv a; intro a henv
    refine wpList_nil ?_
    refine th_n ?_
    refine wp_seq ?_
    refine if_split henv rfl (fun hc55 => ?_) (fun hc55 => ?_)
    · have hlt : j < n0 := by have := of_decide_eq_true hc55; omega
      obtain ⟨x, hxfI⟩ : ∃ e, es0[j]? = some e := ⟨_, List.getElem?_eq_getElem (by omega)⟩
      obtain ⟨y, hyfI⟩ : ∃ e, es1[j]? = some e := ⟨_, List.getElem?_eq_getElem (by omega)⟩
      refine wp_skip ?_
      refine th_n ?_
      refine wp_seq ?_
      refine wp_block ?_
      refine wp_seq ?_
      refine region_seq ?_
      revert a
      refine mA rfl rfl ?_
      refine aA rfl rfl ?_
      intro a henv
      refine wpList_nil ?_
      refine th_n ?_
      refine wp_seq ?_
      refine region_any (n := 9) (Sk [] [pfRow fI FI 1 A1 n1 c1 es1, pfRow fI FI 1 A0 n0 c0 es0] [] []) mixed rfl henv hst ?_
      clear henv hst; intro w56 henv hst
      refine tM (i := 0) [2, 3, 8] rfl (by kernel_rfl) (fun _ _ _ h => h) henv rfl rfl ?_
      clear henv a; intro a henv
      refine tM (i := 1) [2, 3, 8] rfl (by kernel_rfl) (fun _ _ _ h => h) henv rfl rfl ?_
      clear henv a; intro a henv
      refine sAny_take (i := 2) [3, 8] (fun w' => (pfRow fI FI 1 A0 n0 c0 es0).P w') (v := .pointer (some ⟨ab A0, ao A0 + j * 1, none⟩)) rfl (by kernel_rfl) (fun _ _ _ h => h) (fun _ _ _ hS => hS.1.pat (k := 1) rfl) henv rfl (hst.pat (k := 1) rfl) (fun w' hg => rn_idxR (i := j) henv Tryd.underlying23 (ty_int.size) rfl rfl (by omega) rfl (show (pfRow fI FI 1 A0 n0 c0 es0).P _ from hg).1) ?_
      clear henv a; intro a henv
      refine sAny_take (i := 3) [8] (fun w' => (pfRow fI FI 1 A0 n0 c0 es0).P w') (v := .int .i64 x) rfl (by kernel_rfl) (fun _ _ _ h => h) (fun _ _ _ hS => hS.1.pat (k := 1) rfl) henv rfl (hst.pat (k := 1) rfl) (fun w' hg => rn_loadE1 (i := j) (j := 0) (e := x) henv ty_int rfl rfl fI_len (by decide) (show (pfRow fI FI 1 A0 n0 c0 es0).P _ from hg).1 (by omega) hxfI rfl) ?_
      clear henv a; intro a henv
      refine tM (i := 4) [6, 7, 8] rfl (by kernel_rfl) (fun _ _ _ h => h) henv rfl rfl ?_
      clear henv a; intro a henv
      refine tM (i := 5) [6, 7, 8] rfl (by kernel_rfl) (fun _ _ _ h => h) henv rfl rfl ?_
      clear henv a; intro a henv
      refine sAny_take (i := 6) [7, 8] (fun w' => (pfRow fI FI 1 A1 n1 c1 es1).P w') (v := .pointer (some ⟨ab A1, ao A1 + j * 1, none⟩)) rfl (by kernel_rfl) (fun _ _ _ h => h) (fun _ _ _ hS => hS.1.pat (k := 0) rfl) henv rfl (hst.pat (k := 0) rfl) (fun w' hg => rn_idxR (i := j) henv Tryd.underlying23 (ty_int.size) rfl rfl (by omega) rfl (show (pfRow fI FI 1 A1 n1 c1 es1).P _ from hg).1) ?_
      clear henv a; intro a henv
      refine sAny_take (i := 7) [8] (fun w' => (pfRow fI FI 1 A1 n1 c1 es1).P w') (v := .int .i64 y) rfl (by kernel_rfl) (fun _ _ _ h => h) (fun _ _ _ hS => hS.1.pat (k := 0) rfl) henv rfl (hst.pat (k := 0) rfl) (fun w' hg => rn_loadE1 (i := j) (j := 0) (e := y) henv ty_int rfl rfl fI_len (by decide) (show (pfRow fI FI 1 A1 n1 c1 es1).P _ from hg).1 (by omega) hyfI rfl) ?_
      clear henv a; intro a henv
      refine tA (i := 8) [] (v := .bool (x != y)) rfl (by kernel_rfl) (fun _ _ _ h => h) henv rfl (fun _ => rn_bin henv rfl rfl rfl) ?_
      clear henv a; intro a henv
      refine sAny_done (by kernel_rfl) ?_ _
      refine th_n ?_
      refine if_split henv rfl (fun hc57 => ?_) (fun hc57 => ?_)
      · have hne : ¬ (es0 = es1) := fun q => by rw [q] at hxfI; rw [hxfI] at hyfI; exact bne_yes hc57 (Option.some.inj hyfI)
        refine wp_seq ?_
        refine region_seq ?_
        refine sv (v := .bool false) henv rfl (rn_assign henv rfl) ?_
        clear henv a; intro a henv
        refine wpList_nil ?_
        refine th_n ?_
        refine wp_ret ?_
        refine bl_r (th_r (th_r (bl_r (th_r ?_))))
        refine leave henv (res1 Tryd.results40 (RV.tmp henv rfl)) ?_
        exact ⟨by rw [decide_eq_false hne], hst.below⟩
      · have heq : x = y := bne_no hc57
        refine wp_skip ?_
        refine bl_n (th_n ?_)
        refine region_seq ?_
        revert a
        refine sA (v := .int .i64 (j + 1 : Nat)) rfl (fun _ henv => rn_add henv rfl rfl (by rw [IntWalk.i64_in _ (by omega)]; omega)) ?_
        refine mA rfl rfl ?_
        intro a henv
        refine wpList_nil ?_
        exact th_n ⟨_, (by omega), ⟨j + 1, rfl, henv.sub ⟨rfl, rfl, rfl, rfl, trivial⟩, hst.pick [] [0, 1] (by decide), (by omega), (by rw [take_one hxfI, take_one hyfI, hefI, heq])⟩⟩
    · have hjfI : j = n0 := by have := of_decide_eq_false hc55; omega
      have hsfI : es0 = es1 := by rw [List.take_of_length_le (by omega), List.take_of_length_le (by omega)] at hefI; exact hefI
      refine wp_exit ?_
      refine th_x (th_x (bl_x (th_n ?_)))
      refine wp_seq ?_
      refine region_seq ?_
      refine sv (v := .bool true) henv rfl (rn_assign henv rfl) ?_
      clear henv a; intro a henv
      refine wpList_nil ?_
      refine th_n ?_
      refine wp_ret ?_
      refine leave henv (res1 Tryd.results40 (RV.tmp henv rfl)) ?_
      exact ⟨by rw [decide_eq_true hsfI], hst.below⟩
set_option maxRecDepth 100000 in
set_option maxHeartbeats 2000000 in
theorem g_same {i g i2 g2 : Int} {A0 A1 A2 A3 : Option Addr} {n0 c0 n1 c1 n2 c2 n3 c3 : Nat} {es0 : List IE} {es1 : List Int} {es2 : List IE} {es3 : List Int} {w0 : World} (h0 : (pfRow fJ FJ 5 A0 n0 c0 es0).P w0) (h1 : (pfRow fI FI 1 A1 n1 c1 es1).P w0) (h2 : (pfRow fJ FJ 5 A2 n2 c2 es2).P w0) (h3 : (pfRow fI FI 1 A3 n3 c3 es3).P w0) :
    Calls Tryd.prog 17 #[.agg #[.int .i64 i, .int .i64 g, .slice A0 n0 c0, .slice A1 n1 c1], .agg #[.int .i64 i2, .int .i64 g2, .slice A2 n2 c2, .slice A3 n3 c3]] w0 fun e w' => e = .returned (.bool (decide (i = i2 ∧ g = g2 ∧ es0 = es2 ∧ es1 = es3))) ∧ Below w0.heap.size w0 w' := by
  refine enter Tryd.func17 rfl Tryd.ntmps17 rfl ?_
  intro a henv hst
  have hlen0 := h0.2.1
  have hbig0 := Nat.le_trans h0.1.cap h0.1.big
  unfold maxLen at hbig0
  have hlen1 := h1.2.1
  have hbig1 := Nat.le_trans h1.1.cap h1.1.big
  unfold maxLen at hbig1
  have hlen2 := h2.2.1
  have hbig2 := Nat.le_trans h2.1.cap h2.1.big
  unfold maxLen at hbig2
  have hlen3 := h3.2.1
  have hbig3 := Nat.le_trans h3.1.cap h3.1.big
  unfold maxLen at hbig3
  replace hst := hst.argRow h0
  replace hst := hst.argRow h1
  replace hst := hst.argRow h2
  replace hst := hst.argRow h3
  clear h0 h1 h2 h3
  refine wp_seq ?_
  refine region_seq ?_
  refine seq_step rfl (op_box (c := #[.int .i64 i, .int .i64 g, .slice A0 n0 c0, .slice A1 n1 c1]) henv hst rfl rfl rfl ?_)
  clear henv hst a; intro a w52 g51 henv hst
  refine seq_step rfl (op_box (c := #[.int .i64 i2, .int .i64 g2, .slice A2 n2 c2, .slice A3 n3 c3]) henv hst rfl rfl rfl ?_)
  clear henv hst a; intro a w54 g53 henv hst
  refine sv (v := .bool false) henv rfl (rn_assign henv rfl) ?_
  clear henv a; intro a henv
  refine wpList_nil ?_
  refine th_n ?_
  refine wp_seq ?_
  refine region_seq ?_
  revert a
  refine sA (v := .pointer (some ⟨g51, 0, none⟩)) rfl (fun _ henv => rn_fieldAddr henv fd_anvil_api_Prog_0 (ty_int.size) (by decide) rfl) ?_
  refine sA (v := .int .i64 i) rfl (fun _ henv => rn_load1 henv ty_int rfl (hst.oat (k := 1) rfl) rfl) ?_
  refine sA (v := .pointer (some ⟨g53, 0, none⟩)) rfl (fun _ henv => rn_fieldAddr henv fd_anvil_api_Prog_0 (ty_int.size) (by decide) rfl) ?_
  refine sA (v := .int .i64 i2) rfl (fun _ henv => rn_load1 henv ty_int rfl (hst.oat (k := 0) rfl) rfl) ?_
  refine sA (v := .bool (i == i2)) rfl (fun _ henv => rn_bin henv rfl rfl rfl) ?_
  refine mA rfl rfl ?_
  intro a henv
  rcases bool_em (i == i2) with hg55 | hg55
  · rw [hg55] at henv
    have hx56 := eq_of_beq hg55
    revert a
    refine gA (v := .pointer (some ⟨g51, 1, none⟩)) rfl rfl rfl rfl (fun _ henv => rn_fieldAddr henv fd_anvil_api_Prog_1 (ty_int.size) (by decide) rfl) ?_
    refine gA (v := .int .i64 g) rfl rfl rfl rfl (fun _ henv => rn_load1 henv ty_int rfl (hst.oat (k := 1) rfl) rfl) ?_
    refine gA (v := .pointer (some ⟨g53, 1, none⟩)) rfl rfl rfl rfl (fun _ henv => rn_fieldAddr henv fd_anvil_api_Prog_1 (ty_int.size) (by decide) rfl) ?_
    refine gA (v := .int .i64 g2) rfl rfl rfl rfl (fun _ henv => rn_load1 henv ty_int rfl (hst.oat (k := 0) rfl) rfl) ?_
    refine gA (v := .bool (g == g2)) rfl rfl rfl rfl (fun _ henv => rn_bin henv rfl rfl rfl) ?_
    refine sA (v := .bool (g == g2)) rfl (fun _ henv => rn_pick henv rfl rfl) ?_
    refine mA rfl rfl ?_
    intro a henv
    rcases bool_em (g == g2) with hg57 | hg57
    · rw [hg57] at henv
      have hx58 := eq_of_beq hg57
      revert a
      refine gA (v := .pointer (some ⟨g51, 2, none⟩)) rfl rfl rfl rfl (fun _ henv => rn_fieldAddr henv fd_anvil_api_Prog_2 (ty__api_Instr.size) (by decide) rfl) ?_
      refine gA (v := .slice A0 n0 c0) rfl rfl rfl rfl (fun _ henv => rn_load1 henv ty__api_Instr rfl (hst.oat (k := 1) rfl) rfl) ?_
      refine gA (v := .pointer (some ⟨g53, 2, none⟩)) rfl rfl rfl rfl (fun _ henv => rn_fieldAddr henv fd_anvil_api_Prog_2 (ty__api_Instr.size) (by decide) rfl) ?_
      refine gA (v := .slice A2 n2 c2) rfl rfl rfl rfl (fun _ henv => rn_load1 henv ty__api_Instr rfl (hst.oat (k := 0) rfl) rfl) ?_
      intro a henv
      refine seq_g rfl henv rfl rfl (op_call henv rfl Tryd.call39 rfl (g_eqJ (hst.pat (k := 3) rfl) (hst.pat (k := 1) rfl)) ?_)
      rintro e w59 ⟨rfl, hb⟩
      refine ⟨_, rfl, ?_⟩
      clear henv a; intro a henv
      replace hst := hst.call hb
      clear hb
      revert a
      refine sA (v := .bool (decide (es0 = es2))) rfl (fun _ henv => rn_pick henv rfl rfl) ?_
      refine mA rfl rfl ?_
      intro a henv
      rcases bool_em (decide (es0 = es2)) with hg60 | hg60
      · rw [hg60] at henv
        have hx61 := of_decide_eq_true hg60
        revert a
        refine gA (v := .pointer (some ⟨g51, 3, none⟩)) rfl rfl rfl rfl (fun _ henv => rn_fieldAddr henv fd_anvil_api_Prog_3 (ty__int.size) (by decide) rfl) ?_
        refine gA (v := .slice A1 n1 c1) rfl rfl rfl rfl (fun _ henv => rn_load1 henv ty__int rfl (hst.oat (k := 1) rfl) rfl) ?_
        refine gA (v := .pointer (some ⟨g53, 3, none⟩)) rfl rfl rfl rfl (fun _ henv => rn_fieldAddr henv fd_anvil_api_Prog_3 (ty__int.size) (by decide) rfl) ?_
        refine gA (v := .slice A3 n3 c3) rfl rfl rfl rfl (fun _ henv => rn_load1 henv ty__int rfl (hst.oat (k := 0) rfl) rfl) ?_
        intro a henv
        refine seq_g rfl henv rfl rfl (op_call henv rfl Tryd.call40 rfl (g_eqI (hst.pat (k := 2) rfl) (hst.pat (k := 0) rfl)) ?_)
        rintro e w62 ⟨rfl, hb⟩
        refine ⟨_, rfl, ?_⟩
        clear henv a; intro a henv
        replace hst := hst.call hb
        clear hb
        revert a
        refine sA (v := .bool (decide (es1 = es3))) rfl (fun _ henv => rn_pick henv rfl rfl) ?_
        refine aA rfl rfl ?_
        intro a henv
        refine wpList_nil ?_
        refine th_n ?_
        refine wp_ret ?_
        refine leave henv (res1 Tryd.results17 (RV.tmp henv rfl)) ?_
        exact ⟨congrArg (fun b => Ending.returned (Value.bool b)) (decide_eq_decide.2 ⟨fun q => ⟨by assumption, by assumption, by assumption, q⟩, fun q => q.2.2.2⟩), hst.below⟩
      · rw [hg60] at henv
        have hx63 := of_decide_eq_false hg60
        revert a
        refine kA rfl rfl rfl rfl rfl ?_
        refine kA rfl rfl rfl rfl rfl ?_
        refine kA rfl rfl rfl rfl rfl ?_
        refine kA rfl rfl rfl rfl rfl ?_
        refine kA rfl rfl rfl rfl rfl ?_
        refine sA (v := .bool false) rfl (fun _ henv => rn_pick henv rfl rfl) ?_
        refine aA rfl rfl ?_
        intro a henv
        refine wpList_nil ?_
        refine th_n ?_
        refine wp_ret ?_
        refine leave henv (res1 Tryd.results17 (RV.tmp henv rfl)) ?_
        exact ⟨by rw [decide_eq_false (fun q => by obtain ⟨q1, q2, q3, q4⟩ := q; contradiction)], hst.below⟩
    · rw [hg57] at henv
      have hx64 := ne_of_beq_false hg57
      revert a
      refine kA rfl rfl rfl rfl rfl ?_
      refine kA rfl rfl rfl rfl rfl ?_
      refine kA rfl rfl rfl rfl rfl ?_
      refine kA rfl rfl rfl rfl rfl ?_
      refine kA rfl rfl rfl rfl rfl ?_
      refine sA (v := .bool false) rfl (fun _ henv => rn_pick henv rfl rfl) ?_
      refine mA rfl rfl ?_
      refine kA rfl rfl rfl rfl rfl ?_
      refine kA rfl rfl rfl rfl rfl ?_
      refine kA rfl rfl rfl rfl rfl ?_
      refine kA rfl rfl rfl rfl rfl ?_
      refine kA rfl rfl rfl rfl rfl ?_
      refine sA (v := .bool false) rfl (fun _ henv => rn_pick henv rfl rfl) ?_
      refine aA rfl rfl ?_
      intro a henv
      refine wpList_nil ?_
      refine th_n ?_
      refine wp_ret ?_
      refine leave henv (res1 Tryd.results17 (RV.tmp henv rfl)) ?_
      exact ⟨by rw [decide_eq_false (fun q => by obtain ⟨q1, q2, q3, q4⟩ := q; contradiction)], hst.below⟩
  · rw [hg55] at henv
    have hx65 := ne_of_beq_false hg55
    revert a
    refine kA rfl rfl rfl rfl rfl ?_
    refine kA rfl rfl rfl rfl rfl ?_
    refine kA rfl rfl rfl rfl rfl ?_
    refine kA rfl rfl rfl rfl rfl ?_
    refine kA rfl rfl rfl rfl rfl ?_
    refine sA (v := .bool false) rfl (fun _ henv => rn_pick henv rfl rfl) ?_
    refine mA rfl rfl ?_
    refine kA rfl rfl rfl rfl rfl ?_
    refine kA rfl rfl rfl rfl rfl ?_
    refine kA rfl rfl rfl rfl rfl ?_
    refine kA rfl rfl rfl rfl rfl ?_
    refine kA rfl rfl rfl rfl rfl ?_
    refine sA (v := .bool false) rfl (fun _ henv => rn_pick henv rfl rfl) ?_
    refine mA rfl rfl ?_
    refine kA rfl rfl rfl rfl rfl ?_
    refine kA rfl rfl rfl rfl rfl ?_
    refine kA rfl rfl rfl rfl rfl ?_
    refine kA rfl rfl rfl rfl rfl ?_
    refine kA rfl rfl rfl rfl rfl ?_
    refine sA (v := .bool false) rfl (fun _ henv => rn_pick henv rfl rfl) ?_
    refine aA rfl rfl ?_
    intro a henv
    refine wpList_nil ?_
    refine th_n ?_
    refine wp_ret ?_
    refine leave henv (res1 Tryd.results17 (RV.tmp henv rfl)) ?_
    exact ⟨by rw [decide_eq_false (fun q => by obtain ⟨q1, q2, q3, q4⟩ := q; contradiction)], hst.below⟩
set_option maxRecDepth 100000 in
set_option maxHeartbeats 2000000 in
theorem r_same {i g i2 g2 : Int} {A0 A1 A2 A3 : Option Addr} {n0 c0 n1 c1 n2 c2 n3 c3 : Nat} {es0 : List IE} {es1 : List Int} {es2 : List IE} {es3 : List Int} {w0 : World} (h0 : (pfRow fJ FJ 5 A0 n0 c0 es0).P w0) (h1 : (pfRow fI FI 1 A1 n1 c1 es1).P w0) (h2 : (pfRow fJ FJ 5 A2 n2 c2 es2).P w0) (h3 : (pfRow fI FI 1 A3 n3 c3 es3).P w0) :
    Calls Tryd.prog 16 #[.agg #[.int .i64 i, .int .i64 g, .slice A0 n0 c0, .slice A1 n1 c1], .agg #[.int .i64 i2, .int .i64 g2, .slice A2 n2 c2, .slice A3 n3 c3]] w0 fun e w' => e = .returned (.bool (decide (i = i2 ∧ g = g2 ∧ es0 = es2 ∧ es1 = es3))) ∧ Below w0.heap.size w0 w' := by
  refine enter Tryd.func16 rfl Tryd.ntmps16 rfl ?_
  intro a henv hst
  have hlen0 := h0.2.1
  have hbig0 := Nat.le_trans h0.1.cap h0.1.big
  unfold maxLen at hbig0
  have hlen1 := h1.2.1
  have hbig1 := Nat.le_trans h1.1.cap h1.1.big
  unfold maxLen at hbig1
  have hlen2 := h2.2.1
  have hbig2 := Nat.le_trans h2.1.cap h2.1.big
  unfold maxLen at hbig2
  have hlen3 := h3.2.1
  have hbig3 := Nat.le_trans h3.1.cap h3.1.big
  unfold maxLen at hbig3
  replace hst := hst.argRow h0
  replace hst := hst.argRow h1
  replace hst := hst.argRow h2
  replace hst := hst.argRow h3
  clear h0 h1 h2 h3
  refine wp_seq ?_
  refine region_seq ?_
  refine seq_step rfl (op_box (c := #[.int .i64 i, .int .i64 g, .slice A0 n0 c0, .slice A1 n1 c1]) henv hst rfl rfl rfl ?_)
  clear henv hst a; intro a w52 g51 henv hst
  refine seq_step rfl (op_box (c := #[.int .i64 i2, .int .i64 g2, .slice A2 n2 c2, .slice A3 n3 c3]) henv hst rfl rfl rfl ?_)
  clear henv hst a; intro a w54 g53 henv hst
  refine sv (v := .bool false) henv rfl (rn_assign henv rfl) ?_
  clear henv a; intro a henv
  refine wpList_nil ?_
  refine th_n ?_
  refine wp_seq ?_
  refine wp_seq ?_
  refine region_seq ?_
  revert a
  refine sA (v := .pointer (some ⟨g51, 0, none⟩)) rfl (fun _ henv => rn_fieldAddr henv fd_anvil_api_Prog_0 (ty_int.size) (by decide) rfl) ?_
  refine sA (v := .int .i64 i) rfl (fun _ henv => rn_load1 henv ty_int rfl (hst.oat (k := 1) rfl) rfl) ?_
  refine sA (v := .pointer (some ⟨g53, 0, none⟩)) rfl (fun _ henv => rn_fieldAddr henv fd_anvil_api_Prog_0 (ty_int.size) (by decide) rfl) ?_
  refine sA (v := .int .i64 i2) rfl (fun _ henv => rn_load1 henv ty_int rfl (hst.oat (k := 0) rfl) rfl) ?_
  refine sA (v := .bool (i != i2)) rfl (fun _ henv => rn_bin henv rfl rfl rfl) ?_
  refine mA rfl rfl ?_
  intro a henv
  rcases bool_em (i != i2) with hg55 | hg55
  · rw [hg55] at henv
    have hx56 := bne_yes hg55
    revert a
    refine kA rfl rfl rfl rfl rfl ?_
    refine kA rfl rfl rfl rfl rfl ?_
    refine kA rfl rfl rfl rfl rfl ?_
    refine kA rfl rfl rfl rfl rfl ?_
    refine kA rfl rfl rfl rfl rfl ?_
    refine sA (v := .bool true) rfl (fun _ henv => rn_pick henv rfl rfl) ?_
    refine mA rfl rfl ?_
    refine kA rfl rfl rfl rfl rfl ?_
    refine kA rfl rfl rfl rfl rfl ?_
    refine kA rfl rfl rfl rfl rfl ?_
    refine kA rfl rfl rfl rfl rfl ?_
    refine kA rfl rfl rfl rfl rfl ?_
    refine kA rfl rfl rfl rfl rfl ?_
    refine kA rfl rfl rfl rfl rfl ?_
    refine sA (v := .bool true) rfl (fun _ henv => rn_pick henv rfl rfl) ?_
    refine mA rfl rfl ?_
    refine kA rfl rfl rfl rfl rfl ?_
    refine kA rfl rfl rfl rfl rfl ?_
    refine kA rfl rfl rfl rfl rfl ?_
    refine kA rfl rfl rfl rfl rfl ?_
    refine kA rfl rfl rfl rfl rfl ?_
    refine kA rfl rfl rfl rfl rfl ?_
    refine kA rfl rfl rfl rfl rfl ?_
    refine sA (v := .bool true) rfl (fun _ henv => rn_pick henv rfl rfl) ?_
    intro a henv
    refine wpList_nil ?_
    refine th_n ?_
    refine if_t henv rfl (rfl) ?_
    refine wp_seq ?_
    refine region_seq ?_
    refine sv (v := .bool false) henv rfl (rn_assign henv rfl) ?_
    clear henv a; intro a henv
    refine wpList_nil ?_
    refine th_n ?_
    refine wp_ret ?_
    refine th_r ?_
    refine leave henv (res1 Tryd.results16 (RV.tmp henv rfl)) ?_
    exact ⟨by rw [decide_eq_false (fun q => by obtain ⟨q1, q2, q3, q4⟩ := q; contradiction)], hst.below⟩
  · rw [hg55] at henv
    have hx57 := bne_no hg55
    revert a
    refine gA (v := .pointer (some ⟨g51, 1, none⟩)) rfl rfl rfl rfl (fun _ henv => rn_fieldAddr henv fd_anvil_api_Prog_1 (ty_int.size) (by decide) rfl) ?_
    refine gA (v := .int .i64 g) rfl rfl rfl rfl (fun _ henv => rn_load1 henv ty_int rfl (hst.oat (k := 1) rfl) rfl) ?_
    refine gA (v := .pointer (some ⟨g53, 1, none⟩)) rfl rfl rfl rfl (fun _ henv => rn_fieldAddr henv fd_anvil_api_Prog_1 (ty_int.size) (by decide) rfl) ?_
    refine gA (v := .int .i64 g2) rfl rfl rfl rfl (fun _ henv => rn_load1 henv ty_int rfl (hst.oat (k := 0) rfl) rfl) ?_
    refine gA (v := .bool (g != g2)) rfl rfl rfl rfl (fun _ henv => rn_bin henv rfl rfl rfl) ?_
    refine sA (v := .bool (g != g2)) rfl (fun _ henv => rn_pick henv rfl rfl) ?_
    refine mA rfl rfl ?_
    intro a henv
    rcases bool_em (g != g2) with hg58 | hg58
    · rw [hg58] at henv
      have hx59 := bne_yes hg58
      revert a
      refine kA rfl rfl rfl rfl rfl ?_
      refine kA rfl rfl rfl rfl rfl ?_
      refine kA rfl rfl rfl rfl rfl ?_
      refine kA rfl rfl rfl rfl rfl ?_
      refine kA rfl rfl rfl rfl rfl ?_
      refine kA rfl rfl rfl rfl rfl ?_
      refine kA rfl rfl rfl rfl rfl ?_
      refine sA (v := .bool true) rfl (fun _ henv => rn_pick henv rfl rfl) ?_
      refine mA rfl rfl ?_
      refine kA rfl rfl rfl rfl rfl ?_
      refine kA rfl rfl rfl rfl rfl ?_
      refine kA rfl rfl rfl rfl rfl ?_
      refine kA rfl rfl rfl rfl rfl ?_
      refine kA rfl rfl rfl rfl rfl ?_
      refine kA rfl rfl rfl rfl rfl ?_
      refine kA rfl rfl rfl rfl rfl ?_
      refine sA (v := .bool true) rfl (fun _ henv => rn_pick henv rfl rfl) ?_
      intro a henv
      refine wpList_nil ?_
      refine th_n ?_
      refine if_t henv rfl (rfl) ?_
      refine wp_seq ?_
      refine region_seq ?_
      refine sv (v := .bool false) henv rfl (rn_assign henv rfl) ?_
      clear henv a; intro a henv
      refine wpList_nil ?_
      refine th_n ?_
      refine wp_ret ?_
      refine th_r ?_
      refine leave henv (res1 Tryd.results16 (RV.tmp henv rfl)) ?_
      exact ⟨by rw [decide_eq_false (fun q => by obtain ⟨q1, q2, q3, q4⟩ := q; contradiction)], hst.below⟩
    · rw [hg58] at henv
      have hx60 := bne_no hg58
      revert a
      refine gA (v := .pointer (some ⟨g51, 2, none⟩)) rfl rfl rfl rfl (fun _ henv => rn_fieldAddr henv fd_anvil_api_Prog_2 (ty__api_Instr.size) (by decide) rfl) ?_
      refine gA (v := .slice A0 n0 c0) rfl rfl rfl rfl (fun _ henv => rn_load1 henv ty__api_Instr rfl (hst.oat (k := 1) rfl) rfl) ?_
      refine gA (v := .int .i64 (n0 : Nat)) rfl rfl rfl rfl (fun _ henv => rn_len henv Tryd.underlying22 rfl) ?_
      refine gA (v := .pointer (some ⟨g53, 2, none⟩)) rfl rfl rfl rfl (fun _ henv => rn_fieldAddr henv fd_anvil_api_Prog_2 (ty__api_Instr.size) (by decide) rfl) ?_
      refine gA (v := .slice A2 n2 c2) rfl rfl rfl rfl (fun _ henv => rn_load1 henv ty__api_Instr rfl (hst.oat (k := 0) rfl) rfl) ?_
      refine gA (v := .int .i64 (n2 : Nat)) rfl rfl rfl rfl (fun _ henv => rn_len henv Tryd.underlying22 rfl) ?_
      refine gA (v := .bool (((n0 : Nat) : Int) != ((n2 : Nat) : Int))) rfl rfl rfl rfl (fun _ henv => rn_bin henv rfl rfl rfl) ?_
      refine sA (v := .bool (((n0 : Nat) : Int) != ((n2 : Nat) : Int))) rfl (fun _ henv => rn_pick henv rfl rfl) ?_
      refine mA rfl rfl ?_
      intro a henv
      rcases bool_em (((n0 : Nat) : Int) != ((n2 : Nat) : Int)) with hg61 | hg61
      · rw [hg61] at henv
        have hx62 := bne_yes hg61
        have hne : ¬ (es0 = es2) := fun q => hx62 (by rw [← hlen0, ← hlen2, q])
        revert a
        refine kA rfl rfl rfl rfl rfl ?_
        refine kA rfl rfl rfl rfl rfl ?_
        refine kA rfl rfl rfl rfl rfl ?_
        refine kA rfl rfl rfl rfl rfl ?_
        refine kA rfl rfl rfl rfl rfl ?_
        refine kA rfl rfl rfl rfl rfl ?_
        refine kA rfl rfl rfl rfl rfl ?_
        refine sA (v := .bool true) rfl (fun _ henv => rn_pick henv rfl rfl) ?_
        intro a henv
        refine wpList_nil ?_
        refine th_n ?_
        refine if_t henv rfl (rfl) ?_
        refine wp_seq ?_
        refine region_seq ?_
        refine sv (v := .bool false) henv rfl (rn_assign henv rfl) ?_
        clear henv a; intro a henv
        refine wpList_nil ?_
        refine th_n ?_
        refine wp_ret ?_
        refine th_r ?_
        refine leave henv (res1 Tryd.results16 (RV.tmp henv rfl)) ?_
        exact ⟨by rw [decide_eq_false (fun q => by obtain ⟨q1, q2, q3, q4⟩ := q; contradiction)], hst.below⟩
      · rw [hg61] at henv
        have hx63 := bne_no hg61
        have hnnfJ : n0 = n2 := by omega
        revert a
        refine gA (v := .pointer (some ⟨g51, 3, none⟩)) rfl rfl rfl rfl (fun _ henv => rn_fieldAddr henv fd_anvil_api_Prog_3 (ty__int.size) (by decide) rfl) ?_
        refine gA (v := .slice A1 n1 c1) rfl rfl rfl rfl (fun _ henv => rn_load1 henv ty__int rfl (hst.oat (k := 1) rfl) rfl) ?_
        refine gA (v := .int .i64 (n1 : Nat)) rfl rfl rfl rfl (fun _ henv => rn_len henv Tryd.underlying23 rfl) ?_
        refine gA (v := .pointer (some ⟨g53, 3, none⟩)) rfl rfl rfl rfl (fun _ henv => rn_fieldAddr henv fd_anvil_api_Prog_3 (ty__int.size) (by decide) rfl) ?_
        refine gA (v := .slice A3 n3 c3) rfl rfl rfl rfl (fun _ henv => rn_load1 henv ty__int rfl (hst.oat (k := 0) rfl) rfl) ?_
        refine gA (v := .int .i64 (n3 : Nat)) rfl rfl rfl rfl (fun _ henv => rn_len henv Tryd.underlying23 rfl) ?_
        refine gA (v := .bool (((n1 : Nat) : Int) != ((n3 : Nat) : Int))) rfl rfl rfl rfl (fun _ henv => rn_bin henv rfl rfl rfl) ?_
        refine sA (v := .bool (((n1 : Nat) : Int) != ((n3 : Nat) : Int))) rfl (fun _ henv => rn_pick henv rfl rfl) ?_
        intro a henv
        refine wpList_nil ?_
        refine th_n ?_
        refine if_split henv rfl (fun hc64 => ?_) (fun hc64 => ?_)
        · have hx65 := bne_yes hc64
          have hne : ¬ (es1 = es3) := fun q => hx65 (by rw [← hlen1, ← hlen3, q])
          refine wp_seq ?_
          refine region_seq ?_
          refine sv (v := .bool false) henv rfl (rn_assign henv rfl) ?_
          clear henv a; intro a henv
          refine wpList_nil ?_
          refine th_n ?_
          refine wp_ret ?_
          refine th_r ?_
          refine leave henv (res1 Tryd.results16 (RV.tmp henv rfl)) ?_
          exact ⟨by rw [decide_eq_false (fun q => by obtain ⟨q1, q2, q3, q4⟩ := q; contradiction)], hst.below⟩
        · have hx66 := bne_no hc64
          have hnnfI : n1 = n3 := by omega
          refine wp_skip ?_
          refine th_n ?_
          refine wp_seq ?_
          refine wp_seq ?_
          refine region_seq ?_
          refine sv (v := .int .i64 0) henv rfl (rn_assign henv rfl) ?_
          clear henv a; intro a henv
          refine wpList_nil ?_
          refine th_n ?_
          refine wp_block ?_
          refine wp_loop_ghost (fun mz a w => ∃ j : Nat, n0 - j = mz ∧ Env 73 a [(2, .pointer (some ⟨g51, 0, none⟩)), (3, .pointer (some ⟨g53, 0, none⟩)), (5, .int .i64 (j : Nat))] ∧ St w0 w [bk g53 #[.int .i64 i2, .int .i64 g2, .slice A2 n2 c2, .slice A3 n3 c3] 25, bk g51 #[.int .i64 i, .int .i64 g, .slice A0 n0 c0, .slice A1 n1 c1] 25] [pfRow fI FI 1 A3 n3 c3 es3, pfRow fJ FJ 5 A2 n2 c2 es2, pfRow fI FI 1 A1 n1 c1 es1, pfRow fJ FJ 5 A0 n0 c0 es0] ∧ j ≤ n0 ∧ es0.take j = es2.take j) _ ⟨0, rfl, henv.sub ⟨rfl, rfl, rfl, trivial⟩, hst.pick [0, 1] [0, 1, 2, 3] (by decide), (Nat.zero_le _), rfl⟩ ?_
          clear henv hst a
          rintro mz a w67 ⟨j, rfl, henv, hst, hj, hefJ⟩
          refine wp_seq ?_
          refine wp_seq ?_
          refine region_seq ?_
          revert a
          refine mA rfl rfl ?_
          refine sA (v := .pointer (some ⟨g51, 2, none⟩)) rfl (fun _ henv => rn_fieldAddr henv fd_anvil_api_Prog_2 (ty__api_Instr.size) (by decide) rfl) ?_
          refine sA (v := .slice A0 n0 c0) rfl (fun _ henv => rn_load1 henv ty__api_Instr rfl (hst.oat (k := 1) rfl) rfl) ?_
          refine sA (v := .int .i64 (n0 : Nat)) rfl (fun _ henv => rn_len henv Tryd.underlying22 rfl) ?_
          refine sA (v := .bool (decide (((j : Nat) : Int) < ((n0 : Nat) : Int)))) rfl (fun _ henv => rn_bin henv rfl rfl rfl) ?_
          intro a henv
          refine wpList_nil ?_
          refine th_n ?_
          refine if_split henv rfl (fun hc68 => ?_) (fun hc68 => ?_)
          · have hlt : j < n0 := by have := of_decide_eq_true hc68; omega
            obtain ⟨⟨a1, a2, a3, a4, a5⟩, hxfJ⟩ : ∃ e, es0[j]? = some e := ⟨_, List.getElem?_eq_getElem (by omega)⟩
            obtain ⟨⟨b1, b2, b3, b4, b5⟩, hyfJ⟩ : ∃ e, es2[j]? = some e := ⟨_, List.getElem?_eq_getElem (by omega)⟩
            refine wp_skip ?_
            refine th_n ?_
            refine wp_seq ?_
            refine wp_block ?_
            refine wp_seq ?_
            refine region_any (n := 11) (Sk [bk g53 #[.int .i64 i2, .int .i64 g2, .slice A2 n2 c2, .slice A3 n3 c3] 25, bk g51 #[.int .i64 i, .int .i64 g, .slice A0 n0 c0, .slice A1 n1 c1] 25] [pfRow fI FI 1 A3 n3 c3 es3, pfRow fJ FJ 5 A2 n2 c2 es2, pfRow fI FI 1 A1 n1 c1 es1, pfRow fJ FJ 5 A0 n0 c0 es0] [] []) mixed rfl henv hst ?_
            clear henv hst; intro w69 henv hst
            refine tA (i := 0) [1, 3, 4, 10] (v := .pointer (some ⟨g51, 2, none⟩)) rfl (by kernel_rfl) (fun _ _ _ h => h) henv rfl (fun _ => rn_fieldAddr henv fd_anvil_api_Prog_2 (ty__api_Instr.size) (by decide) rfl) ?_
            clear henv a; intro a henv
            refine sAny_take (i := 1) [3, 4, 10] (fun w' => w'.heap[g51]? = some (.cells #[.int .i64 i, .int .i64 g, .slice A0 n0 c0, .slice A1 n1 c1] 25 (0, 0))) (v := .slice A0 n0 c0) rfl (by kernel_rfl) (fun _ _ _ h => h) (fun _ _ _ hS => hS.1.oat (k := 1) rfl) henv rfl (hst.oat (k := 1) rfl) (fun w' hg => rn_load1 henv ty__api_Instr rfl hg rfl) ?_
            clear henv a; intro a henv
            refine tM (i := 2) [3, 4, 10] rfl (by kernel_rfl) (fun _ _ _ h => h) henv rfl rfl ?_
            clear henv a; intro a henv
            refine sAny_take (i := 3) [4, 10] (fun w' => (pfRow fJ FJ 5 A0 n0 c0 es0).P w') (v := .pointer (some ⟨ab A0, ao A0 + j * 5, none⟩)) rfl (by kernel_rfl) (fun _ _ _ h => h) (fun _ _ _ hS => hS.1.pat (k := 3) rfl) henv rfl (hst.pat (k := 3) rfl) (fun w' hg => rn_idxR (i := j) henv Tryd.underlying22 (ty_anvil_api_Instr.size) rfl rfl (by omega) rfl (show (pfRow fJ FJ 5 A0 n0 c0 es0).P _ from hg).1) ?_
            clear henv a; intro a henv
            refine sAny_take (i := 4) [10] (fun w' => (pfRow fJ FJ 5 A0 n0 c0 es0).P w') (v := .agg #[.int .i64 a1, .int .i64 a2, .int .i64 a3, .int .i64 a4, .int .i64 a5]) rfl (by kernel_rfl) (fun _ _ _ h => h) (fun _ _ _ hS => hS.1.pat (k := 3) rfl) henv rfl (hst.pat (k := 3) rfl) (fun w' hg => rn_loadE (i := j) (e := (a1, a2, a3, a4, a5)) henv ty_anvil_api_Instr rfl rfl fJ_len (show (pfRow fJ FJ 5 A0 n0 c0 es0).P _ from hg).1 (by omega) hxfJ rfl) ?_
            clear henv a; intro a henv
            refine tA (i := 5) [6, 8, 9, 10] (v := .pointer (some ⟨g53, 2, none⟩)) rfl (by kernel_rfl) (fun _ _ _ h => h) henv rfl (fun _ => rn_fieldAddr henv fd_anvil_api_Prog_2 (ty__api_Instr.size) (by decide) rfl) ?_
            clear henv a; intro a henv
            refine sAny_take (i := 6) [8, 9, 10] (fun w' => w'.heap[g53]? = some (.cells #[.int .i64 i2, .int .i64 g2, .slice A2 n2 c2, .slice A3 n3 c3] 25 (0, 0))) (v := .slice A2 n2 c2) rfl (by kernel_rfl) (fun _ _ _ h => h) (fun _ _ _ hS => hS.1.oat (k := 0) rfl) henv rfl (hst.oat (k := 0) rfl) (fun w' hg => rn_load1 henv ty__api_Instr rfl hg rfl) ?_
            clear henv a; intro a henv
            refine tM (i := 7) [8, 9, 10] rfl (by kernel_rfl) (fun _ _ _ h => h) henv rfl rfl ?_
            clear henv a; intro a henv
            refine sAny_take (i := 8) [9, 10] (fun w' => (pfRow fJ FJ 5 A2 n2 c2 es2).P w') (v := .pointer (some ⟨ab A2, ao A2 + j * 5, none⟩)) rfl (by kernel_rfl) (fun _ _ _ h => h) (fun _ _ _ hS => hS.1.pat (k := 1) rfl) henv rfl (hst.pat (k := 1) rfl) (fun w' hg => rn_idxR (i := j) henv Tryd.underlying22 (ty_anvil_api_Instr.size) rfl rfl (by omega) rfl (show (pfRow fJ FJ 5 A2 n2 c2 es2).P _ from hg).1) ?_
            clear henv a; intro a henv
            refine sAny_take (i := 9) [10] (fun w' => (pfRow fJ FJ 5 A2 n2 c2 es2).P w') (v := .agg #[.int .i64 b1, .int .i64 b2, .int .i64 b3, .int .i64 b4, .int .i64 b5]) rfl (by kernel_rfl) (fun _ _ _ h => h) (fun _ _ _ hS => hS.1.pat (k := 1) rfl) henv rfl (hst.pat (k := 1) rfl) (fun w' hg => rn_loadE (i := j) (e := (b1, b2, b3, b4, b5)) henv ty_anvil_api_Instr rfl rfl fJ_len (show (pfRow fJ FJ 5 A2 n2 c2 es2).P _ from hg).1 (by omega) hyfJ rfl) ?_
            clear henv a; intro a henv
            refine tA (i := 10) [] (v := .bool (!decide ([a1, a2, a3, a4, a5] = [b1, b2, b3, b4, b5]))) rfl (by kernel_rfl) (fun _ _ _ h => h) henv rfl (fun _ => rn_neqI [a1, a2, a3, a4, a5] [b1, b2, b3, b4, b5] henv instrI rfl rfl rfl rfl) ?_
            clear henv a; intro a henv
            refine sAny_done (by kernel_rfl) ?_ _
            refine th_n ?_
            refine if_split henv rfl (fun hc70 => ?_) (fun hc70 => ?_)
            · have hne : ¬ (es0 = es2) := fun q => by rw [q] at hxfJ; rw [hxfJ] at hyfJ; exact of_decide_eq_false (bnot_t hc70) (by injection hyfJ with q; injection q with q1 q; injection q with q2 q; injection q with q3 q; injection q with q4 q5; rw [q1, q2, q3, q4, q5])
              refine wp_seq ?_
              refine region_seq ?_
              refine sv (v := .bool false) henv rfl (rn_assign henv rfl) ?_
              clear henv a; intro a henv
              refine wpList_nil ?_
              refine th_n ?_
              refine wp_ret ?_
              refine bl_r (th_r (th_r (bl_r (th_r ?_))))
              refine leave henv (res1 Tryd.results16 (RV.tmp henv rfl)) ?_
              exact ⟨by rw [decide_eq_false (fun q => by obtain ⟨q1, q2, q3, q4⟩ := q; contradiction)], hst.below⟩
            · have heq : ((a1, a2, a3, a4, a5) : IE) = (b1, b2, b3, b4, b5) := by have q := of_decide_eq_true (bnot_f hc70); simp only [List.cons.injEq, and_true] at q; obtain ⟨q1, q2, q3, q4, q5⟩ := q; rw [q1, q2, q3, q4, q5]
              refine wp_skip ?_
              refine bl_n (th_n ?_)
              refine region_seq ?_
              revert a
              refine mA rfl rfl ?_
              refine sA (v := .int .i64 (j + 1 : Nat)) rfl (fun _ henv => rn_add henv rfl rfl (by rw [IntWalk.i64_in _ (by omega)]; omega)) ?_
              refine aA rfl rfl ?_
              intro a henv
              refine wpList_nil ?_
              exact th_n ⟨_, (by omega), ⟨j + 1, rfl, henv.sub ⟨rfl, rfl, rfl, trivial⟩, hst.pick [0, 1] [0, 1, 2, 3] (by decide), (by omega), (by rw [take_one hxfJ, take_one hyfJ, hefJ, heq])⟩⟩
          · have hjfJ : j = n0 := by have := of_decide_eq_false hc68; omega
            have hsfJ : es0 = es2 := by rw [List.take_of_length_le (by omega), List.take_of_length_le (by omega)] at hefJ; exact hefJ
            refine wp_exit ?_
            refine th_x (th_x (bl_x (th_n ?_)))
            refine wp_seq ?_
            refine wp_seq ?_
            refine region_seq ?_
            refine sv (v := .int .i64 0) henv rfl (rn_assign henv rfl) ?_
            clear henv a; intro a henv
            refine wpList_nil ?_
            refine th_n ?_
            refine wp_block ?_
            refine wp_loop_ghost (fun mz a w => ∃ j : Nat, n1 - j = mz ∧ Env 73 a [(2, .pointer (some ⟨g51, 0, none⟩)), (3, .pointer (some ⟨g53, 0, none⟩)), (6, .int .i64 (j : Nat))] ∧ St w0 w [bk g53 #[.int .i64 i2, .int .i64 g2, .slice A2 n2 c2, .slice A3 n3 c3] 25, bk g51 #[.int .i64 i, .int .i64 g, .slice A0 n0 c0, .slice A1 n1 c1] 25] [pfRow fI FI 1 A3 n3 c3 es3, pfRow fJ FJ 5 A2 n2 c2 es2, pfRow fI FI 1 A1 n1 c1 es1, pfRow fJ FJ 5 A0 n0 c0 es0] ∧ j ≤ n1 ∧ es1.take j = es3.take j) _ ⟨0, rfl, henv.sub ⟨rfl, rfl, rfl, trivial⟩, hst.pick [0, 1] [0, 1, 2, 3] (by decide), (Nat.zero_le _), rfl⟩ ?_
            clear henv hst a
            rintro mz a w71 ⟨j, rfl, henv, hst, hj, hefI⟩
            refine wp_seq ?_
            refine wp_seq ?_
            refine region_seq ?_
            revert a
            refine mA rfl rfl ?_
            refine sA (v := .pointer (some ⟨g51, 3, none⟩)) rfl (fun _ henv => rn_fieldAddr henv fd_anvil_api_Prog_3 (ty__int.size) (by decide) rfl) ?_
            refine sA (v := .slice A1 n1 c1) rfl (fun _ henv => rn_load1 henv ty__int rfl (hst.oat (k := 1) rfl) rfl) ?_
            refine sA (v := .int .i64 (n1 : Nat)) rfl (fun _ henv => rn_len henv Tryd.underlying23 rfl) ?_
            refine sA (v := .bool (decide (((j : Nat) : Int) < ((n1 : Nat) : Int)))) rfl (fun _ henv => rn_bin henv rfl rfl rfl) ?_
            intro a henv
            refine wpList_nil ?_
            refine th_n ?_
            refine if_split henv rfl (fun hc72 => ?_) (fun hc72 => ?_)
            · have hlt : j < n1 := by have := of_decide_eq_true hc72; omega
              obtain ⟨x, hxfI⟩ : ∃ e, es1[j]? = some e := ⟨_, List.getElem?_eq_getElem (by omega)⟩
              obtain ⟨y, hyfI⟩ : ∃ e, es3[j]? = some e := ⟨_, List.getElem?_eq_getElem (by omega)⟩
              refine wp_skip ?_
              refine th_n ?_
              refine wp_seq ?_
              refine wp_block ?_
              refine wp_seq ?_
              refine region_any (n := 11) (Sk [bk g53 #[.int .i64 i2, .int .i64 g2, .slice A2 n2 c2, .slice A3 n3 c3] 25, bk g51 #[.int .i64 i, .int .i64 g, .slice A0 n0 c0, .slice A1 n1 c1] 25] [pfRow fI FI 1 A3 n3 c3 es3, pfRow fJ FJ 5 A2 n2 c2 es2, pfRow fI FI 1 A1 n1 c1 es1, pfRow fJ FJ 5 A0 n0 c0 es0] [] []) mixed rfl henv hst ?_
              clear henv hst; intro w73 henv hst
              refine tA (i := 0) [1, 3, 4, 10] (v := .pointer (some ⟨g51, 3, none⟩)) rfl (by kernel_rfl) (fun _ _ _ h => h) henv rfl (fun _ => rn_fieldAddr henv fd_anvil_api_Prog_3 (ty__int.size) (by decide) rfl) ?_
              clear henv a; intro a henv
              refine sAny_take (i := 1) [3, 4, 10] (fun w' => w'.heap[g51]? = some (.cells #[.int .i64 i, .int .i64 g, .slice A0 n0 c0, .slice A1 n1 c1] 25 (0, 0))) (v := .slice A1 n1 c1) rfl (by kernel_rfl) (fun _ _ _ h => h) (fun _ _ _ hS => hS.1.oat (k := 1) rfl) henv rfl (hst.oat (k := 1) rfl) (fun w' hg => rn_load1 henv ty__int rfl hg rfl) ?_
              clear henv a; intro a henv
              refine tM (i := 2) [3, 4, 10] rfl (by kernel_rfl) (fun _ _ _ h => h) henv rfl rfl ?_
              clear henv a; intro a henv
              refine sAny_take (i := 3) [4, 10] (fun w' => (pfRow fI FI 1 A1 n1 c1 es1).P w') (v := .pointer (some ⟨ab A1, ao A1 + j * 1, none⟩)) rfl (by kernel_rfl) (fun _ _ _ h => h) (fun _ _ _ hS => hS.1.pat (k := 2) rfl) henv rfl (hst.pat (k := 2) rfl) (fun w' hg => rn_idxR (i := j) henv Tryd.underlying23 (ty_int.size) rfl rfl (by omega) rfl (show (pfRow fI FI 1 A1 n1 c1 es1).P _ from hg).1) ?_
              clear henv a; intro a henv
              refine sAny_take (i := 4) [10] (fun w' => (pfRow fI FI 1 A1 n1 c1 es1).P w') (v := .int .i64 x) rfl (by kernel_rfl) (fun _ _ _ h => h) (fun _ _ _ hS => hS.1.pat (k := 2) rfl) henv rfl (hst.pat (k := 2) rfl) (fun w' hg => rn_loadE1 (i := j) (j := 0) (e := x) henv ty_int rfl rfl fI_len (by decide) (show (pfRow fI FI 1 A1 n1 c1 es1).P _ from hg).1 (by omega) hxfI rfl) ?_
              clear henv a; intro a henv
              refine tA (i := 5) [6, 8, 9, 10] (v := .pointer (some ⟨g53, 3, none⟩)) rfl (by kernel_rfl) (fun _ _ _ h => h) henv rfl (fun _ => rn_fieldAddr henv fd_anvil_api_Prog_3 (ty__int.size) (by decide) rfl) ?_
              clear henv a; intro a henv
              refine sAny_take (i := 6) [8, 9, 10] (fun w' => w'.heap[g53]? = some (.cells #[.int .i64 i2, .int .i64 g2, .slice A2 n2 c2, .slice A3 n3 c3] 25 (0, 0))) (v := .slice A3 n3 c3) rfl (by kernel_rfl) (fun _ _ _ h => h) (fun _ _ _ hS => hS.1.oat (k := 0) rfl) henv rfl (hst.oat (k := 0) rfl) (fun w' hg => rn_load1 henv ty__int rfl hg rfl) ?_
              clear henv a; intro a henv
              refine tM (i := 7) [8, 9, 10] rfl (by kernel_rfl) (fun _ _ _ h => h) henv rfl rfl ?_
              clear henv a; intro a henv
              refine sAny_take (i := 8) [9, 10] (fun w' => (pfRow fI FI 1 A3 n3 c3 es3).P w') (v := .pointer (some ⟨ab A3, ao A3 + j * 1, none⟩)) rfl (by kernel_rfl) (fun _ _ _ h => h) (fun _ _ _ hS => hS.1.pat (k := 0) rfl) henv rfl (hst.pat (k := 0) rfl) (fun w' hg => rn_idxR (i := j) henv Tryd.underlying23 (ty_int.size) rfl rfl (by omega) rfl (show (pfRow fI FI 1 A3 n3 c3 es3).P _ from hg).1) ?_
              clear henv a; intro a henv
              refine sAny_take (i := 9) [10] (fun w' => (pfRow fI FI 1 A3 n3 c3 es3).P w') (v := .int .i64 y) rfl (by kernel_rfl) (fun _ _ _ h => h) (fun _ _ _ hS => hS.1.pat (k := 0) rfl) henv rfl (hst.pat (k := 0) rfl) (fun w' hg => rn_loadE1 (i := j) (j := 0) (e := y) henv ty_int rfl rfl fI_len (by decide) (show (pfRow fI FI 1 A3 n3 c3 es3).P _ from hg).1 (by omega) hyfI rfl) ?_
              clear henv a; intro a henv
              refine tA (i := 10) [] (v := .bool (x != y)) rfl (by kernel_rfl) (fun _ _ _ h => h) henv rfl (fun _ => rn_bin henv rfl rfl rfl) ?_
              clear henv a; intro a henv
              refine sAny_done (by kernel_rfl) ?_ _
              refine th_n ?_
              refine if_split henv rfl (fun hc74 => ?_) (fun hc74 => ?_)
              · have hne : ¬ (es1 = es3) := fun q => by rw [q] at hxfI; rw [hxfI] at hyfI; exact bne_yes hc74 (Option.some.inj hyfI)
                refine wp_seq ?_
                refine region_seq ?_
                refine sv (v := .bool false) henv rfl (rn_assign henv rfl) ?_
                clear henv a; intro a henv
                refine wpList_nil ?_
                refine th_n ?_
                refine wp_ret ?_
                refine bl_r (th_r (th_r (bl_r (th_r ?_))))
                refine leave henv (res1 Tryd.results16 (RV.tmp henv rfl)) ?_
                exact ⟨by rw [decide_eq_false (fun q => by obtain ⟨q1, q2, q3, q4⟩ := q; contradiction)], hst.below⟩
              · have heq : x = y := bne_no hc74
                refine wp_skip ?_
                refine bl_n (th_n ?_)
                refine region_seq ?_
                revert a
                refine mA rfl rfl ?_
                refine sA (v := .int .i64 (j + 1 : Nat)) rfl (fun _ henv => rn_add henv rfl rfl (by rw [IntWalk.i64_in _ (by omega)]; omega)) ?_
                refine aA rfl rfl ?_
                intro a henv
                refine wpList_nil ?_
                exact th_n ⟨_, (by omega), ⟨j + 1, rfl, henv.sub ⟨rfl, rfl, rfl, trivial⟩, hst.pick [0, 1] [0, 1, 2, 3] (by decide), (by omega), (by rw [take_one hxfI, take_one hyfI, hefI, heq])⟩⟩
            · have hjfI : j = n1 := by have := of_decide_eq_false hc72; omega
              have hsfI : es1 = es3 := by rw [List.take_of_length_le (by omega), List.take_of_length_le (by omega)] at hefI; exact hefI
              refine wp_exit ?_
              refine th_x (th_x (bl_x (th_n ?_)))
              refine wp_seq ?_
              refine region_seq ?_
              refine sv (v := .bool true) henv rfl (rn_assign henv rfl) ?_
              clear henv a; intro a henv
              refine wpList_nil ?_
              refine th_n ?_
              refine wp_ret ?_
              refine leave henv (res1 Tryd.results16 (RV.tmp henv rfl)) ?_
              exact ⟨by rw [decide_eq_true (show (i = i2 ∧ g = g2 ∧ es0 = es2 ∧ es1 = es3) from ⟨by assumption, by assumption, hsfJ, hsfI⟩)], hst.below⟩
set_option maxRecDepth 100000 in
set_option maxHeartbeats 2000000 in
theorem g_cloneJ_nil {c0 : Nat} {es0 : List IE} {w0 : World} (h0 : (pfRow fJ FJ 5 none 0 c0 es0).P w0) :
    Calls Tryd.prog 41 #[.slice none 0 c0] w0 fun e w' => ∃ A c, e = .returned (.slice A 0 c) ∧ NewRow notU 37 5 fJ FJ w0.heap.size w' A 0 c es0 ∧ Below w0.heap.size w0 w' := by
  refine enter Tryd.func41 rfl Tryd.ntmps41 rfl ?_
  intro a henv hst
  have hlen0 := h0.2.1
  have hcap0 := h0.1.cap
  have hmx0 := h0.1.big
  replace hst := hst.argRow h0
  clear h0
  refine wp_seq ?_
  refine region_seq ?_
  refine sv (v := .slice none 0 0) henv rfl (rn_assign henv rfl) ?_
  clear henv a; intro a henv
  refine wpList_nil ?_
  refine th_n ?_
  refine wp_seq ?_
  refine wp_seq ?_
  refine region_seq ?_
  revert a
  refine mA rfl rfl ?_
  refine sA (v := .bool none.isNone) rfl (fun _ henv => rn_nilS henv Tryd.underlying22 rfl) ?_
  intro a henv
  rw [show none.isNone = true from rfl] at henv
  refine wpList_nil ?_
  refine th_n ?_
  refine if_t henv rfl (rfl) ?_
  refine wp_seq ?_
  refine region_seq ?_
  refine sv (v := .slice none 0 0) henv rfl (rn_assign henv rfl) ?_
  clear henv a; intro a henv
  refine wpList_nil ?_
  refine th_n ?_
  refine wp_ret ?_
  refine th_r ?_
  refine leave henv (res1 Tryd.results41 (RV.tmp henv rfl)) ?_
  obtain rfl : es0 = [] := List.eq_nil_of_length_eq_zero hlen0
  exact ⟨_, _, rfl, newrow_nil, hst.below⟩
set_option maxRecDepth 100000 in
set_option maxHeartbeats 2000000 in
theorem g_cloneJ_e {A0 : Option Addr} {c0 : Nat} {es0 : List IE} {w0 : World} (h0 : (pfRow fJ FJ 5 A0 0 c0 es0).P w0) (hA : A0.isNone = false) :
    Calls Tryd.prog 41 #[.slice A0 0 c0] w0 fun e w' => ∃ A c, e = .returned (.slice A 0 c) ∧ NewRow notU 37 5 fJ FJ w0.heap.size w' A 0 c es0 ∧ Below w0.heap.size w0 w' := by
  refine enter Tryd.func41 rfl Tryd.ntmps41 rfl ?_
  intro a henv hst
  have hlen0 := h0.2.1
  have hcap0 := h0.1.cap
  have hmx0 := h0.1.big
  replace hst := hst.argRow h0
  clear h0
  refine wp_seq ?_
  refine region_seq ?_
  refine sv (v := .slice none 0 0) henv rfl (rn_assign henv rfl) ?_
  clear henv a; intro a henv
  refine wpList_nil ?_
  refine th_n ?_
  refine wp_seq ?_
  refine wp_seq ?_
  refine region_seq ?_
  revert a
  refine mA rfl rfl ?_
  refine sA (v := .bool A0.isNone) rfl (fun _ henv => rn_nilS henv Tryd.underlying22 rfl) ?_
  intro a henv
  rw [show A0.isNone = false from hA] at henv
  refine wpList_nil ?_
  refine th_n ?_
  refine if_f henv rfl (rfl) ?_
  refine wp_skip ?_
  refine th_n ?_
  refine wp_seq ?_
  refine region_seq ?_
  refine seq_step rfl (op_buildSlice0 henv hst rfl Tryd.underlying22 (ty_anvil_api_Instr.size) ?_)
  clear henv hst a; intro a w52 g51 henv hst
  replace hst := (hst.bkRow0 (k := 0) rfl 5)
  replace hst : St w0 _ [rowS notU 37 5 (some ⟨g51, 0, none⟩) 0 0 (fl fJ ([]))] [pfRow fJ FJ 5 A0 0 c0 es0] := hst
  refine sv (v := .slice A0 0 c0) henv rfl (rn_move henv rfl) ?_
  clear henv a; intro a henv
  refine seq_step rfl (op_appendR0 (k := 0) henv hst rfl Tryd.underlying22 (ty_anvil_api_Instr.size) rfl rfl rfl ?_)
  clear henv a; intro a henv
  refine sv (v := .slice (some ⟨g51, 0, none⟩) 0 0) henv rfl (rn_assign henv rfl) ?_
  clear henv a; intro a henv
  refine wpList_nil ?_
  refine th_n ?_
  refine wp_ret ?_
  refine leave henv (res1 Tryd.results41 (RV.tmp henv rfl)) ?_
  obtain rfl : es0 = [] := List.eq_nil_of_length_eq_zero hlen0
  exact ⟨_, _, rfl, newrow_of (hst.owns (k := 0) rfl) (fun b hb => hst.new _ (List.mem_of_getElem? (i := 0) rfl) b hb) rfl, hst.below⟩
set_option maxRecDepth 100000 in
set_option maxHeartbeats 2000000 in
theorem g_cloneJ_ok {A0 : Option Addr} {n0 c0 : Nat} {es0 : List IE} {w0 : World} (h0 : (pfRow fJ FJ 5 A0 n0 c0 es0).P w0) (hp : 0 < n0)  (hA : A0.isNone = false) (hn : n0 ≤ 100000) :
    Calls Tryd.prog 41 #[.slice A0 n0 c0] w0 fun e w' => ∃ A c, e = .returned (.slice A n0 c) ∧ NewRow notU 37 5 fJ FJ w0.heap.size w' A n0 c es0 ∧ Below w0.heap.size w0 w' := by
  refine enter Tryd.func41 rfl Tryd.ntmps41 rfl ?_
  intro a henv hst
  have hlen0 := h0.2.1
  have hcap0 := h0.1.cap
  have hmx0 := h0.1.big
  replace hst := hst.argRow h0
  clear h0
  refine wp_seq ?_
  refine region_seq ?_
  refine sv (v := .slice none 0 0) henv rfl (rn_assign henv rfl) ?_
  clear henv a; intro a henv
  refine wpList_nil ?_
  refine th_n ?_
  refine wp_seq ?_
  refine wp_seq ?_
  refine region_seq ?_
  revert a
  refine mA rfl rfl ?_
  refine sA (v := .bool A0.isNone) rfl (fun _ henv => rn_nilS henv Tryd.underlying22 rfl) ?_
  intro a henv
  rw [show A0.isNone = false from hA] at henv
  refine wpList_nil ?_
  refine th_n ?_
  refine if_f henv rfl (rfl) ?_
  refine wp_skip ?_
  refine th_n ?_
  refine wp_seq ?_
  refine region_seq ?_
  refine seq_step rfl (op_buildSlice0 henv hst rfl Tryd.underlying22 (ty_anvil_api_Instr.size) ?_)
  clear henv hst a; intro a w52 g51 henv hst
  replace hst := (hst.bkRow0 (k := 0) rfl 5)
  replace hst : St w0 _ [rowS notU 37 5 (some ⟨g51, 0, none⟩) 0 0 (fl fJ ([]))] [pfRow fJ FJ 5 A0 n0 c0 es0] := hst
  refine sv (v := .slice A0 n0 c0) henv rfl (rn_move henv rfl) ?_
  clear henv a; intro a henv
  refine seq_step rfl (op_appendR (k := 0) henv hst rfl Tryd.underlying22 inf_anvil_api_Instr rfl rfl rfl rfl rfl (hst.pat (k := 0) rfl).1 (fl_all (fun _ => rfl) _) (fl_all (fun _ => rfl) _) rfl (by omega) (by unfold maxLen; omega) (by omega) ?_)
  clear henv hst a; intro a w55 g53 c54 henv hst
  rw [show fl fJ ([]) ++ fl fJ es0 = fl fJ es0 from rfl] at hst
  replace hst : St w0 _ [rowS notU 37 5 (some ⟨g53, 0, none⟩) (0 + n0) c54 (fl fJ es0)] [pfRow fJ FJ 5 A0 n0 c0 es0] := hst
  refine sv (v := .slice (some ⟨g53, 0, none⟩) (0 + n0) c54) henv rfl (rn_assign henv rfl) ?_
  clear henv a; intro a henv
  refine wpList_nil ?_
  refine th_n ?_
  refine wp_ret ?_
  refine leave henv (res1 Tryd.results41 (RV.tmp henv rfl)) ?_
  exact ⟨_, _, congrArg (fun k => Ending.returned (Value.slice _ k _)) (Nat.zero_add _), newrow_of (hst.owns (k := 0) rfl) (fun b hb => hst.new _ (List.mem_of_getElem? (i := 0) rfl) b hb) (Nat.zero_add _), hst.below⟩
theorem g_cloneJ {A0 : Option Addr} {n0 c0 : Nat} {es0 : List IE} {w0 : World} (h0 : (pfRow fJ FJ 5 A0 n0 c0 es0).P w0) (hn : n0 ≤ 100000) :
    Calls Tryd.prog 41 #[.slice A0 n0 c0] w0 fun e w' => ∃ A c, e = .returned (.slice A n0 c) ∧ NewRow notU 37 5 fJ FJ w0.heap.size w' A n0 c es0 ∧ Below w0.heap.size w0 w' := by
  cases A0 with
  | none =>
    have hn0 := row_none h0 rfl
    subst hn0
    exact g_cloneJ_nil h0
  | some a =>
    rcases Nat.eq_zero_or_pos n0 with h | h
    · subst h
      exact g_cloneJ_e h0 rfl
    · exact g_cloneJ_ok h0 h rfl hn
set_option maxRecDepth 100000 in
set_option maxHeartbeats 2000000 in
theorem g_cloneI_nil {c0 : Nat} {es0 : List Int} {w0 : World} (h0 : (pfRow fI FI 1 none 0 c0 es0).P w0) :
    Calls Tryd.prog 42 #[.slice none 0 c0] w0 fun e w' => ∃ A c, e = .returned (.slice A 0 c) ∧ NewRow notU 3 1 fI FI w0.heap.size w' A 0 c es0 ∧ Below w0.heap.size w0 w' := by
  refine enter Tryd.func42 rfl Tryd.ntmps42 rfl ?_
  intro a henv hst
  have hlen0 := h0.2.1
  have hcap0 := h0.1.cap
  have hmx0 := h0.1.big
  replace hst := hst.argRow h0
  clear h0
  refine wp_seq ?_
  refine region_seq ?_
  refine sv (v := .slice none 0 0) henv rfl (rn_assign henv rfl) ?_
  clear henv a; intro a henv
  refine wpList_nil ?_
  refine th_n ?_
  refine wp_seq ?_
  refine wp_seq ?_
  refine region_seq ?_
  revert a
  refine mA rfl rfl ?_
  refine sA (v := .bool none.isNone) rfl (fun _ henv => rn_nilS henv Tryd.underlying23 rfl) ?_
  intro a henv
  rw [show none.isNone = true from rfl] at henv
  refine wpList_nil ?_
  refine th_n ?_
  refine if_t henv rfl (rfl) ?_
  refine wp_seq ?_
  refine region_seq ?_
  refine sv (v := .slice none 0 0) henv rfl (rn_assign henv rfl) ?_
  clear henv a; intro a henv
  refine wpList_nil ?_
  refine th_n ?_
  refine wp_ret ?_
  refine th_r ?_
  refine leave henv (res1 Tryd.results42 (RV.tmp henv rfl)) ?_
  obtain rfl : es0 = [] := List.eq_nil_of_length_eq_zero hlen0
  exact ⟨_, _, rfl, newrow_nil, hst.below⟩
set_option maxRecDepth 100000 in
set_option maxHeartbeats 2000000 in
theorem g_cloneI_e {A0 : Option Addr} {c0 : Nat} {es0 : List Int} {w0 : World} (h0 : (pfRow fI FI 1 A0 0 c0 es0).P w0) (hA : A0.isNone = false) :
    Calls Tryd.prog 42 #[.slice A0 0 c0] w0 fun e w' => ∃ A c, e = .returned (.slice A 0 c) ∧ NewRow notU 3 1 fI FI w0.heap.size w' A 0 c es0 ∧ Below w0.heap.size w0 w' := by
  refine enter Tryd.func42 rfl Tryd.ntmps42 rfl ?_
  intro a henv hst
  have hlen0 := h0.2.1
  have hcap0 := h0.1.cap
  have hmx0 := h0.1.big
  replace hst := hst.argRow h0
  clear h0
  refine wp_seq ?_
  refine region_seq ?_
  refine sv (v := .slice none 0 0) henv rfl (rn_assign henv rfl) ?_
  clear henv a; intro a henv
  refine wpList_nil ?_
  refine th_n ?_
  refine wp_seq ?_
  refine wp_seq ?_
  refine region_seq ?_
  revert a
  refine mA rfl rfl ?_
  refine sA (v := .bool A0.isNone) rfl (fun _ henv => rn_nilS henv Tryd.underlying23 rfl) ?_
  intro a henv
  rw [show A0.isNone = false from hA] at henv
  refine wpList_nil ?_
  refine th_n ?_
  refine if_f henv rfl (rfl) ?_
  refine wp_skip ?_
  refine th_n ?_
  refine wp_seq ?_
  refine region_seq ?_
  refine seq_step rfl (op_buildSlice0 henv hst rfl Tryd.underlying23 (ty_int.size) ?_)
  clear henv hst a; intro a w52 g51 henv hst
  replace hst := (hst.bkRow0 (k := 0) rfl 1)
  replace hst : St w0 _ [rowS notU 3 1 (some ⟨g51, 0, none⟩) 0 0 (fl fI ([]))] [pfRow fI FI 1 A0 0 c0 es0] := hst
  refine sv (v := .slice A0 0 c0) henv rfl (rn_move henv rfl) ?_
  clear henv a; intro a henv
  refine seq_step rfl (op_appendR0 (k := 0) henv hst rfl Tryd.underlying23 (ty_int.size) rfl rfl rfl ?_)
  clear henv a; intro a henv
  refine sv (v := .slice (some ⟨g51, 0, none⟩) 0 0) henv rfl (rn_assign henv rfl) ?_
  clear henv a; intro a henv
  refine wpList_nil ?_
  refine th_n ?_
  refine wp_ret ?_
  refine leave henv (res1 Tryd.results42 (RV.tmp henv rfl)) ?_
  obtain rfl : es0 = [] := List.eq_nil_of_length_eq_zero hlen0
  exact ⟨_, _, rfl, newrow_of (hst.owns (k := 0) rfl) (fun b hb => hst.new _ (List.mem_of_getElem? (i := 0) rfl) b hb) rfl, hst.below⟩
set_option maxRecDepth 100000 in
set_option maxHeartbeats 2000000 in
theorem g_cloneI_ok {A0 : Option Addr} {n0 c0 : Nat} {es0 : List Int} {w0 : World} (h0 : (pfRow fI FI 1 A0 n0 c0 es0).P w0) (hp : 0 < n0)  (hA : A0.isNone = false) (hn : n0 ≤ 100000) :
    Calls Tryd.prog 42 #[.slice A0 n0 c0] w0 fun e w' => ∃ A c, e = .returned (.slice A n0 c) ∧ NewRow notU 3 1 fI FI w0.heap.size w' A n0 c es0 ∧ Below w0.heap.size w0 w' := by
  refine enter Tryd.func42 rfl Tryd.ntmps42 rfl ?_
  intro a henv hst
  have hlen0 := h0.2.1
  have hcap0 := h0.1.cap
  have hmx0 := h0.1.big
  replace hst := hst.argRow h0
  clear h0
  refine wp_seq ?_
  refine region_seq ?_
  refine sv (v := .slice none 0 0) henv rfl (rn_assign henv rfl) ?_
  clear henv a; intro a henv
  refine wpList_nil ?_
  refine th_n ?_
  refine wp_seq ?_
  refine wp_seq ?_
  refine region_seq ?_
  revert a
  refine mA rfl rfl ?_
  refine sA (v := .bool A0.isNone) rfl (fun _ henv => rn_nilS henv Tryd.underlying23 rfl) ?_
  intro a henv
  rw [show A0.isNone = false from hA] at henv
  refine wpList_nil ?_
  refine th_n ?_
  refine if_f henv rfl (rfl) ?_
  refine wp_skip ?_
  refine th_n ?_
  refine wp_seq ?_
  refine region_seq ?_
  refine seq_step rfl (op_buildSlice0 henv hst rfl Tryd.underlying23 (ty_int.size) ?_)
  clear henv hst a; intro a w52 g51 henv hst
  replace hst := (hst.bkRow0 (k := 0) rfl 1)
  replace hst : St w0 _ [rowS notU 3 1 (some ⟨g51, 0, none⟩) 0 0 (fl fI ([]))] [pfRow fI FI 1 A0 n0 c0 es0] := hst
  refine sv (v := .slice A0 n0 c0) henv rfl (rn_move henv rfl) ?_
  clear henv a; intro a henv
  refine seq_step rfl (op_appendR (k := 0) henv hst rfl Tryd.underlying23 inf_int rfl rfl rfl rfl rfl (hst.pat (k := 0) rfl).1 (fl_all (fun _ => rfl) _) (fl_all (fun _ => rfl) _) rfl (by omega) (by unfold maxLen; omega) (by omega) ?_)
  clear henv hst a; intro a w55 g53 c54 henv hst
  rw [show fl fI ([]) ++ fl fI es0 = fl fI es0 from rfl] at hst
  replace hst : St w0 _ [rowS notU 3 1 (some ⟨g53, 0, none⟩) (0 + n0) c54 (fl fI es0)] [pfRow fI FI 1 A0 n0 c0 es0] := hst
  refine sv (v := .slice (some ⟨g53, 0, none⟩) (0 + n0) c54) henv rfl (rn_assign henv rfl) ?_
  clear henv a; intro a henv
  refine wpList_nil ?_
  refine th_n ?_
  refine wp_ret ?_
  refine leave henv (res1 Tryd.results42 (RV.tmp henv rfl)) ?_
  exact ⟨_, _, congrArg (fun k => Ending.returned (Value.slice _ k _)) (Nat.zero_add _), newrow_of (hst.owns (k := 0) rfl) (fun b hb => hst.new _ (List.mem_of_getElem? (i := 0) rfl) b hb) (Nat.zero_add _), hst.below⟩
theorem g_cloneI {A0 : Option Addr} {n0 c0 : Nat} {es0 : List Int} {w0 : World} (h0 : (pfRow fI FI 1 A0 n0 c0 es0).P w0) (hn : n0 ≤ 100000) :
    Calls Tryd.prog 42 #[.slice A0 n0 c0] w0 fun e w' => ∃ A c, e = .returned (.slice A n0 c) ∧ NewRow notU 3 1 fI FI w0.heap.size w' A n0 c es0 ∧ Below w0.heap.size w0 w' := by
  cases A0 with
  | none =>
    have hn0 := row_none h0 rfl
    subst hn0
    exact g_cloneI_nil h0
  | some a =>
    rcases Nat.eq_zero_or_pos n0 with h | h
    · subst h
      exact g_cloneI_e h0 rfl
    · exact g_cloneI_ok h0 h rfl hn
end Go.Proofs.YtbdngknpngcojaaDoor.W

/- Copy; ProgCopies. Printed by pv/gen_g4.py. No condition. -/
namespace Go.Proofs.YtbdngknpngcojaaDoor.W
open Go.RowKit Anv Go.Lib
section
variable {N : Nat} {dq : List Deferred} {a : Act} {l : List (Nat × Value)} {w : World} {d : Nat} {ty : TypeId} {pos : String} {af : Array Edge} {gd : Option (Nat × Bool)}
theorem rn_prog01 {x0 x1 : Operand} {v0 : Int} {v1 : Int} (h : EnvD dq N a l) (h0 : evl l x0 = some (.int .i64 v0)) (h1 : evl l x1 = some (.int .i64 v1)) :
    (execOp a.eval ⟨some d, .build 25 #[(0, x0), (1, x1)], ty, pos, af, gd⟩).run Tryd.prog w = .ok (.value (.agg #[.int .i64 v0, .int .i64 v1, .slice none 0 0, .slice none 0 0])) w := by
  have hz : (zeroValue 25).run Tryd.prog w = .ok (.agg #[.int .i64 0, .int .i64 0, .slice none 0 0, .slice none 0 0]) w := by obtain ⟨i, hi, hv⟩ := zero_anvil_api_Prog; simp [zeroValue, typeInfo, hi, hv]
  simp [execOp, h.ev h0, h.ev h1, Instr.build, hz, run_underlying Tryd.underlying25, Sem.run_bind, run_sizeOf ty_int.size, run_sizeOf ty__api_Instr.size, run_sizeOf ty__int.size, Instr.fill, Value.cells]
theorem rn_instr0 {x0 : Operand} {v0 : Int} (h : EnvD dq N a l) (h0 : evl l x0 = some (.int .i64 v0)) :
    (execOp a.eval ⟨some d, .build 37 #[(0, x0)], ty, pos, af, gd⟩).run Tryd.prog w = .ok (.value (.agg #[.int .i64 v0, .int .i64 0, .int .i64 0, .int .i64 0, .int .i64 0])) w := by
  have hz : (zeroValue 37).run Tryd.prog w = .ok (.agg #[.int .i64 0, .int .i64 0, .int .i64 0, .int .i64 0, .int .i64 0]) w := by obtain ⟨i, hi, hv⟩ := zero_anvil_api_Instr; simp [zeroValue, typeInfo, hi, hv]
  simp [execOp, h.ev h0, Instr.build, hz, run_underlying Tryd.underlying37, Sem.run_bind, run_sizeOf ty_int.size, Instr.fill, Value.cells]
end
def TwoR (b0 : Nat) (w : World) (A : Option Addr) (n c : Nat) (es : List IE) (B : Option Addr) (m d : Nat) (os : List Int) : Prop :=
  NewRow notU 37 5 fJ FJ b0 w A n c es ∧ NewRow notU 3 1 fI FI b0 w B m d os ∧ ∀ a b, A = some a → B = some b → a.block ≠ b.block
theorem St.own2 {w0 w w' : World} {own ps : List PF} {A B : Option Addr} {n c m d : Nat} {es : List IE} {os : List Int} (h : St w0 w own ps) (hb : Below w.heap.size w w') (hr : TwoR w.heap.size w' A n c es B m d os) : St w0 w' (rowS notU 37 5 A n c (fl fJ es) :: rowS notU 3 1 B m d (fl fI os) :: own) ps := by
  have n1 : ∀ b, (rowS notU 37 5 A n c (fl fJ es)).foot b → w.heap.size ≤ b := fun b q => by
    obtain ⟨a, ha, rfl⟩ := rowS_foot q
    exact hr.1.2.2 a ha
  have h2 := h.add hb (rowS notU 3 1 B m d (fl fI os)) hr.2.1.1 fun b q => by
    obtain ⟨a, ha, rfl⟩ := rowS_foot q
    exact hr.2.1.2.2 a ha
  refine ⟨h2.below, fun f hf => ?_, fun f hf b hfb => ?_, List.pairwise_cons.2 ⟨fun f hf b q1 q2 => ?_, h2.nd⟩, h2.pers, fun p hp f hf b q1 q2 => ?_⟩
  · rcases List.mem_cons.1 hf with rfl | hf
    · exact hr.1.1
    · exact h2.mine f hf
  · rcases List.mem_cons.1 hf with rfl | hf
    · exact Nat.le_trans h.below.size (n1 b hfb)
    · exact h2.new f hf b hfb
  · rcases List.mem_cons.1 hf with rfl | hf
    · obtain ⟨x, hx, hxb⟩ := rowS_foot q1
      obtain ⟨y, hy, hyb⟩ := rowS_foot q2
      exact hr.2.2 x y hx hy (hxb.trans hyb.symm)
    · have := f.lt (h.mine f hf) q2
      have := n1 b q1
      omega
  · rcases List.mem_cons.1 hf with rfl | hf
    · have := p.lt (h.pers p hp) q2
      have := n1 b q1
      omega
    · exact h2.apart p hp f hf b q1 q2
abbrev V5 := Value × Value × Value × Value × Value
def fV5 (p : V5) : List Value := [p.1, p.2.1, p.2.2.1, p.2.2.2.1, p.2.2.2.2]
theorem fV5_len (p : V5) : (fV5 p).length = 5 := rfl
def fV1 (v : Value) : List Value := [v]
theorem fV1_len (v : Value) : (fV1 v).length = 1 := rfl
theorem fives : ∀ (n : Nat) (l : List Value), l.length = n * 5 → ∃ ps : List V5, fl fV5 ps = l ∧ ps.length = n
  | 0, l, h => ⟨[], (List.eq_nil_of_length_eq_zero (by omega)).symm, rfl⟩
  | n + 1, a :: b :: c :: d :: e :: l, h => by
    obtain ⟨ps, h1, h2⟩ := fives n l (by simp at h; omega)
    exact ⟨(a, b, c, d, e) :: ps, by rw [fl, h1]; rfl, by rw [List.length_cons, h2]⟩
  | n + 1, [], h => by simp at h
  | n + 1, [_], h => by simp at h; omega
  | n + 1, [_, _], h => by simp at h; omega
  | n + 1, [_, _, _], h => by simp at h; omega
  | n + 1, [_, _, _, _], h => by simp at h; omega
theorem ones : ∀ l : List Value, fl fV1 l = l
  | [] => rfl
  | v :: l => by rw [fl, ones l]; rfl
theorem rowS_allz {α : Type} {f : α → List Value} {E z n c : Nat} {A : Option Addr} {vs : List Value} {w : World} (hz : 0 < z) (hf : ∀ (n : Nat) (l : List Value), l.length = n * z → ∃ ps : List α, fl f ps = l ∧ ps.length = n) (h : (rowS notU E z A n c vs).P w) : ∃ ps : List α, (rowS notU E z A c c (fl f ps)).P w ∧ ps.length = c := by
  have h1 : w.ownsRow 0 E z (.slice A n c) n vs := h.1
  rcases h1.2 with ⟨e, hn⟩ | ⟨g, cap, cur, e, hg0, hg, hnc, hb, hcs, ht⟩
  · cases e
    refine ⟨[], ⟨World.ownsRow_nil w 0 E z, fun g hg => by simp [Value.ownBlock] at hg⟩, rfl⟩
  · cases e
    obtain ⟨ps, hp, hl⟩ := hf c cur.toList (by rw [Array.length_toList, hcs])
    refine ⟨ps, ⟨⟨by rw [hp, Array.length_toList, hcs], .inr ⟨g, c, cur, rfl, hg0, hg, Nat.le_refl _, hb, hcs, by rw [hp, List.take_of_length_le (by rw [Array.length_toList, hcs]; exact Nat.le_refl _)]⟩⟩, fun g' hg' => h.2 g' hg'⟩, hl⟩
theorem St.rowAll5 {E n c k : Nat} {A : Option Addr} {vs : List Value} {w0 w : World} {own ps : List PF} (h : St w0 w own ps) (hk : own[k]? = some (rowS notU E 5 A n c vs)) : ∃ es : List V5, es.length = c ∧ St w0 w (own.set k (rowS notU E 5 A c c (fl fV5 es))) ps := by
  obtain ⟨es, h1, h2⟩ := rowS_allz (by decide) fives (h.owns hk)
  refine ⟨es, h2, h.step' hk h1 (fun b hb => .inl ?_) rfl rfl rfl (Nat.le_refl _) fun _ _ _ => rfl⟩
  obtain ⟨a, rfl, rfl⟩ := rowS_foot hb
  rfl
theorem St.rowAll1 {E n c k : Nat} {A : Option Addr} {vs : List Value} {w0 w : World} {own ps : List PF} (h : St w0 w own ps) (hk : own[k]? = some (rowS notU E 1 A n c vs)) : ∃ es : List Value, es.length = c ∧ St w0 w (own.set k (rowS notU E 1 A c c (fl fV1 es))) ps := by
  obtain ⟨es, h1, h2⟩ := rowS_allz (f := fV1) (by decide) (fun n l hl => ⟨l, ones l, by omega⟩) (h.owns hk)
  refine ⟨es, h2, h.step' hk h1 (fun b hb => .inl ?_) rfl rfl rfl (Nat.le_refl _) fun _ _ _ => rfl⟩
  obtain ⟨a, rfl, rfl⟩ := rowS_foot hb
  rfl
set_option maxRecDepth 100000 in
set_option maxHeartbeats 2000000 in
theorem g_copy {i g : Int} {A0 A1 : Option Addr} {n0 c0 n1 c1 : Nat} {es0 : List IE} {es1 : List Int} {w0 : World} (h0 : (pfRow fJ FJ 5 A0 n0 c0 es0).P w0) (h1 : (pfRow fI FI 1 A1 n1 c1 es1).P w0) (hn0 : n0 ≤ 100000) (hn1 : n1 ≤ 100000) :
    Calls Tryd.prog 21 #[.agg #[.int .i64 i, .int .i64 g, .slice A0 n0 c0, .slice A1 n1 c1]] w0 fun e w' => ∃ A c B d, e = .returned (.agg #[.int .i64 i, .int .i64 g, .slice A n0 c, .slice B n1 d]) ∧ TwoR w0.heap.size w' A n0 c es0 B n1 d es1 ∧ Below w0.heap.size w0 w' := by
  refine enter Tryd.func21 rfl Tryd.ntmps21 rfl ?_
  intro a henv hst
  have hlen0 := h0.2.1
  have hbig0 := Nat.le_trans h0.1.cap h0.1.big
  unfold maxLen at hbig0
  have hlen1 := h1.2.1
  have hbig1 := Nat.le_trans h1.1.cap h1.1.big
  unfold maxLen at hbig1
  replace hst := hst.argRow h0
  replace hst := hst.argRow h1
  clear h0 h1
  refine wp_seq ?_
  refine region_seq ?_
  refine seq_step rfl (op_box (c := #[.int .i64 i, .int .i64 g, .slice A0 n0 c0, .slice A1 n1 c1]) henv hst rfl rfl rfl ?_)
  clear henv hst a; intro a w52 g51 henv hst
  refine seq_step rfl (op_alloc (c := #[.int .i64 0, .int .i64 0, .slice none 0 0, .slice none 0 0]) henv hst rfl zero_anvil_api_Prog rfl ?_)
  clear henv hst a; intro a w54 g53 henv hst
  refine wpList_nil ?_
  refine th_n ?_
  refine wp_seq ?_
  refine region_any (n := 10) (Sk [bk g53 #[.int .i64 0, .int .i64 0, .slice none 0 0, .slice none 0 0] 25] [pfRow fI FI 1 A1 n1 c1 es1, pfRow fJ FJ 5 A0 n0 c0 es0] [7, 9] [bk g51 #[.int .i64 i, .int .i64 g, .slice A0 n0 c0, .slice A1 n1 c1] 25]) mixed rfl henv hst ?_
  clear henv hst; intro w55 henv hst
  refine tA (i := 0) [1, 2, 5, 6, 7, 8, 9] (v := .pointer (some ⟨g51, 2, none⟩)) rfl (by kernel_rfl) (fun _ _ _ h => h) henv rfl (fun _ => rn_fieldAddr henv fd_anvil_api_Prog_2 (ty__api_Instr.size) (by decide) rfl) ?_
  clear henv a; intro a henv
  refine sAny_take (i := 1) [2, 5, 6, 7, 8, 9] (fun w' => w'.heap[g51]? = some (.cells #[.int .i64 i, .int .i64 g, .slice A0 n0 c0, .slice A1 n1 c1] 25 (0, 0))) (v := .slice A0 n0 c0) rfl (by kernel_rfl) (fun _ _ _ h => h) (fun _ _ hj hS => (hS.two rfl hj).oat (k := 0) rfl) henv rfl (hst.oat (k := 1) rfl) (fun w' hg => rn_load1 henv ty__api_Instr rfl hg rfl) ?_
  clear henv a; intro a henv
  refine tA (i := 3) (rg 4 6) (v := .pointer (some ⟨g51, 3, none⟩)) rfl (by kernel_rfl) (fun _ _ _ h => h) henv rfl (fun _ => rn_fieldAddr henv fd_anvil_api_Prog_3 (ty__int.size) (by decide) rfl) ?_
  clear henv a; intro a henv
  refine sAny_take (i := 4) [5, 6, 7, 8, 9] (fun w' => w'.heap[g51]? = some (.cells #[.int .i64 i, .int .i64 g, .slice A0 n0 c0, .slice A1 n1 c1] 25 (0, 0))) (v := .slice A1 n1 c1) rfl (by kernel_rfl) (fun _ _ _ h => h) (fun _ _ hj hS => (hS.two rfl hj).oat (k := 0) rfl) henv rfl (hst.oat (k := 1) rfl) (fun w' hg => rn_load1 henv ty__int rfl hg rfl) ?_
  clear henv a; intro a henv
  refine sAny_one (i := 2) (by kernel_rfl) rfl rfl (op_call henv rfl Tryd.call41 rfl (g_cloneJ (hst.pat (k := 1) rfl) (by omega)) ?_)
  rintro e w59 ⟨A56, c57, rfl, hr, hb⟩
  refine ⟨_, rfl, ?_⟩
  clear henv a; intro a henv
  replace hst := hst.freshRow hb hr (fun _ _ _ _ _ q => by obtain ⟨_, _, q⟩ := q; cases q)
  clear hr
  clear hb
  refine ⟨.inr ⟨hst.kn.pick [1] [1, 2], .inr (hst.kn.pick [2] [])⟩, ?_⟩
  refine tA (i := 6) [7, 8, 9] (v := .pointer (some ⟨g51, 2, none⟩)) rfl (by kernel_rfl) (fun _ _ _ h => h) henv rfl (fun _ => rn_fieldAddr henv fd_anvil_api_Prog_2 (ty__api_Instr.size) (by decide) rfl) ?_
  clear henv a; intro a henv
  refine sAny_one (i := 5) (by kernel_rfl) rfl rfl (op_call henv rfl Tryd.call42 rfl (g_cloneI (hst.pat (k := 1) rfl) (by omega)) ?_)
  rintro e w63 ⟨A60, c61, rfl, hr, hb⟩
  refine ⟨_, rfl, ?_⟩
  clear henv a; intro a henv
  replace hst := hst.freshRow hb hr (fun _ _ _ _ _ q => by obtain ⟨_, _, q⟩ := q; cases q)
  clear hr
  clear hb
  refine ⟨.inr ⟨hst.kn.pick [2] [2, 3], .inr (hst.kn.pick [3] [])⟩, ?_⟩
  refine sAny_one (i := 7) (by kernel_rfl) rfl rfl (op_store1 (k := 3) (c' := #[.int .i64 i, .int .i64 g, .slice A56 n0 c57, .slice A1 n1 c1]) henv hst (ty__api_Instr.size) rfl rfl rfl (by simp) rfl rfl ?_)
  clear henv hst a; intro a w64 henv hst
  refine ⟨.inr ⟨hst.kn.pick [2] [2, 3], .inl rfl⟩, ?_⟩
  refine tA (i := 8) [9] (v := .pointer (some ⟨g51, 3, none⟩)) rfl (by kernel_rfl) (fun _ _ _ h => h) henv rfl (fun _ => rn_fieldAddr henv fd_anvil_api_Prog_3 (ty__int.size) (by decide) rfl) ?_
  clear henv a; intro a henv
  refine sAny_one (i := 9) (by kernel_rfl) rfl rfl (op_store1 (k := 3) (c' := #[.int .i64 i, .int .i64 g, .slice A56 n0 c57, .slice A60 n1 c61]) henv hst (ty__int.size) rfl rfl rfl (by simp) rfl rfl ?_)
  clear henv hst a; intro a w65 henv hst
  refine ⟨.inr ⟨hst.kn.pick [2] [2, 3], .inl rfl⟩, ?_⟩
  refine sAny_done (by kernel_rfl) ?_ _
  refine th_n ?_
  refine wp_seq ?_
  refine region_seq ?_
  refine sv (v := .agg #[.int .i64 i, .int .i64 g, .slice A56 n0 c57, .slice A60 n1 c61]) henv rfl (rn_load0 henv ty_anvil_api_Prog rfl (hst.oat (k := 3) rfl) rfl) ?_
  clear henv a; intro a henv
  refine seq_step rfl (op_store (k := 2) (c' := #[.int .i64 i, .int .i64 g, .slice A56 n0 c57, .slice A60 n1 c61]) henv hst (ty_anvil_api_Prog.size) rfl rfl rfl rfl (by simp) rfl rfl ?_)
  clear henv hst a; intro a w66 henv hst
  refine wpList_nil ?_
  refine th_n ?_
  refine wp_ret ?_
  refine leave henv (res1 Tryd.results21 (RV.cell henv ty_anvil_api_Prog rfl (hst.oat (k := 2) rfl) rfl)) ?_
  exact ⟨_, _, _, _, rfl, ⟨newrow_of (hst.owns (k := 1) rfl) (fun b hb => hst.new _ (List.mem_of_getElem? (i := 1) rfl) b hb) rfl, newrow_of (hst.owns (k := 0) rfl) (fun b hb => hst.new _ (List.mem_of_getElem? (i := 0) rfl) b hb) rfl, fun a b ha hb hab => hst.one (k := 1) (j := 0) rfl rfl (by decide) a.block (by cases ha <;> rfl) (by cases hb <;> exact congrArg some hab.symm)⟩, hst.below⟩
set_option maxRecDepth 100000 in
set_option maxHeartbeats 2000000 in
theorem r_copy00 {i g : Int} {A0 A1 : Option Addr} {c0 c1 : Nat} {es0 : List IE} {es1 : List Int} {w0 : World} (h0 : (pfRow fJ FJ 5 A0 0 c0 es0).P w0) (h1 : (pfRow fI FI 1 A1 0 c1 es1).P w0) :
    Calls Tryd.prog 20 #[.agg #[.int .i64 i, .int .i64 g, .slice A0 0 c0, .slice A1 0 c1]] w0 fun e w' => ∃ A c B d, e = .returned (.agg #[.int .i64 i, .int .i64 g, .slice A 0 c, .slice B 0 d]) ∧ TwoR w0.heap.size w' A 0 c es0 B 0 d es1 ∧ Below w0.heap.size w0 w' := by
  refine enter Tryd.func20 rfl Tryd.ntmps20 rfl ?_
  intro a henv hst
  have hlen0 := h0.2.1
  have hlen1 := h1.2.1
  replace hst := (hst.argRow h1).argRow h0
  clear h0 h1
  refine wp_seq ?_
  refine region_seq ?_
  refine seq_step rfl (op_box (c := #[.int .i64 i, .int .i64 g, .slice A0 0 c0, .slice A1 0 c1]) henv hst rfl rfl rfl ?_)
  clear henv hst a; intro a w52 g51 henv hst
  refine seq_step rfl (op_alloc (c := #[.int .i64 0, .int .i64 0, .slice none 0 0, .slice none 0 0]) henv hst rfl zero_anvil_api_Prog rfl ?_)
  clear henv hst a; intro a w54 g53 henv hst
  refine wpList_nil ?_
  refine th_n ?_
  refine wp_seq ?_
  refine region_seq ?_
  revert a
  refine sA (v := .pointer (some ⟨g51, 0, none⟩)) rfl (fun _ henv => rn_fieldAddr henv fd_anvil_api_Prog_0 (ty_int.size) (by decide) rfl) ?_
  refine sA (v := .int .i64 i) rfl (fun _ henv => rn_load1 henv ty_int rfl (hst.oat (k := 1) rfl) rfl) ?_
  refine sA (v := .pointer (some ⟨g51, 1, none⟩)) rfl (fun _ henv => rn_fieldAddr henv fd_anvil_api_Prog_1 (ty_int.size) (by decide) rfl) ?_
  refine sA (v := .int .i64 g) rfl (fun _ henv => rn_load1 henv ty_int rfl (hst.oat (k := 1) rfl) rfl) ?_
  refine sA (v := .agg #[.int .i64 i, .int .i64 g, .slice none 0 0, .slice none 0 0]) rfl (fun _ henv => rn_prog01 henv rfl rfl) ?_
  intro a henv
  refine seq_step rfl (op_alloc (c := #[.int .i64 0, .int .i64 0, .slice none 0 0, .slice none 0 0]) henv hst rfl zero_anvil_api_Prog rfl ?_)
  clear henv hst a; intro a w56 g55 henv hst
  refine seq_step rfl (op_store (k := 0) (c' := #[.int .i64 i, .int .i64 g, .slice none 0 0, .slice none 0 0]) henv hst (ty_anvil_api_Prog.size) rfl rfl rfl rfl (by simp) rfl rfl ?_)
  clear henv hst a; intro a w57 henv hst
  refine wpList_nil ?_
  refine th_n ?_
  refine wp_seq ?_
  replace hst := (hst.addRowS notU 37 5)
  replace hst : St w0 _ [rowS notU 37 5 none 0 0 (fl fJ ([])), bk g55 #[.int .i64 i, .int .i64 g, .slice none 0 0, .slice none 0 0] 25, bk g53 #[.int .i64 0, .int .i64 0, .slice none 0 0, .slice none 0 0] 25, bk g51 #[.int .i64 i, .int .i64 g, .slice A0 0 c0, .slice A1 0 c1] 25] [pfRow fJ FJ 5 A0 0 c0 es0, pfRow fI FI 1 A1 0 c1 es1] := hst
  refine region_seq ?_
  revert a
  refine sA (v := .pointer (some ⟨g55, 2, none⟩)) rfl (fun _ henv => rn_fieldAddr henv fd_anvil_api_Prog_2 (ty__api_Instr.size) (by decide) rfl) ?_
  refine sA (v := .slice none 0 0) rfl (fun _ henv => rn_load1 henv ty__api_Instr rfl (hst.oat (k := 1) rfl) rfl) ?_
  refine sA (v := .pointer (some ⟨g51, 2, none⟩)) rfl (fun _ henv => rn_fieldAddr henv fd_anvil_api_Prog_2 (ty__api_Instr.size) (by decide) rfl) ?_
  refine sA (v := .slice A0 0 c0) rfl (fun _ henv => rn_load1 henv ty__api_Instr rfl (hst.oat (k := 3) rfl) rfl) ?_
  intro a henv
  refine seq_step rfl (op_appendR0 (k := 0) henv hst rfl Tryd.underlying22 (ty_anvil_api_Instr.size) rfl rfl rfl ?_)
  clear henv a; intro a henv
  refine sv (v := .pointer (some ⟨g55, 2, none⟩)) henv rfl (rn_fieldAddr henv fd_anvil_api_Prog_2 (ty__api_Instr.size) (by decide) rfl) ?_
  clear henv a; intro a henv
  refine seq_step rfl (op_store1 (k := 1) (c' := #[.int .i64 i, .int .i64 g, .slice none 0 0, .slice none 0 0]) henv hst (ty__api_Instr.size) rfl rfl rfl (by simp) rfl rfl ?_)
  clear henv hst a; intro a w58 henv hst
  refine wpList_nil ?_
  refine th_n ?_
  refine wp_seq ?_
  replace hst := (hst.addRowS notU 3 1)
  replace hst : St w0 _ [rowS notU 3 1 none 0 0 (fl fI ([])), rowS notU 37 5 none 0 0 (fl fJ ([])), bk g55 #[.int .i64 i, .int .i64 g, .slice none 0 0, .slice none 0 0] 25, bk g53 #[.int .i64 0, .int .i64 0, .slice none 0 0, .slice none 0 0] 25, bk g51 #[.int .i64 i, .int .i64 g, .slice A0 0 c0, .slice A1 0 c1] 25] [pfRow fJ FJ 5 A0 0 c0 es0, pfRow fI FI 1 A1 0 c1 es1] := hst
  refine region_seq ?_
  revert a
  refine sA (v := .pointer (some ⟨g55, 3, none⟩)) rfl (fun _ henv => rn_fieldAddr henv fd_anvil_api_Prog_3 (ty__int.size) (by decide) rfl) ?_
  refine sA (v := .slice none 0 0) rfl (fun _ henv => rn_load1 henv ty__int rfl (hst.oat (k := 2) rfl) rfl) ?_
  refine sA (v := .pointer (some ⟨g51, 3, none⟩)) rfl (fun _ henv => rn_fieldAddr henv fd_anvil_api_Prog_3 (ty__int.size) (by decide) rfl) ?_
  refine sA (v := .slice A1 0 c1) rfl (fun _ henv => rn_load1 henv ty__int rfl (hst.oat (k := 4) rfl) rfl) ?_
  intro a henv
  refine seq_step rfl (op_appendR0 (k := 0) henv hst rfl Tryd.underlying23 (ty_int.size) rfl rfl rfl ?_)
  clear henv a; intro a henv
  refine sv (v := .pointer (some ⟨g55, 3, none⟩)) henv rfl (rn_fieldAddr henv fd_anvil_api_Prog_3 (ty__int.size) (by decide) rfl) ?_
  clear henv a; intro a henv
  refine seq_step rfl (op_store1 (k := 2) (c' := #[.int .i64 i, .int .i64 g, .slice none 0 0, .slice none 0 0]) henv hst (ty__int.size) rfl rfl rfl (by simp) rfl rfl ?_)
  clear henv hst a; intro a w59 henv hst
  refine wpList_nil ?_
  refine th_n ?_
  refine wp_seq ?_
  refine region_seq ?_
  refine sv (v := .agg #[.int .i64 i, .int .i64 g, .slice none 0 0, .slice none 0 0]) henv rfl (rn_load0 henv ty_anvil_api_Prog rfl (hst.oat (k := 2) rfl) rfl) ?_
  clear henv a; intro a henv
  refine seq_step rfl (op_store (k := 3) (c' := #[.int .i64 i, .int .i64 g, .slice none 0 0, .slice none 0 0]) henv hst (ty_anvil_api_Prog.size) rfl rfl rfl rfl (by simp) rfl rfl ?_)
  clear henv hst a; intro a w60 henv hst
  refine wpList_nil ?_
  refine th_n ?_
  refine wp_ret ?_
  refine leave henv (res1 Tryd.results20 (RV.cell henv ty_anvil_api_Prog rfl (hst.oat (k := 3) rfl) rfl)) ?_
  obtain rfl : es0 = [] := List.eq_nil_of_length_eq_zero hlen0
  obtain rfl : es1 = [] := List.eq_nil_of_length_eq_zero hlen1
  exact ⟨_, _, _, _, rfl, ⟨newrow_of (hst.owns (k := 1) rfl) (fun b hb => hst.new _ (List.mem_of_getElem? (i := 1) rfl) b hb) rfl, newrow_of (hst.owns (k := 0) rfl) (fun b hb => hst.new _ (List.mem_of_getElem? (i := 0) rfl) b hb) rfl, fun a b ha hb hab => hst.one (k := 1) (j := 0) rfl rfl (by decide) a.block (by cases ha <;> rfl) (by cases hb <;> exact congrArg some hab.symm)⟩, hst.below⟩
set_option maxRecDepth 100000 in
set_option maxHeartbeats 2000000 in
theorem r_copy01 {i g : Int} {A0 A1 : Option Addr} {c0 n1 c1 : Nat} {es0 : List IE} {es1 : List Int} {w0 : World} (h0 : (pfRow fJ FJ 5 A0 0 c0 es0).P w0) (h1 : (pfRow fI FI 1 A1 n1 c1 es1).P w0) (hp1 : 0 < n1) (hn1 : n1 ≤ 100000) :
    Calls Tryd.prog 20 #[.agg #[.int .i64 i, .int .i64 g, .slice A0 0 c0, .slice A1 n1 c1]] w0 fun e w' => ∃ A c B d, e = .returned (.agg #[.int .i64 i, .int .i64 g, .slice A 0 c, .slice B n1 d]) ∧ TwoR w0.heap.size w' A 0 c es0 B n1 d es1 ∧ Below w0.heap.size w0 w' := by
  refine enter Tryd.func20 rfl Tryd.ntmps20 rfl ?_
  intro a henv hst
  have hlen0 := h0.2.1
  have hlen1 := h1.2.1
  replace hst := (hst.argRow h1).argRow h0
  clear h0 h1
  refine wp_seq ?_
  refine region_seq ?_
  refine seq_step rfl (op_box (c := #[.int .i64 i, .int .i64 g, .slice A0 0 c0, .slice A1 n1 c1]) henv hst rfl rfl rfl ?_)
  clear henv hst a; intro a w52 g51 henv hst
  refine seq_step rfl (op_alloc (c := #[.int .i64 0, .int .i64 0, .slice none 0 0, .slice none 0 0]) henv hst rfl zero_anvil_api_Prog rfl ?_)
  clear henv hst a; intro a w54 g53 henv hst
  refine wpList_nil ?_
  refine th_n ?_
  refine wp_seq ?_
  refine region_seq ?_
  revert a
  refine sA (v := .pointer (some ⟨g51, 0, none⟩)) rfl (fun _ henv => rn_fieldAddr henv fd_anvil_api_Prog_0 (ty_int.size) (by decide) rfl) ?_
  refine sA (v := .int .i64 i) rfl (fun _ henv => rn_load1 henv ty_int rfl (hst.oat (k := 1) rfl) rfl) ?_
  refine sA (v := .pointer (some ⟨g51, 1, none⟩)) rfl (fun _ henv => rn_fieldAddr henv fd_anvil_api_Prog_1 (ty_int.size) (by decide) rfl) ?_
  refine sA (v := .int .i64 g) rfl (fun _ henv => rn_load1 henv ty_int rfl (hst.oat (k := 1) rfl) rfl) ?_
  refine sA (v := .agg #[.int .i64 i, .int .i64 g, .slice none 0 0, .slice none 0 0]) rfl (fun _ henv => rn_prog01 henv rfl rfl) ?_
  intro a henv
  refine seq_step rfl (op_alloc (c := #[.int .i64 0, .int .i64 0, .slice none 0 0, .slice none 0 0]) henv hst rfl zero_anvil_api_Prog rfl ?_)
  clear henv hst a; intro a w56 g55 henv hst
  refine seq_step rfl (op_store (k := 0) (c' := #[.int .i64 i, .int .i64 g, .slice none 0 0, .slice none 0 0]) henv hst (ty_anvil_api_Prog.size) rfl rfl rfl rfl (by simp) rfl rfl ?_)
  clear henv hst a; intro a w57 henv hst
  refine wpList_nil ?_
  refine th_n ?_
  refine wp_seq ?_
  replace hst := (hst.addRowS notU 37 5)
  replace hst : St w0 _ [rowS notU 37 5 none 0 0 (fl fJ ([])), bk g55 #[.int .i64 i, .int .i64 g, .slice none 0 0, .slice none 0 0] 25, bk g53 #[.int .i64 0, .int .i64 0, .slice none 0 0, .slice none 0 0] 25, bk g51 #[.int .i64 i, .int .i64 g, .slice A0 0 c0, .slice A1 n1 c1] 25] [pfRow fJ FJ 5 A0 0 c0 es0, pfRow fI FI 1 A1 n1 c1 es1] := hst
  refine region_seq ?_
  revert a
  refine sA (v := .pointer (some ⟨g55, 2, none⟩)) rfl (fun _ henv => rn_fieldAddr henv fd_anvil_api_Prog_2 (ty__api_Instr.size) (by decide) rfl) ?_
  refine sA (v := .slice none 0 0) rfl (fun _ henv => rn_load1 henv ty__api_Instr rfl (hst.oat (k := 1) rfl) rfl) ?_
  refine sA (v := .pointer (some ⟨g51, 2, none⟩)) rfl (fun _ henv => rn_fieldAddr henv fd_anvil_api_Prog_2 (ty__api_Instr.size) (by decide) rfl) ?_
  refine sA (v := .slice A0 0 c0) rfl (fun _ henv => rn_load1 henv ty__api_Instr rfl (hst.oat (k := 3) rfl) rfl) ?_
  intro a henv
  refine seq_step rfl (op_appendR0 (k := 0) henv hst rfl Tryd.underlying22 (ty_anvil_api_Instr.size) rfl rfl rfl ?_)
  clear henv a; intro a henv
  refine sv (v := .pointer (some ⟨g55, 2, none⟩)) henv rfl (rn_fieldAddr henv fd_anvil_api_Prog_2 (ty__api_Instr.size) (by decide) rfl) ?_
  clear henv a; intro a henv
  refine seq_step rfl (op_store1 (k := 1) (c' := #[.int .i64 i, .int .i64 g, .slice none 0 0, .slice none 0 0]) henv hst (ty__api_Instr.size) rfl rfl rfl (by simp) rfl rfl ?_)
  clear henv hst a; intro a w58 henv hst
  refine wpList_nil ?_
  refine th_n ?_
  refine wp_seq ?_
  replace hst := (hst.addRowS notU 3 1)
  replace hst : St w0 _ [rowS notU 3 1 none 0 0 (fl fI ([])), rowS notU 37 5 none 0 0 (fl fJ ([])), bk g55 #[.int .i64 i, .int .i64 g, .slice none 0 0, .slice none 0 0] 25, bk g53 #[.int .i64 0, .int .i64 0, .slice none 0 0, .slice none 0 0] 25, bk g51 #[.int .i64 i, .int .i64 g, .slice A0 0 c0, .slice A1 n1 c1] 25] [pfRow fJ FJ 5 A0 0 c0 es0, pfRow fI FI 1 A1 n1 c1 es1] := hst
  refine region_seq ?_
  revert a
  refine sA (v := .pointer (some ⟨g55, 3, none⟩)) rfl (fun _ henv => rn_fieldAddr henv fd_anvil_api_Prog_3 (ty__int.size) (by decide) rfl) ?_
  refine sA (v := .slice none 0 0) rfl (fun _ henv => rn_load1 henv ty__int rfl (hst.oat (k := 2) rfl) rfl) ?_
  refine sA (v := .pointer (some ⟨g51, 3, none⟩)) rfl (fun _ henv => rn_fieldAddr henv fd_anvil_api_Prog_3 (ty__int.size) (by decide) rfl) ?_
  refine sA (v := .slice A1 n1 c1) rfl (fun _ henv => rn_load1 henv ty__int rfl (hst.oat (k := 4) rfl) rfl) ?_
  intro a henv
  refine seq_step rfl (op_appendR (k := 0) henv hst rfl Tryd.underlying23 inf_int rfl rfl rfl rfl rfl (hst.pat (k := 1) rfl).1 (fl_all (fun _ => rfl) _) (fl_all (fun _ => rfl) _) rfl (by omega) (by unfold maxLen; omega) (by omega) ?_)
  clear henv hst a; intro a w61 g59 c60 henv hst
  rw [show fl fI ([]) ++ fl fI es1 = fl fI es1 from rfl] at hst
  replace hst : St w0 _ [rowS notU 3 1 (some ⟨g59, 0, none⟩) (0 + n1) c60 (fl fI es1), rowS notU 37 5 none 0 0 (fl fJ ([])), bk g55 #[.int .i64 i, .int .i64 g, .slice none 0 0, .slice none 0 0] 25, bk g53 #[.int .i64 0, .int .i64 0, .slice none 0 0, .slice none 0 0] 25, bk g51 #[.int .i64 i, .int .i64 g, .slice A0 0 c0, .slice A1 n1 c1] 25] [pfRow fJ FJ 5 A0 0 c0 es0, pfRow fI FI 1 A1 n1 c1 es1] := hst
  refine sv (v := .pointer (some ⟨g55, 3, none⟩)) henv rfl (rn_fieldAddr henv fd_anvil_api_Prog_3 (ty__int.size) (by decide) rfl) ?_
  clear henv a; intro a henv
  refine seq_step rfl (op_store1 (k := 2) (c' := #[.int .i64 i, .int .i64 g, .slice none 0 0, .slice (some ⟨g59, 0, none⟩) (0 + n1) c60]) henv hst (ty__int.size) rfl rfl rfl (by simp) rfl rfl ?_)
  clear henv hst a; intro a w62 henv hst
  refine wpList_nil ?_
  refine th_n ?_
  refine wp_seq ?_
  refine region_seq ?_
  refine sv (v := .agg #[.int .i64 i, .int .i64 g, .slice none 0 0, .slice (some ⟨g59, 0, none⟩) (0 + n1) c60]) henv rfl (rn_load0 henv ty_anvil_api_Prog rfl (hst.oat (k := 2) rfl) rfl) ?_
  clear henv a; intro a henv
  refine seq_step rfl (op_store (k := 3) (c' := #[.int .i64 i, .int .i64 g, .slice none 0 0, .slice (some ⟨g59, 0, none⟩) (0 + n1) c60]) henv hst (ty_anvil_api_Prog.size) rfl rfl rfl rfl (by simp) rfl rfl ?_)
  clear henv hst a; intro a w63 henv hst
  refine wpList_nil ?_
  refine th_n ?_
  refine wp_ret ?_
  refine leave henv (res1 Tryd.results20 (RV.cell henv ty_anvil_api_Prog rfl (hst.oat (k := 3) rfl) rfl)) ?_
  obtain rfl : es0 = [] := List.eq_nil_of_length_eq_zero hlen0
  exact ⟨_, _, _, _, by rw [Nat.zero_add n1], ⟨newrow_of (hst.owns (k := 1) rfl) (fun b hb => hst.new _ (List.mem_of_getElem? (i := 1) rfl) b hb) rfl, newrow_of (hst.owns (k := 0) rfl) (fun b hb => hst.new _ (List.mem_of_getElem? (i := 0) rfl) b hb) (Nat.zero_add _), fun a b ha hb hab => hst.one (k := 1) (j := 0) rfl rfl (by decide) a.block (by cases ha <;> rfl) (by cases hb <;> exact congrArg some hab.symm)⟩, hst.below⟩
set_option maxRecDepth 100000 in
set_option maxHeartbeats 2000000 in
theorem r_copy10 {i g : Int} {A0 A1 : Option Addr} {n0 c0 c1 : Nat} {es0 : List IE} {es1 : List Int} {w0 : World} (h0 : (pfRow fJ FJ 5 A0 n0 c0 es0).P w0) (h1 : (pfRow fI FI 1 A1 0 c1 es1).P w0) (hp0 : 0 < n0) (hn0 : n0 ≤ 100000) :
    Calls Tryd.prog 20 #[.agg #[.int .i64 i, .int .i64 g, .slice A0 n0 c0, .slice A1 0 c1]] w0 fun e w' => ∃ A c B d, e = .returned (.agg #[.int .i64 i, .int .i64 g, .slice A n0 c, .slice B 0 d]) ∧ TwoR w0.heap.size w' A n0 c es0 B 0 d es1 ∧ Below w0.heap.size w0 w' := by
  refine enter Tryd.func20 rfl Tryd.ntmps20 rfl ?_
  intro a henv hst
  have hlen0 := h0.2.1
  have hlen1 := h1.2.1
  replace hst := (hst.argRow h1).argRow h0
  clear h0 h1
  refine wp_seq ?_
  refine region_seq ?_
  refine seq_step rfl (op_box (c := #[.int .i64 i, .int .i64 g, .slice A0 n0 c0, .slice A1 0 c1]) henv hst rfl rfl rfl ?_)
  clear henv hst a; intro a w52 g51 henv hst
  refine seq_step rfl (op_alloc (c := #[.int .i64 0, .int .i64 0, .slice none 0 0, .slice none 0 0]) henv hst rfl zero_anvil_api_Prog rfl ?_)
  clear henv hst a; intro a w54 g53 henv hst
  refine wpList_nil ?_
  refine th_n ?_
  refine wp_seq ?_
  refine region_seq ?_
  revert a
  refine sA (v := .pointer (some ⟨g51, 0, none⟩)) rfl (fun _ henv => rn_fieldAddr henv fd_anvil_api_Prog_0 (ty_int.size) (by decide) rfl) ?_
  refine sA (v := .int .i64 i) rfl (fun _ henv => rn_load1 henv ty_int rfl (hst.oat (k := 1) rfl) rfl) ?_
  refine sA (v := .pointer (some ⟨g51, 1, none⟩)) rfl (fun _ henv => rn_fieldAddr henv fd_anvil_api_Prog_1 (ty_int.size) (by decide) rfl) ?_
  refine sA (v := .int .i64 g) rfl (fun _ henv => rn_load1 henv ty_int rfl (hst.oat (k := 1) rfl) rfl) ?_
  refine sA (v := .agg #[.int .i64 i, .int .i64 g, .slice none 0 0, .slice none 0 0]) rfl (fun _ henv => rn_prog01 henv rfl rfl) ?_
  intro a henv
  refine seq_step rfl (op_alloc (c := #[.int .i64 0, .int .i64 0, .slice none 0 0, .slice none 0 0]) henv hst rfl zero_anvil_api_Prog rfl ?_)
  clear henv hst a; intro a w56 g55 henv hst
  refine seq_step rfl (op_store (k := 0) (c' := #[.int .i64 i, .int .i64 g, .slice none 0 0, .slice none 0 0]) henv hst (ty_anvil_api_Prog.size) rfl rfl rfl rfl (by simp) rfl rfl ?_)
  clear henv hst a; intro a w57 henv hst
  refine wpList_nil ?_
  refine th_n ?_
  refine wp_seq ?_
  replace hst := (hst.addRowS notU 37 5)
  replace hst : St w0 _ [rowS notU 37 5 none 0 0 (fl fJ ([])), bk g55 #[.int .i64 i, .int .i64 g, .slice none 0 0, .slice none 0 0] 25, bk g53 #[.int .i64 0, .int .i64 0, .slice none 0 0, .slice none 0 0] 25, bk g51 #[.int .i64 i, .int .i64 g, .slice A0 n0 c0, .slice A1 0 c1] 25] [pfRow fJ FJ 5 A0 n0 c0 es0, pfRow fI FI 1 A1 0 c1 es1] := hst
  refine region_seq ?_
  revert a
  refine sA (v := .pointer (some ⟨g55, 2, none⟩)) rfl (fun _ henv => rn_fieldAddr henv fd_anvil_api_Prog_2 (ty__api_Instr.size) (by decide) rfl) ?_
  refine sA (v := .slice none 0 0) rfl (fun _ henv => rn_load1 henv ty__api_Instr rfl (hst.oat (k := 1) rfl) rfl) ?_
  refine sA (v := .pointer (some ⟨g51, 2, none⟩)) rfl (fun _ henv => rn_fieldAddr henv fd_anvil_api_Prog_2 (ty__api_Instr.size) (by decide) rfl) ?_
  refine sA (v := .slice A0 n0 c0) rfl (fun _ henv => rn_load1 henv ty__api_Instr rfl (hst.oat (k := 3) rfl) rfl) ?_
  intro a henv
  refine seq_step rfl (op_appendR (k := 0) henv hst rfl Tryd.underlying22 inf_anvil_api_Instr rfl rfl rfl rfl rfl (hst.pat (k := 0) rfl).1 (fl_all (fun _ => rfl) _) (fl_all (fun _ => rfl) _) rfl (by omega) (by unfold maxLen; omega) (by omega) ?_)
  clear henv hst a; intro a w60 g58 c59 henv hst
  rw [show fl fJ ([]) ++ fl fJ es0 = fl fJ es0 from rfl] at hst
  replace hst : St w0 _ [rowS notU 37 5 (some ⟨g58, 0, none⟩) (0 + n0) c59 (fl fJ es0), bk g55 #[.int .i64 i, .int .i64 g, .slice none 0 0, .slice none 0 0] 25, bk g53 #[.int .i64 0, .int .i64 0, .slice none 0 0, .slice none 0 0] 25, bk g51 #[.int .i64 i, .int .i64 g, .slice A0 n0 c0, .slice A1 0 c1] 25] [pfRow fJ FJ 5 A0 n0 c0 es0, pfRow fI FI 1 A1 0 c1 es1] := hst
  refine sv (v := .pointer (some ⟨g55, 2, none⟩)) henv rfl (rn_fieldAddr henv fd_anvil_api_Prog_2 (ty__api_Instr.size) (by decide) rfl) ?_
  clear henv a; intro a henv
  refine seq_step rfl (op_store1 (k := 1) (c' := #[.int .i64 i, .int .i64 g, .slice (some ⟨g58, 0, none⟩) (0 + n0) c59, .slice none 0 0]) henv hst (ty__api_Instr.size) rfl rfl rfl (by simp) rfl rfl ?_)
  clear henv hst a; intro a w61 henv hst
  refine wpList_nil ?_
  refine th_n ?_
  refine wp_seq ?_
  replace hst := (hst.addRowS notU 3 1)
  replace hst : St w0 _ [rowS notU 3 1 none 0 0 (fl fI ([])), rowS notU 37 5 (some ⟨g58, 0, none⟩) (0 + n0) c59 (fl fJ es0), bk g55 #[.int .i64 i, .int .i64 g, .slice (some ⟨g58, 0, none⟩) (0 + n0) c59, .slice none 0 0] 25, bk g53 #[.int .i64 0, .int .i64 0, .slice none 0 0, .slice none 0 0] 25, bk g51 #[.int .i64 i, .int .i64 g, .slice A0 n0 c0, .slice A1 0 c1] 25] [pfRow fJ FJ 5 A0 n0 c0 es0, pfRow fI FI 1 A1 0 c1 es1] := hst
  refine region_seq ?_
  revert a
  refine sA (v := .pointer (some ⟨g55, 3, none⟩)) rfl (fun _ henv => rn_fieldAddr henv fd_anvil_api_Prog_3 (ty__int.size) (by decide) rfl) ?_
  refine sA (v := .slice none 0 0) rfl (fun _ henv => rn_load1 henv ty__int rfl (hst.oat (k := 2) rfl) rfl) ?_
  refine sA (v := .pointer (some ⟨g51, 3, none⟩)) rfl (fun _ henv => rn_fieldAddr henv fd_anvil_api_Prog_3 (ty__int.size) (by decide) rfl) ?_
  refine sA (v := .slice A1 0 c1) rfl (fun _ henv => rn_load1 henv ty__int rfl (hst.oat (k := 4) rfl) rfl) ?_
  intro a henv
  refine seq_step rfl (op_appendR0 (k := 0) henv hst rfl Tryd.underlying23 (ty_int.size) rfl rfl rfl ?_)
  clear henv a; intro a henv
  refine sv (v := .pointer (some ⟨g55, 3, none⟩)) henv rfl (rn_fieldAddr henv fd_anvil_api_Prog_3 (ty__int.size) (by decide) rfl) ?_
  clear henv a; intro a henv
  refine seq_step rfl (op_store1 (k := 2) (c' := #[.int .i64 i, .int .i64 g, .slice (some ⟨g58, 0, none⟩) (0 + n0) c59, .slice none 0 0]) henv hst (ty__int.size) rfl rfl rfl (by simp) rfl rfl ?_)
  clear henv hst a; intro a w62 henv hst
  refine wpList_nil ?_
  refine th_n ?_
  refine wp_seq ?_
  refine region_seq ?_
  refine sv (v := .agg #[.int .i64 i, .int .i64 g, .slice (some ⟨g58, 0, none⟩) (0 + n0) c59, .slice none 0 0]) henv rfl (rn_load0 henv ty_anvil_api_Prog rfl (hst.oat (k := 2) rfl) rfl) ?_
  clear henv a; intro a henv
  refine seq_step rfl (op_store (k := 3) (c' := #[.int .i64 i, .int .i64 g, .slice (some ⟨g58, 0, none⟩) (0 + n0) c59, .slice none 0 0]) henv hst (ty_anvil_api_Prog.size) rfl rfl rfl rfl (by simp) rfl rfl ?_)
  clear henv hst a; intro a w63 henv hst
  refine wpList_nil ?_
  refine th_n ?_
  refine wp_ret ?_
  refine leave henv (res1 Tryd.results20 (RV.cell henv ty_anvil_api_Prog rfl (hst.oat (k := 3) rfl) rfl)) ?_
  obtain rfl : es1 = [] := List.eq_nil_of_length_eq_zero hlen1
  exact ⟨_, _, _, _, by rw [Nat.zero_add n0], ⟨newrow_of (hst.owns (k := 1) rfl) (fun b hb => hst.new _ (List.mem_of_getElem? (i := 1) rfl) b hb) (Nat.zero_add _), newrow_of (hst.owns (k := 0) rfl) (fun b hb => hst.new _ (List.mem_of_getElem? (i := 0) rfl) b hb) rfl, fun a b ha hb hab => hst.one (k := 1) (j := 0) rfl rfl (by decide) a.block (by cases ha <;> rfl) (by cases hb <;> exact congrArg some hab.symm)⟩, hst.below⟩
set_option maxRecDepth 100000 in
set_option maxHeartbeats 2000000 in
theorem r_copy11 {i g : Int} {A0 A1 : Option Addr} {n0 c0 n1 c1 : Nat} {es0 : List IE} {es1 : List Int} {w0 : World} (h0 : (pfRow fJ FJ 5 A0 n0 c0 es0).P w0) (h1 : (pfRow fI FI 1 A1 n1 c1 es1).P w0) (hp0 : 0 < n0) (hn0 : n0 ≤ 100000) (hp1 : 0 < n1) (hn1 : n1 ≤ 100000) :
    Calls Tryd.prog 20 #[.agg #[.int .i64 i, .int .i64 g, .slice A0 n0 c0, .slice A1 n1 c1]] w0 fun e w' => ∃ A c B d, e = .returned (.agg #[.int .i64 i, .int .i64 g, .slice A n0 c, .slice B n1 d]) ∧ TwoR w0.heap.size w' A n0 c es0 B n1 d es1 ∧ Below w0.heap.size w0 w' := by
  refine enter Tryd.func20 rfl Tryd.ntmps20 rfl ?_
  intro a henv hst
  have hlen0 := h0.2.1
  have hlen1 := h1.2.1
  replace hst := (hst.argRow h1).argRow h0
  clear h0 h1
  refine wp_seq ?_
  refine region_seq ?_
  refine seq_step rfl (op_box (c := #[.int .i64 i, .int .i64 g, .slice A0 n0 c0, .slice A1 n1 c1]) henv hst rfl rfl rfl ?_)
  clear henv hst a; intro a w52 g51 henv hst
  refine seq_step rfl (op_alloc (c := #[.int .i64 0, .int .i64 0, .slice none 0 0, .slice none 0 0]) henv hst rfl zero_anvil_api_Prog rfl ?_)
  clear henv hst a; intro a w54 g53 henv hst
  refine wpList_nil ?_
  refine th_n ?_
  refine wp_seq ?_
  refine region_seq ?_
  revert a
  refine sA (v := .pointer (some ⟨g51, 0, none⟩)) rfl (fun _ henv => rn_fieldAddr henv fd_anvil_api_Prog_0 (ty_int.size) (by decide) rfl) ?_
  refine sA (v := .int .i64 i) rfl (fun _ henv => rn_load1 henv ty_int rfl (hst.oat (k := 1) rfl) rfl) ?_
  refine sA (v := .pointer (some ⟨g51, 1, none⟩)) rfl (fun _ henv => rn_fieldAddr henv fd_anvil_api_Prog_1 (ty_int.size) (by decide) rfl) ?_
  refine sA (v := .int .i64 g) rfl (fun _ henv => rn_load1 henv ty_int rfl (hst.oat (k := 1) rfl) rfl) ?_
  refine sA (v := .agg #[.int .i64 i, .int .i64 g, .slice none 0 0, .slice none 0 0]) rfl (fun _ henv => rn_prog01 henv rfl rfl) ?_
  intro a henv
  refine seq_step rfl (op_alloc (c := #[.int .i64 0, .int .i64 0, .slice none 0 0, .slice none 0 0]) henv hst rfl zero_anvil_api_Prog rfl ?_)
  clear henv hst a; intro a w56 g55 henv hst
  refine seq_step rfl (op_store (k := 0) (c' := #[.int .i64 i, .int .i64 g, .slice none 0 0, .slice none 0 0]) henv hst (ty_anvil_api_Prog.size) rfl rfl rfl rfl (by simp) rfl rfl ?_)
  clear henv hst a; intro a w57 henv hst
  refine wpList_nil ?_
  refine th_n ?_
  refine wp_seq ?_
  replace hst := (hst.addRowS notU 37 5)
  replace hst : St w0 _ [rowS notU 37 5 none 0 0 (fl fJ ([])), bk g55 #[.int .i64 i, .int .i64 g, .slice none 0 0, .slice none 0 0] 25, bk g53 #[.int .i64 0, .int .i64 0, .slice none 0 0, .slice none 0 0] 25, bk g51 #[.int .i64 i, .int .i64 g, .slice A0 n0 c0, .slice A1 n1 c1] 25] [pfRow fJ FJ 5 A0 n0 c0 es0, pfRow fI FI 1 A1 n1 c1 es1] := hst
  refine region_seq ?_
  revert a
  refine sA (v := .pointer (some ⟨g55, 2, none⟩)) rfl (fun _ henv => rn_fieldAddr henv fd_anvil_api_Prog_2 (ty__api_Instr.size) (by decide) rfl) ?_
  refine sA (v := .slice none 0 0) rfl (fun _ henv => rn_load1 henv ty__api_Instr rfl (hst.oat (k := 1) rfl) rfl) ?_
  refine sA (v := .pointer (some ⟨g51, 2, none⟩)) rfl (fun _ henv => rn_fieldAddr henv fd_anvil_api_Prog_2 (ty__api_Instr.size) (by decide) rfl) ?_
  refine sA (v := .slice A0 n0 c0) rfl (fun _ henv => rn_load1 henv ty__api_Instr rfl (hst.oat (k := 3) rfl) rfl) ?_
  intro a henv
  refine seq_step rfl (op_appendR (k := 0) henv hst rfl Tryd.underlying22 inf_anvil_api_Instr rfl rfl rfl rfl rfl (hst.pat (k := 0) rfl).1 (fl_all (fun _ => rfl) _) (fl_all (fun _ => rfl) _) rfl (by omega) (by unfold maxLen; omega) (by omega) ?_)
  clear henv hst a; intro a w60 g58 c59 henv hst
  rw [show fl fJ ([]) ++ fl fJ es0 = fl fJ es0 from rfl] at hst
  replace hst : St w0 _ [rowS notU 37 5 (some ⟨g58, 0, none⟩) (0 + n0) c59 (fl fJ es0), bk g55 #[.int .i64 i, .int .i64 g, .slice none 0 0, .slice none 0 0] 25, bk g53 #[.int .i64 0, .int .i64 0, .slice none 0 0, .slice none 0 0] 25, bk g51 #[.int .i64 i, .int .i64 g, .slice A0 n0 c0, .slice A1 n1 c1] 25] [pfRow fJ FJ 5 A0 n0 c0 es0, pfRow fI FI 1 A1 n1 c1 es1] := hst
  refine sv (v := .pointer (some ⟨g55, 2, none⟩)) henv rfl (rn_fieldAddr henv fd_anvil_api_Prog_2 (ty__api_Instr.size) (by decide) rfl) ?_
  clear henv a; intro a henv
  refine seq_step rfl (op_store1 (k := 1) (c' := #[.int .i64 i, .int .i64 g, .slice (some ⟨g58, 0, none⟩) (0 + n0) c59, .slice none 0 0]) henv hst (ty__api_Instr.size) rfl rfl rfl (by simp) rfl rfl ?_)
  clear henv hst a; intro a w61 henv hst
  refine wpList_nil ?_
  refine th_n ?_
  refine wp_seq ?_
  replace hst := (hst.addRowS notU 3 1)
  replace hst : St w0 _ [rowS notU 3 1 none 0 0 (fl fI ([])), rowS notU 37 5 (some ⟨g58, 0, none⟩) (0 + n0) c59 (fl fJ es0), bk g55 #[.int .i64 i, .int .i64 g, .slice (some ⟨g58, 0, none⟩) (0 + n0) c59, .slice none 0 0] 25, bk g53 #[.int .i64 0, .int .i64 0, .slice none 0 0, .slice none 0 0] 25, bk g51 #[.int .i64 i, .int .i64 g, .slice A0 n0 c0, .slice A1 n1 c1] 25] [pfRow fJ FJ 5 A0 n0 c0 es0, pfRow fI FI 1 A1 n1 c1 es1] := hst
  refine region_seq ?_
  revert a
  refine sA (v := .pointer (some ⟨g55, 3, none⟩)) rfl (fun _ henv => rn_fieldAddr henv fd_anvil_api_Prog_3 (ty__int.size) (by decide) rfl) ?_
  refine sA (v := .slice none 0 0) rfl (fun _ henv => rn_load1 henv ty__int rfl (hst.oat (k := 2) rfl) rfl) ?_
  refine sA (v := .pointer (some ⟨g51, 3, none⟩)) rfl (fun _ henv => rn_fieldAddr henv fd_anvil_api_Prog_3 (ty__int.size) (by decide) rfl) ?_
  refine sA (v := .slice A1 n1 c1) rfl (fun _ henv => rn_load1 henv ty__int rfl (hst.oat (k := 4) rfl) rfl) ?_
  intro a henv
  refine seq_step rfl (op_appendR (k := 0) henv hst rfl Tryd.underlying23 inf_int rfl rfl rfl rfl rfl (hst.pat (k := 1) rfl).1 (fl_all (fun _ => rfl) _) (fl_all (fun _ => rfl) _) rfl (by omega) (by unfold maxLen; omega) (by omega) ?_)
  clear henv hst a; intro a w64 g62 c63 henv hst
  rw [show fl fI ([]) ++ fl fI es1 = fl fI es1 from rfl] at hst
  replace hst : St w0 _ [rowS notU 3 1 (some ⟨g62, 0, none⟩) (0 + n1) c63 (fl fI es1), rowS notU 37 5 (some ⟨g58, 0, none⟩) (0 + n0) c59 (fl fJ es0), bk g55 #[.int .i64 i, .int .i64 g, .slice (some ⟨g58, 0, none⟩) (0 + n0) c59, .slice none 0 0] 25, bk g53 #[.int .i64 0, .int .i64 0, .slice none 0 0, .slice none 0 0] 25, bk g51 #[.int .i64 i, .int .i64 g, .slice A0 n0 c0, .slice A1 n1 c1] 25] [pfRow fJ FJ 5 A0 n0 c0 es0, pfRow fI FI 1 A1 n1 c1 es1] := hst
  refine sv (v := .pointer (some ⟨g55, 3, none⟩)) henv rfl (rn_fieldAddr henv fd_anvil_api_Prog_3 (ty__int.size) (by decide) rfl) ?_
  clear henv a; intro a henv
  refine seq_step rfl (op_store1 (k := 2) (c' := #[.int .i64 i, .int .i64 g, .slice (some ⟨g58, 0, none⟩) (0 + n0) c59, .slice (some ⟨g62, 0, none⟩) (0 + n1) c63]) henv hst (ty__int.size) rfl rfl rfl (by simp) rfl rfl ?_)
  clear henv hst a; intro a w65 henv hst
  refine wpList_nil ?_
  refine th_n ?_
  refine wp_seq ?_
  refine region_seq ?_
  refine sv (v := .agg #[.int .i64 i, .int .i64 g, .slice (some ⟨g58, 0, none⟩) (0 + n0) c59, .slice (some ⟨g62, 0, none⟩) (0 + n1) c63]) henv rfl (rn_load0 henv ty_anvil_api_Prog rfl (hst.oat (k := 2) rfl) rfl) ?_
  clear henv a; intro a henv
  refine seq_step rfl (op_store (k := 3) (c' := #[.int .i64 i, .int .i64 g, .slice (some ⟨g58, 0, none⟩) (0 + n0) c59, .slice (some ⟨g62, 0, none⟩) (0 + n1) c63]) henv hst (ty_anvil_api_Prog.size) rfl rfl rfl rfl (by simp) rfl rfl ?_)
  clear henv hst a; intro a w66 henv hst
  refine wpList_nil ?_
  refine th_n ?_
  refine wp_ret ?_
  refine leave henv (res1 Tryd.results20 (RV.cell henv ty_anvil_api_Prog rfl (hst.oat (k := 3) rfl) rfl)) ?_
  exact ⟨_, _, _, _, by rw [Nat.zero_add n0, Nat.zero_add n1], ⟨newrow_of (hst.owns (k := 1) rfl) (fun b hb => hst.new _ (List.mem_of_getElem? (i := 1) rfl) b hb) (Nat.zero_add _), newrow_of (hst.owns (k := 0) rfl) (fun b hb => hst.new _ (List.mem_of_getElem? (i := 0) rfl) b hb) (Nat.zero_add _), fun a b ha hb hab => hst.one (k := 1) (j := 0) rfl rfl (by decide) a.block (by cases ha <;> rfl) (by cases hb <;> exact congrArg some hab.symm)⟩, hst.below⟩
theorem r_copy {i g : Int} {A0 A1 : Option Addr} {n0 c0 n1 c1 : Nat} {es0 : List IE} {es1 : List Int} {w0 : World} (h0 : (pfRow fJ FJ 5 A0 n0 c0 es0).P w0) (h1 : (pfRow fI FI 1 A1 n1 c1 es1).P w0) (hn0 : n0 ≤ 100000) (hn1 : n1 ≤ 100000) :
    Calls Tryd.prog 20 #[.agg #[.int .i64 i, .int .i64 g, .slice A0 n0 c0, .slice A1 n1 c1]] w0 fun e w' => ∃ A c B d, e = .returned (.agg #[.int .i64 i, .int .i64 g, .slice A n0 c, .slice B n1 d]) ∧ TwoR w0.heap.size w' A n0 c es0 B n1 d es1 ∧ Below w0.heap.size w0 w' := by
  rcases Nat.eq_zero_or_pos n0 with a | a
  · rcases Nat.eq_zero_or_pos n1 with b | b
    · subst a b
      exact r_copy00 h0 h1
    · subst a
      exact r_copy01 h0 h1 b hn1
  · rcases Nat.eq_zero_or_pos n1 with b | b
    · subst b
      exact r_copy10 h0 h1 a hn0
    · exact r_copy11 h0 h1 a hn0 b hn1
set_option maxRecDepth 100000 in
set_option maxHeartbeats 8000000 in
theorem gcopies_w0 {i g i2 g2 : Int} {A0 A1 A2 A3 : Option Addr} {n0 c0 n1 c1 n2 c2 n3 c3 : Nat} {es0 : List IE} {es1 : List Int} {es2 : List IE} {es3 : List Int} {w0 : World} (h0 : (pfRow fJ FJ 5 A0 n0 c0 es0).P w0) (h1 : (pfRow fI FI 1 A1 n1 c1 es1).P w0) (h2 : (pfRow fJ FJ 5 A2 n2 c2 es2).P w0) (h3 : (pfRow fI FI 1 A3 n3 c3 es3).P w0) (hw : 400 < n0 ∨ 400 < n1) :
    Calls Tryd.prog 5 #[.agg #[.int .i64 i, .int .i64 g, .slice A0 n0 c0, .slice A1 n1 c1], .agg #[.int .i64 i2, .int .i64 g2, .slice A2 n2 c2, .slice A3 n3 c3]] w0 fun e w' => e = .returned (.bool true) ∧ Below w0.heap.size w0 w' := by
  refine enter Tryd.func5 rfl Tryd.ntmps5 rfl ?_
  intro a henv hst
  have hlen0 := h0.2.1
  have hbig0 := Nat.le_trans h0.1.cap h0.1.big
  unfold maxLen at hbig0
  have hlen1 := h1.2.1
  have hbig1 := Nat.le_trans h1.1.cap h1.1.big
  unfold maxLen at hbig1
  have hlen2 := h2.2.1
  have hbig2 := Nat.le_trans h2.1.cap h2.1.big
  unfold maxLen at hbig2
  have hlen3 := h3.2.1
  have hbig3 := Nat.le_trans h3.1.cap h3.1.big
  unfold maxLen at hbig3
  replace hst := hst.argRow h0
  replace hst := hst.argRow h1
  replace hst := hst.argRow h2
  replace hst := hst.argRow h3
  clear h0 h1 h2 h3
  refine wp_seq ?_
  refine region_seq ?_
  refine seq_step rfl (op_box (c := #[.int .i64 i, .int .i64 g, .slice A0 n0 c0, .slice A1 n1 c1]) henv hst rfl rfl rfl ?_)
  clear henv hst a; intro a w52 g51 henv hst
  refine seq_step rfl (op_box (c := #[.int .i64 i2, .int .i64 g2, .slice A2 n2 c2, .slice A3 n3 c3]) henv hst rfl rfl rfl ?_)
  clear henv hst a; intro a w54 g53 henv hst
  refine sv (v := .bool false) henv rfl (rn_assign henv rfl) ?_
  clear henv a; intro a henv
  refine wpList_nil ?_
  refine th_n ?_
  refine wp_seq ?_
  refine wp_seq ?_
  refine region_seq ?_
  refine seq_step rfl (op_call henv rfl Tryd.call10 rfl g_live ?_)
  rintro e w55 ⟨rfl, hb⟩
  refine ⟨_, rfl, ?_⟩
  clear henv a; intro a henv
  replace hst := hst.call hb
  clear hb
  refine sv (v := .bool false) henv rfl (rn_un henv rfl rfl) ?_
  clear henv a; intro a henv
  refine wpList_nil ?_
  refine th_n ?_
  refine if_f henv rfl (rfl) ?_
  refine wp_skip ?_
  refine th_n ?_
  refine wp_seq ?_
  refine wp_seq ?_
  refine region_seq ?_
  refine sv (v := .agg #[.int .i64 i, .int .i64 g, .slice A0 n0 c0, .slice A1 n1 c1]) henv rfl (rn_load0 henv ty_anvil_api_Prog rfl (hst.oat (k := 1) rfl) rfl) ?_
  clear henv a; intro a henv
  refine seq_step rfl (op_call henv rfl Tryd.call13 rfl (g_long (i := i) (g := g) (A0 := A0) (n0 := n0) (c0 := c0) (A1 := A1) (n1 := n1) (c1 := c1)) ?_)
  rintro e w56 ⟨rfl, hb⟩
  refine ⟨_, rfl, ?_⟩
  clear henv a; intro a henv
  replace hst := hst.call hb
  clear hb
  rw [show (decide (400 < n0 ∨ 400 < n1)) = true from (decide_eq_true hw)] at henv
  revert a
  refine mA rfl rfl ?_
  refine kA rfl rfl rfl rfl rfl ?_
  refine kA rfl rfl rfl rfl rfl ?_
  refine sA (v := .bool true) rfl (fun _ henv => rn_pick henv rfl rfl) ?_
  intro a henv
  refine wpList_nil ?_
  refine th_n ?_
  refine if_t henv rfl (rfl) ?_
  refine wp_seq ?_
  refine region_seq ?_
  refine sv (v := .bool true) henv rfl (rn_assign henv rfl) ?_
  clear henv a; intro a henv
  refine wpList_nil ?_
  refine th_n ?_
  refine wp_ret ?_
  refine th_r ?_
  refine leave henv (res1 Tryd.results5 (RV.tmp henv rfl)) ?_
  exact ⟨rfl, hst.below⟩
set_option maxRecDepth 100000 in
set_option maxHeartbeats 8000000 in
theorem gcopies_w1 {i g i2 g2 : Int} {A0 A1 A2 A3 : Option Addr} {n0 c0 n1 c1 n2 c2 n3 c3 : Nat} {es0 : List IE} {es1 : List Int} {es2 : List IE} {es3 : List Int} {w0 : World} (h0 : (pfRow fJ FJ 5 A0 n0 c0 es0).P w0) (h1 : (pfRow fI FI 1 A1 n1 c1 es1).P w0) (h2 : (pfRow fJ FJ 5 A2 n2 c2 es2).P w0) (h3 : (pfRow fI FI 1 A3 n3 c3 es3).P w0) (hv0 : ¬ (400 < n0 ∨ 400 < n1)) (hw : 400 < n2 ∨ 400 < n3) :
    Calls Tryd.prog 5 #[.agg #[.int .i64 i, .int .i64 g, .slice A0 n0 c0, .slice A1 n1 c1], .agg #[.int .i64 i2, .int .i64 g2, .slice A2 n2 c2, .slice A3 n3 c3]] w0 fun e w' => e = .returned (.bool true) ∧ Below w0.heap.size w0 w' := by
  refine enter Tryd.func5 rfl Tryd.ntmps5 rfl ?_
  intro a henv hst
  have hlen0 := h0.2.1
  have hbig0 := Nat.le_trans h0.1.cap h0.1.big
  unfold maxLen at hbig0
  have hlen1 := h1.2.1
  have hbig1 := Nat.le_trans h1.1.cap h1.1.big
  unfold maxLen at hbig1
  have hlen2 := h2.2.1
  have hbig2 := Nat.le_trans h2.1.cap h2.1.big
  unfold maxLen at hbig2
  have hlen3 := h3.2.1
  have hbig3 := Nat.le_trans h3.1.cap h3.1.big
  unfold maxLen at hbig3
  replace hst := hst.argRow h0
  replace hst := hst.argRow h1
  replace hst := hst.argRow h2
  replace hst := hst.argRow h3
  clear h0 h1 h2 h3
  refine wp_seq ?_
  refine region_seq ?_
  refine seq_step rfl (op_box (c := #[.int .i64 i, .int .i64 g, .slice A0 n0 c0, .slice A1 n1 c1]) henv hst rfl rfl rfl ?_)
  clear henv hst a; intro a w52 g51 henv hst
  refine seq_step rfl (op_box (c := #[.int .i64 i2, .int .i64 g2, .slice A2 n2 c2, .slice A3 n3 c3]) henv hst rfl rfl rfl ?_)
  clear henv hst a; intro a w54 g53 henv hst
  refine sv (v := .bool false) henv rfl (rn_assign henv rfl) ?_
  clear henv a; intro a henv
  refine wpList_nil ?_
  refine th_n ?_
  refine wp_seq ?_
  refine wp_seq ?_
  refine region_seq ?_
  refine seq_step rfl (op_call henv rfl Tryd.call10 rfl g_live ?_)
  rintro e w55 ⟨rfl, hb⟩
  refine ⟨_, rfl, ?_⟩
  clear henv a; intro a henv
  replace hst := hst.call hb
  clear hb
  refine sv (v := .bool false) henv rfl (rn_un henv rfl rfl) ?_
  clear henv a; intro a henv
  refine wpList_nil ?_
  refine th_n ?_
  refine if_f henv rfl (rfl) ?_
  refine wp_skip ?_
  refine th_n ?_
  refine wp_seq ?_
  refine wp_seq ?_
  refine region_seq ?_
  refine sv (v := .agg #[.int .i64 i, .int .i64 g, .slice A0 n0 c0, .slice A1 n1 c1]) henv rfl (rn_load0 henv ty_anvil_api_Prog rfl (hst.oat (k := 1) rfl) rfl) ?_
  clear henv a; intro a henv
  refine seq_step rfl (op_call henv rfl Tryd.call13 rfl (g_long (i := i) (g := g) (A0 := A0) (n0 := n0) (c0 := c0) (A1 := A1) (n1 := n1) (c1 := c1)) ?_)
  rintro e w56 ⟨rfl, hb⟩
  refine ⟨_, rfl, ?_⟩
  clear henv a; intro a henv
  replace hst := hst.call hb
  clear hb
  rw [show (decide (400 < n0 ∨ 400 < n1)) = false from (decide_eq_false hv0)] at henv
  revert a
  refine mA rfl rfl ?_
  refine gA (v := .agg #[.int .i64 i2, .int .i64 g2, .slice A2 n2 c2, .slice A3 n3 c3]) rfl rfl rfl rfl (fun _ henv => rn_load0 henv ty_anvil_api_Prog rfl (hst.oat (k := 0) rfl) rfl) ?_
  intro a henv
  refine seq_g rfl henv rfl rfl (op_call henv rfl Tryd.call13 rfl (g_long (i := i2) (g := g2) (A0 := A2) (n0 := n2) (c0 := c2) (A1 := A3) (n1 := n3) (c1 := c3)) ?_)
  rintro e w57 ⟨rfl, hb⟩
  refine ⟨_, rfl, ?_⟩
  clear henv a; intro a henv
  replace hst := hst.call hb
  clear hb
  rw [show (decide (400 < n2 ∨ 400 < n3)) = true from (decide_eq_true hw)] at henv
  refine sv (v := .bool true) henv rfl (rn_pick henv rfl rfl) ?_
  clear henv a; intro a henv
  refine wpList_nil ?_
  refine th_n ?_
  refine if_t henv rfl (rfl) ?_
  refine wp_seq ?_
  refine region_seq ?_
  refine sv (v := .bool true) henv rfl (rn_assign henv rfl) ?_
  clear henv a; intro a henv
  refine wpList_nil ?_
  refine th_n ?_
  refine wp_ret ?_
  refine th_r ?_
  refine leave henv (res1 Tryd.results5 (RV.tmp henv rfl)) ?_
  exact ⟨rfl, hst.below⟩
set_option maxRecDepth 100000 in
set_option maxHeartbeats 8000000 in
theorem gcopies_ok {i g i2 g2 : Int} {A0 A1 A2 A3 : Option Addr} {n0 c0 n1 c1 n2 c2 n3 c3 : Nat} {es0 : List IE} {es1 : List Int} {es2 : List IE} {es3 : List Int} {w0 : World} (h0 : (pfRow fJ FJ 5 A0 n0 c0 es0).P w0) (h1 : (pfRow fI FI 1 A1 n1 c1 es1).P w0) (h2 : (pfRow fJ FJ 5 A2 n2 c2 es2).P w0) (h3 : (pfRow fI FI 1 A3 n3 c3 es3).P w0) (hv0 : ¬ (400 < n0 ∨ 400 < n1)) (hv2 : ¬ (400 < n2 ∨ 400 < n3)) :
    Calls Tryd.prog 5 #[.agg #[.int .i64 i, .int .i64 g, .slice A0 n0 c0, .slice A1 n1 c1], .agg #[.int .i64 i2, .int .i64 g2, .slice A2 n2 c2, .slice A3 n3 c3]] w0 fun e w' => e = .returned (.bool true) ∧ Below w0.heap.size w0 w' := by
  refine enter Tryd.func5 rfl Tryd.ntmps5 rfl ?_
  intro a henv hst
  have hlen0 := h0.2.1
  have hbig0 := Nat.le_trans h0.1.cap h0.1.big
  unfold maxLen at hbig0
  have hlen1 := h1.2.1
  have hbig1 := Nat.le_trans h1.1.cap h1.1.big
  unfold maxLen at hbig1
  have hlen2 := h2.2.1
  have hbig2 := Nat.le_trans h2.1.cap h2.1.big
  unfold maxLen at hbig2
  have hlen3 := h3.2.1
  have hbig3 := Nat.le_trans h3.1.cap h3.1.big
  unfold maxLen at hbig3
  replace hst := hst.argRow h0
  replace hst := hst.argRow h1
  replace hst := hst.argRow h2
  replace hst := hst.argRow h3
  clear h0 h1 h2 h3
  refine wp_seq ?_
  refine region_seq ?_
  refine seq_step rfl (op_box (c := #[.int .i64 i, .int .i64 g, .slice A0 n0 c0, .slice A1 n1 c1]) henv hst rfl rfl rfl ?_)
  clear henv hst a; intro a w52 g51 henv hst
  refine seq_step rfl (op_box (c := #[.int .i64 i2, .int .i64 g2, .slice A2 n2 c2, .slice A3 n3 c3]) henv hst rfl rfl rfl ?_)
  clear henv hst a; intro a w54 g53 henv hst
  refine sv (v := .bool false) henv rfl (rn_assign henv rfl) ?_
  clear henv a; intro a henv
  refine wpList_nil ?_
  refine th_n ?_
  refine wp_seq ?_
  refine wp_seq ?_
  refine region_seq ?_
  refine seq_step rfl (op_call henv rfl Tryd.call10 rfl g_live ?_)
  rintro e w55 ⟨rfl, hb⟩
  refine ⟨_, rfl, ?_⟩
  clear henv a; intro a henv
  replace hst := hst.call hb
  clear hb
  refine sv (v := .bool false) henv rfl (rn_un henv rfl rfl) ?_
  clear henv a; intro a henv
  refine wpList_nil ?_
  refine th_n ?_
  refine if_f henv rfl (rfl) ?_
  refine wp_skip ?_
  refine th_n ?_
  refine wp_seq ?_
  refine wp_seq ?_
  refine region_seq ?_
  refine sv (v := .agg #[.int .i64 i, .int .i64 g, .slice A0 n0 c0, .slice A1 n1 c1]) henv rfl (rn_load0 henv ty_anvil_api_Prog rfl (hst.oat (k := 1) rfl) rfl) ?_
  clear henv a; intro a henv
  refine seq_step rfl (op_call henv rfl Tryd.call13 rfl (g_long (i := i) (g := g) (A0 := A0) (n0 := n0) (c0 := c0) (A1 := A1) (n1 := n1) (c1 := c1)) ?_)
  rintro e w56 ⟨rfl, hb⟩
  refine ⟨_, rfl, ?_⟩
  clear henv a; intro a henv
  replace hst := hst.call hb
  clear hb
  rw [show (decide (400 < n0 ∨ 400 < n1)) = false from (decide_eq_false hv0)] at henv
  revert a
  refine mA rfl rfl ?_
  refine gA (v := .agg #[.int .i64 i2, .int .i64 g2, .slice A2 n2 c2, .slice A3 n3 c3]) rfl rfl rfl rfl (fun _ henv => rn_load0 henv ty_anvil_api_Prog rfl (hst.oat (k := 0) rfl) rfl) ?_
  intro a henv
  refine seq_g rfl henv rfl rfl (op_call henv rfl Tryd.call13 rfl (g_long (i := i2) (g := g2) (A0 := A2) (n0 := n2) (c0 := c2) (A1 := A3) (n1 := n3) (c1 := c3)) ?_)
  rintro e w57 ⟨rfl, hb⟩
  refine ⟨_, rfl, ?_⟩
  clear henv a; intro a henv
  replace hst := hst.call hb
  clear hb
  rw [show (decide (400 < n2 ∨ 400 < n3)) = false from (decide_eq_false hv2)] at henv
  refine sv (v := .bool false) henv rfl (rn_pick henv rfl rfl) ?_
  clear henv a; intro a henv
  refine wpList_nil ?_
  refine th_n ?_
  refine if_f henv rfl (rfl) ?_
  refine wp_skip ?_
  refine th_n ?_
  refine wp_seq ?_
  refine region_seq ?_
  revert a
  refine sA (v := .agg #[.int .i64 i, .int .i64 g, .slice A0 n0 c0, .slice A1 n1 c1]) rfl (fun _ henv => rn_load0 henv ty_anvil_api_Prog rfl (hst.oat (k := 1) rfl) rfl) ?_
  refine sA (v := .agg #[.int .i64 i2, .int .i64 g2, .slice A2 n2 c2, .slice A3 n3 c3]) rfl (fun _ henv => rn_load0 henv ty_anvil_api_Prog rfl (hst.oat (k := 0) rfl) rfl) ?_
  intro a henv
  refine seq_step rfl (op_call henv rfl Tryd.call16 rfl (r_same (i := i) (g := g) (i2 := i2) (g2 := g2) (hst.pat (k := 3) rfl) (hst.pat (k := 2) rfl) (hst.pat (k := 1) rfl) (hst.pat (k := 0) rfl)) ?_)
  rintro e w58 ⟨rfl, hb⟩
  refine ⟨_, rfl, ?_⟩
  clear henv a; intro a henv
  replace hst := hst.call hb
  clear hb
  refine sv (v := .bool (decide (i = i2 ∧ g = g2 ∧ es0 = es2 ∧ es1 = es3))) henv rfl (rn_assign henv rfl) ?_
  clear henv a; intro a henv
  refine wpList_nil ?_
  refine th_n ?_
  refine wp_seq ?_
  refine wp_seq ?_
  refine region_seq ?_
  revert a
  refine sA (v := .agg #[.int .i64 i, .int .i64 g, .slice A0 n0 c0, .slice A1 n1 c1]) rfl (fun _ henv => rn_load0 henv ty_anvil_api_Prog rfl (hst.oat (k := 1) rfl) rfl) ?_
  refine sA (v := .agg #[.int .i64 i2, .int .i64 g2, .slice A2 n2 c2, .slice A3 n3 c3]) rfl (fun _ henv => rn_load0 henv ty_anvil_api_Prog rfl (hst.oat (k := 0) rfl) rfl) ?_
  intro a henv
  refine seq_step rfl (op_call henv rfl Tryd.call17 rfl (g_same (i := i) (g := g) (i2 := i2) (g2 := g2) (hst.pat (k := 3) rfl) (hst.pat (k := 2) rfl) (hst.pat (k := 1) rfl) (hst.pat (k := 0) rfl)) ?_)
  rintro e w59 ⟨rfl, hb⟩
  refine ⟨_, rfl, ?_⟩
  clear henv a; intro a henv
  replace hst := hst.call hb
  clear hb
  revert a
  refine mA rfl rfl ?_
  refine sA (v := .bool (!((decide (i = i2 ∧ g = g2 ∧ es0 = es2 ∧ es1 = es3)) == (decide (i = i2 ∧ g = g2 ∧ es0 = es2 ∧ es1 = es3))))) rfl (fun _ henv => rn_neqb henv Tryd.underlying4 rfl rfl) ?_
  intro a henv
  rw [show (!((decide (i = i2 ∧ g = g2 ∧ es0 = es2 ∧ es1 = es3)) == (decide (i = i2 ∧ g = g2 ∧ es0 = es2 ∧ es1 = es3)))) = false from (by rw [beq_self_eq_true]; rfl)] at henv
  revert a
  refine mA rfl rfl ?_
  refine gA (v := .agg #[.int .i64 i, .int .i64 g, .slice A0 n0 c0, .slice A1 n1 c1]) rfl rfl rfl rfl (fun _ henv => rn_load0 henv ty_anvil_api_Prog rfl (hst.oat (k := 1) rfl) rfl) ?_
  refine gA (v := .agg #[.int .i64 i, .int .i64 g, .slice A0 n0 c0, .slice A1 n1 c1]) rfl rfl rfl rfl (fun _ henv => rn_load0 henv ty_anvil_api_Prog rfl (hst.oat (k := 1) rfl) rfl) ?_
  intro a henv
  refine seq_g rfl henv rfl rfl (op_call henv rfl Tryd.call17 rfl (g_same (i := i) (g := g) (i2 := i) (g2 := g) (hst.pat (k := 3) rfl) (hst.pat (k := 2) rfl) (hst.pat (k := 3) rfl) (hst.pat (k := 2) rfl)) ?_)
  rintro e w60 ⟨rfl, hb⟩
  refine ⟨_, rfl, ?_⟩
  clear henv a; intro a henv
  replace hst := hst.call hb
  clear hb
  rw [show (decide (i = i ∧ g = g ∧ es0 = es0 ∧ es1 = es1)) = true from (decide_eq_true ⟨rfl, rfl, rfl, rfl⟩)] at henv
  revert a
  refine gA (v := .bool false) rfl rfl rfl rfl (fun _ henv => rn_un henv rfl rfl) ?_
  refine sA (v := .bool false) rfl (fun _ henv => rn_pick henv rfl rfl) ?_
  refine mA rfl rfl ?_
  intro a henv
  refine seq_g rfl henv rfl rfl (op_call henv rfl Tryd.call10 rfl g_live ?_)
  rintro e w61 ⟨rfl, hb⟩
  refine ⟨_, rfl, ?_⟩
  clear henv a; intro a henv
  replace hst := hst.call hb
  clear hb
  revert a
  refine gA (v := .bool false) rfl rfl rfl rfl (fun _ henv => rn_un henv rfl rfl) ?_
  refine sA (v := .bool false) rfl (fun _ henv => rn_pick henv rfl rfl) ?_
  intro a henv
  refine wpList_nil ?_
  refine th_n ?_
  refine if_f henv rfl (rfl) ?_
  refine wp_skip ?_
  refine th_n ?_
  refine wp_seq ?_
  refine wp_seq ?_
  refine region_seq ?_
  refine sv (v := .int .i64 0) henv rfl (rn_assign henv rfl) ?_
  clear henv a; intro a henv
  refine wpList_nil ?_
  refine th_n ?_
  refine wp_block ?_
  refine wp_loop_ghost (fun mz a w => ∃ j : Nat, n0 - j = mz ∧ Env 123 a [(2, .pointer (some ⟨g51, 0, none⟩)), (3, .pointer (some ⟨g53, 0, none⟩)), (6, .int .i64 (j : Nat))] ∧ St w0 w [bk g53 #[.int .i64 i2, .int .i64 g2, .slice A2 n2 c2, .slice A3 n3 c3] 25, bk g51 #[.int .i64 i, .int .i64 g, .slice A0 n0 c0, .slice A1 n1 c1] 25] [pfRow fI FI 1 A3 n3 c3 es3, pfRow fJ FJ 5 A2 n2 c2 es2, pfRow fI FI 1 A1 n1 c1 es1, pfRow fJ FJ 5 A0 n0 c0 es0] ∧ j ≤ n0) _ ⟨0, rfl, henv.sub ⟨rfl, rfl, rfl, trivial⟩, hst.pick [0, 1] [0, 1, 2, 3] (by decide), (Nat.zero_le _)⟩ ?_
  clear henv hst a
  rintro mz a w62 ⟨j, rfl, henv, hst, hj⟩
  refine wp_seq ?_
  refine wp_seq ?_
  refine region_seq ?_
  revert a
  refine mA rfl rfl ?_
  refine sA (v := .pointer (some ⟨g51, 2, none⟩)) rfl (fun _ henv => rn_fieldAddr henv fd_anvil_api_Prog_2 (ty__api_Instr.size) (by decide) rfl) ?_
  refine sA (v := .slice A0 n0 c0) rfl (fun _ henv => rn_load1 henv ty__api_Instr rfl (hst.oat (k := 1) rfl) rfl) ?_
  refine sA (v := .int .i64 (n0 : Nat)) rfl (fun _ henv => rn_len henv Tryd.underlying22 rfl) ?_
  refine sA (v := .bool (decide (((j : Nat) : Int) < ((n0 : Nat) : Int)))) rfl (fun _ henv => rn_bin henv rfl rfl rfl) ?_
  intro a henv
  refine wpList_nil ?_
  refine th_n ?_
  refine if_split henv rfl (fun hc63 => ?_) (fun hc63 => ?_)
  · have hlt : j < n0 := by have := of_decide_eq_true hc63; omega
    obtain ⟨⟨a1, a2, a3, a4, a5⟩, he0⟩ : ∃ e, es0[j]? = some e := ⟨_, List.getElem?_eq_getElem (by omega)⟩
    have hal := asks_len a1 a3 a4
    refine wp_skip ?_
    refine th_n ?_
    refine wp_seq ?_
    refine wp_block ?_
    refine wp_seq ?_
    refine region_seq ?_
    revert a
    refine sA (v := .pointer (some ⟨g51, 2, none⟩)) rfl (fun _ henv => rn_fieldAddr henv fd_anvil_api_Prog_2 (ty__api_Instr.size) (by decide) rfl) ?_
    refine sA (v := .slice A0 n0 c0) rfl (fun _ henv => rn_load1 henv ty__api_Instr rfl (hst.oat (k := 1) rfl) rfl) ?_
    refine mA rfl rfl ?_
    refine sA (v := .pointer (some ⟨ab A0, ao A0 + j * 5, none⟩)) rfl (fun _ henv => rn_idxR (i := j) henv Tryd.underlying22 (ty_anvil_api_Instr.size) rfl rfl (by omega) rfl (show (pfRow fJ FJ 5 A0 n0 c0 es0).P _ from (hst.pat (k := 3) rfl)).1) ?_
    refine sA (v := .agg #[.int .i64 a1, .int .i64 a2, .int .i64 a3, .int .i64 a4, .int .i64 a5]) rfl (fun _ henv => rn_loadE (i := j) (e := (a1, a2, a3, a4, a5)) henv ty_anvil_api_Instr rfl rfl fJ_len (show (pfRow fJ FJ 5 A0 n0 c0 es0).P _ from (hst.pat (k := 3) rfl)).1 (by omega) he0 rfl) ?_
    intro a henv
    refine seq_step rfl (op_call henv rfl Tryd.call18 rfl (g_asks (op := a1) (tr := a2) (ra := a3) (rb := a4) (cn := a5)) ?_)
    rintro e w66 ⟨_, rfl, ⟨A64, c65, rfl, hr, hfr⟩, hb⟩
    refine ⟨_, rfl, ?_⟩
    clear henv a; intro a henv
    replace hst := hst.freshI hb hr hfr
    clear hr
    clear hb
    refine sv (v := .slice A64 ((asksL a1 a3 a4).length) c65) henv rfl (rn_assign henv rfl) ?_
    clear henv a; intro a henv
    refine wpList_nil ?_
    refine th_n ?_
    refine wp_seq ?_
    refine region_seq ?_
    revert a
    refine sA (v := .pointer (some ⟨g51, 2, none⟩)) rfl (fun _ henv => rn_fieldAddr henv fd_anvil_api_Prog_2 (ty__api_Instr.size) (by decide) rfl) ?_
    refine sA (v := .slice A0 n0 c0) rfl (fun _ henv => rn_load1 henv ty__api_Instr rfl (hst.oat (k := 1) rfl) rfl) ?_
    refine mA rfl rfl ?_
    refine sA (v := .pointer (some ⟨ab A0, ao A0 + j * 5, none⟩)) rfl (fun _ henv => rn_idxR (i := j) henv Tryd.underlying22 (ty_anvil_api_Instr.size) rfl rfl (by omega) rfl (show (pfRow fJ FJ 5 A0 n0 c0 es0).P _ from (hst.pat (k := 4) rfl)).1) ?_
    refine sA (v := .agg #[.int .i64 a1, .int .i64 a2, .int .i64 a3, .int .i64 a4, .int .i64 a5]) rfl (fun _ henv => rn_loadE (i := j) (e := (a1, a2, a3, a4, a5)) henv ty_anvil_api_Instr rfl rfl fJ_len (show (pfRow fJ FJ 5 A0 n0 c0 es0).P _ from (hst.pat (k := 4) rfl)).1 (by omega) he0 rfl) ?_
    intro a henv
    refine seq_step rfl (op_call henv rfl Tryd.call19 rfl (r_asks (op := a1) (tr := a2) (ra := a3) (rb := a4) (cn := a5)) ?_)
    rintro e w69 ⟨_, rfl, ⟨A67, c68, rfl, hr, hfr⟩, hb⟩
    refine ⟨_, rfl, ?_⟩
    clear henv a; intro a henv
    replace hst := hst.freshI hb hr hfr
    clear hr
    clear hb
    refine sv (v := .slice A67 ((asksL a1 a3 a4).length) c68) henv rfl (rn_assign henv rfl) ?_
    clear henv a; intro a henv
    refine wpList_nil ?_
    refine th_n ?_
    refine wp_seq ?_
    refine wp_seq ?_
    refine region_seq ?_
    revert a
    refine mA rfl rfl ?_
    refine sA (v := .int .i64 ((asksL a1 a3 a4).length : Nat)) rfl (fun _ henv => rn_len henv Tryd.underlying23 rfl) ?_
    refine mA rfl rfl ?_
    refine sA (v := .int .i64 ((asksL a1 a3 a4).length : Nat)) rfl (fun _ henv => rn_len henv Tryd.underlying23 rfl) ?_
    refine sA (v := .bool ((((asksL a1 a3 a4).length : Nat) : Int) != (((asksL a1 a3 a4).length : Nat) : Int))) rfl (fun _ henv => rn_bin henv rfl rfl rfl) ?_
    intro a henv
    rw [show ((((asksL a1 a3 a4).length : Nat) : Int) != (((asksL a1 a3 a4).length : Nat) : Int)) = false from (bne_self_eq_false _)] at henv
    refine wpList_nil ?_
    refine th_n ?_
    refine if_f henv rfl (rfl) ?_
    refine wp_skip ?_
    refine th_n ?_
    refine wp_seq ?_
    refine region_seq ?_
    refine sv (v := .int .i64 0) henv rfl (rn_assign henv rfl) ?_
    clear henv a; intro a henv
    refine wpList_nil ?_
    refine th_n ?_
    refine wp_block ?_
    refine wp_loop_ghost (fun mz a w => ∃ m : Nat, (asksL a1 a3 a4).length - m = mz ∧ Env 123 a [(2, .pointer (some ⟨g51, 0, none⟩)), (3, .pointer (some ⟨g53, 0, none⟩)), (6, .int .i64 (j : Nat)), (7, .slice A64 ((asksL a1 a3 a4).length) c65), (8, .slice A67 ((asksL a1 a3 a4).length) c68), (9, .int .i64 (m : Nat))] ∧ St w0 w [bk g53 #[.int .i64 i2, .int .i64 g2, .slice A2 n2 c2, .slice A3 n3 c3] 25, bk g51 #[.int .i64 i, .int .i64 g, .slice A0 n0 c0, .slice A1 n1 c1] 25] [pfRow fI FI 1 A67 ((asksL a1 a3 a4).length) c68 (asksL a1 a3 a4), pfRow fI FI 1 A64 ((asksL a1 a3 a4).length) c65 (asksL a1 a3 a4), pfRow fI FI 1 A3 n3 c3 es3, pfRow fJ FJ 5 A2 n2 c2 es2, pfRow fI FI 1 A1 n1 c1 es1, pfRow fJ FJ 5 A0 n0 c0 es0] ∧ m ≤ (asksL a1 a3 a4).length) _ ⟨0, rfl, henv.sub ⟨rfl, rfl, rfl, rfl, rfl, rfl, trivial⟩, hst.pick [0, 1] [0, 1, 2, 3, 4, 5] (by decide), (Nat.zero_le _)⟩ ?_
    clear henv hst a
    rintro mz a w70 ⟨m, rfl, henv, hst, hm⟩
    refine wp_seq ?_
    refine wp_seq ?_
    refine region_seq ?_
    revert a
    refine mA rfl rfl ?_
    refine mA rfl rfl ?_
    refine sA (v := .int .i64 ((asksL a1 a3 a4).length : Nat)) rfl (fun _ henv => rn_len henv Tryd.underlying23 rfl) ?_
    refine sA (v := .bool (decide (((m : Nat) : Int) < (((asksL a1 a3 a4).length : Nat) : Int)))) rfl (fun _ henv => rn_bin henv rfl rfl rfl) ?_
    intro a henv
    refine wpList_nil ?_
    refine th_n ?_
    refine if_split henv rfl (fun hc71 => ?_) (fun hc71 => ?_)
    · have hlm : m < (asksL a1 a3 a4).length := by have := of_decide_eq_true hc71; omega
      obtain ⟨x, hea⟩ : ∃ x, (asksL a1 a3 a4)[m]? = some x := ⟨_, List.getElem?_eq_getElem hlm⟩
      refine wp_skip ?_
      refine th_n ?_
      refine wp_seq ?_
      refine wp_block ?_
      refine wp_seq ?_
      refine region_any (n := 9) (Sk [bk g53 #[.int .i64 i2, .int .i64 g2, .slice A2 n2 c2, .slice A3 n3 c3] 25, bk g51 #[.int .i64 i, .int .i64 g, .slice A0 n0 c0, .slice A1 n1 c1] 25] [pfRow fI FI 1 A67 ((asksL a1 a3 a4).length) c68 (asksL a1 a3 a4), pfRow fI FI 1 A64 ((asksL a1 a3 a4).length) c65 (asksL a1 a3 a4), pfRow fI FI 1 A3 n3 c3 es3, pfRow fJ FJ 5 A2 n2 c2 es2, pfRow fI FI 1 A1 n1 c1 es1, pfRow fJ FJ 5 A0 n0 c0 es0] [] []) mixed rfl henv hst ?_
      clear henv hst; intro w72 henv hst
      refine tM (i := 0) [2, 3, 8] rfl (by kernel_rfl) (fun _ _ _ h => h) henv rfl rfl ?_
      clear henv a; intro a henv
      refine tM (i := 1) [2, 3, 8] rfl (by kernel_rfl) (fun _ _ _ h => h) henv rfl rfl ?_
      clear henv a; intro a henv
      refine sAny_take (i := 2) [3, 8] (fun w' => (pfRow fI FI 1 A64 ((asksL a1 a3 a4).length) c65 (asksL a1 a3 a4)).P w') (v := .pointer (some ⟨ab A64, ao A64 + m * 1, none⟩)) rfl (by kernel_rfl) (fun _ _ _ h => h) (fun _ _ _ hS => hS.1.pat (k := 1) rfl) henv rfl (hst.pat (k := 1) rfl) (fun w' hg => rn_idxR (i := m) henv Tryd.underlying23 (ty_int.size) rfl rfl (by omega) rfl (show (pfRow fI FI 1 A64 ((asksL a1 a3 a4).length) c65 (asksL a1 a3 a4)).P _ from hg).1) ?_
      clear henv a; intro a henv
      refine sAny_take (i := 3) [8] (fun w' => (pfRow fI FI 1 A64 ((asksL a1 a3 a4).length) c65 (asksL a1 a3 a4)).P w') (v := .int .i64 x) rfl (by kernel_rfl) (fun _ _ _ h => h) (fun _ _ _ hS => hS.1.pat (k := 1) rfl) henv rfl (hst.pat (k := 1) rfl) (fun w' hg => rn_loadE1 (i := m) (j := 0) (e := x) henv ty_int rfl rfl fI_len (by decide) (show (pfRow fI FI 1 A64 ((asksL a1 a3 a4).length) c65 (asksL a1 a3 a4)).P _ from hg).1 (by omega) hea rfl) ?_
      clear henv a; intro a henv
      refine tM (i := 4) [6, 7, 8] rfl (by kernel_rfl) (fun _ _ _ h => h) henv rfl rfl ?_
      clear henv a; intro a henv
      refine tM (i := 5) [6, 7, 8] rfl (by kernel_rfl) (fun _ _ _ h => h) henv rfl rfl ?_
      clear henv a; intro a henv
      refine sAny_take (i := 6) [7, 8] (fun w' => (pfRow fI FI 1 A67 ((asksL a1 a3 a4).length) c68 (asksL a1 a3 a4)).P w') (v := .pointer (some ⟨ab A67, ao A67 + m * 1, none⟩)) rfl (by kernel_rfl) (fun _ _ _ h => h) (fun _ _ _ hS => hS.1.pat (k := 0) rfl) henv rfl (hst.pat (k := 0) rfl) (fun w' hg => rn_idxR (i := m) henv Tryd.underlying23 (ty_int.size) rfl rfl (by omega) rfl (show (pfRow fI FI 1 A67 ((asksL a1 a3 a4).length) c68 (asksL a1 a3 a4)).P _ from hg).1) ?_
      clear henv a; intro a henv
      refine sAny_take (i := 7) [8] (fun w' => (pfRow fI FI 1 A67 ((asksL a1 a3 a4).length) c68 (asksL a1 a3 a4)).P w') (v := .int .i64 x) rfl (by kernel_rfl) (fun _ _ _ h => h) (fun _ _ _ hS => hS.1.pat (k := 0) rfl) henv rfl (hst.pat (k := 0) rfl) (fun w' hg => rn_loadE1 (i := m) (j := 0) (e := x) henv ty_int rfl rfl fI_len (by decide) (show (pfRow fI FI 1 A67 ((asksL a1 a3 a4).length) c68 (asksL a1 a3 a4)).P _ from hg).1 (by omega) hea rfl) ?_
      clear henv a; intro a henv
      refine tA (i := 8) [] (v := .bool (x != x)) rfl (by kernel_rfl) (fun _ _ _ h => h) henv rfl (fun _ => rn_bin henv rfl rfl rfl) ?_
      clear henv a; intro a henv
      rw [show (x != x) = false from (bne_self_eq_false _)] at henv
      refine sAny_done (by kernel_rfl) ?_ _
      refine th_n ?_
      refine if_f henv rfl (rfl) ?_
      refine wp_skip ?_
      refine bl_n (th_n ?_)
      refine region_seq ?_
      revert a
      refine mA rfl rfl ?_
      refine sA (v := .int .i64 (m + 1 : Nat)) rfl (fun _ henv => rn_add henv rfl rfl (by rw [IntWalk.i64_in _ (by omega)]; omega)) ?_
      refine aA rfl rfl ?_
      intro a henv
      refine wpList_nil ?_
      exact th_n ⟨_, (by omega), ⟨m + 1, rfl, henv.sub ⟨rfl, rfl, rfl, rfl, rfl, rfl, trivial⟩, hst.pick [0, 1] [0, 1, 2, 3, 4, 5] (by decide), (by omega)⟩⟩
    · refine wp_exit ?_
      refine th_x (th_x (bl_x (bl_n (th_n ?_))))
      refine region_seq ?_
      revert a
      refine mA rfl rfl ?_
      refine sA (v := .int .i64 (j + 1 : Nat)) rfl (fun _ henv => rn_add henv rfl rfl (by rw [IntWalk.i64_in _ (by omega)]; omega)) ?_
      refine aA rfl rfl ?_
      intro a henv
      refine wpList_nil ?_
      exact th_n ⟨_, (by omega), ⟨j + 1, rfl, henv.sub ⟨rfl, rfl, rfl, trivial⟩, hst.pick [0, 1] [2, 3, 4, 5] (by decide), (by omega)⟩⟩
  · refine wp_exit ?_
    refine th_x (th_x (bl_x (th_n ?_)))
    refine wp_seq ?_
    refine region_seq ?_
    refine sv (v := .agg #[.int .i64 i, .int .i64 g, .slice A0 n0 c0, .slice A1 n1 c1]) henv rfl (rn_load0 henv ty_anvil_api_Prog rfl (hst.oat (k := 1) rfl) rfl) ?_
    clear henv a; intro a henv
    refine seq_step rfl (op_call henv rfl Tryd.call20 rfl (r_copy (hst.pat (k := 3) rfl) (hst.pat (k := 2) rfl) (by omega) (by omega)) ?_)
    rintro e w77 ⟨A73, c74, A75, c76, rfl, ⟨hr, hr2, hap⟩, hb⟩
    refine ⟨_, rfl, ?_⟩
    clear henv a; intro a henv
    replace hst := hst.fresh2 hb hr hlen0 (fun _ _ _ _ _ q => by obtain ⟨_, _, q⟩ := q; cases q) hr2 hlen1 (fun _ _ _ _ _ q => by obtain ⟨_, _, q⟩ := q; cases q)
    clear hr
    clear hr2 hap
    clear hb
    refine seq_step rfl (op_alloc (c := #[.int .i64 0, .int .i64 0, .slice none 0 0, .slice none 0 0]) henv hst rfl zero_anvil_api_Prog rfl ?_)
    clear henv hst a; intro a w79 g78 henv hst
    refine seq_step rfl (op_store (k := 0) (c' := #[.int .i64 i, .int .i64 g, .slice A73 n0 c74, .slice A75 n1 c76]) henv hst (ty_anvil_api_Prog.size) rfl rfl rfl rfl (by simp) rfl rfl ?_)
    clear henv hst a; intro a w80 henv hst
    refine wpList_nil ?_
    refine th_n ?_
    refine wp_seq ?_
    refine region_seq ?_
    refine sv (v := .agg #[.int .i64 i, .int .i64 g, .slice A0 n0 c0, .slice A1 n1 c1]) henv rfl (rn_load0 henv ty_anvil_api_Prog rfl (hst.oat (k := 2) rfl) rfl) ?_
    clear henv a; intro a henv
    refine seq_step rfl (op_call henv rfl Tryd.call21 rfl (g_copy (hst.pat (k := 5) rfl) (hst.pat (k := 4) rfl) (by omega) (by omega)) ?_)
    rintro e w85 ⟨A81, c82, A83, c84, rfl, hr, hb⟩
    refine ⟨_, rfl, ?_⟩
    clear henv a; intro a henv
    replace hst := hst.own2 hb hr
    clear hr
    clear hb
    refine seq_step rfl (op_alloc (c := #[.int .i64 0, .int .i64 0, .slice none 0 0, .slice none 0 0]) henv hst rfl zero_anvil_api_Prog rfl ?_)
    clear henv hst a; intro a w87 g86 henv hst
    refine seq_step rfl (op_store (k := 0) (c' := #[.int .i64 i, .int .i64 g, .slice A81 n0 c82, .slice A83 n1 c84]) henv hst (ty_anvil_api_Prog.size) rfl rfl rfl rfl (by simp) rfl rfl ?_)
    clear henv hst a; intro a w88 henv hst
    refine wpList_nil ?_
    refine th_n ?_
    refine wp_seq ?_
    refine wp_seq ?_
    refine region_seq ?_
    revert a
    refine sA (v := .agg #[.int .i64 i, .int .i64 g, .slice A81 n0 c82, .slice A83 n1 c84]) rfl (fun _ henv => rn_load0 henv ty_anvil_api_Prog rfl (hst.oat (k := 0) rfl) rfl) ?_
    refine sA (v := .agg #[.int .i64 i, .int .i64 g, .slice A0 n0 c0, .slice A1 n1 c1]) rfl (fun _ henv => rn_load0 henv ty_anvil_api_Prog rfl (hst.oat (k := 5) rfl) rfl) ?_
    intro a henv
    refine seq_step rfl (op_call henv rfl Tryd.call16 rfl (r_same (i := i) (g := g) (i2 := i) (g2 := g) ⟨rowS_rd (hst.owns (k := 1) rfl), hlen0, fun _ _ => trivial⟩ ⟨rowS_rd (hst.owns (k := 2) rfl), hlen1, fun _ _ => trivial⟩ (hst.pat (k := 5) rfl) (hst.pat (k := 4) rfl)) ?_)
    rintro e w89 ⟨rfl, hb⟩
    refine ⟨_, rfl, ?_⟩
    clear henv a; intro a henv
    replace hst := hst.call hb
    clear hb
    rw [show (decide (i = i ∧ g = g ∧ es0 = es0 ∧ es1 = es1)) = true from (decide_eq_true ⟨rfl, rfl, rfl, rfl⟩)] at henv
    refine sv (v := .bool false) henv rfl (rn_un henv rfl rfl) ?_
    clear henv a; intro a henv
    refine wpList_nil ?_
    refine th_n ?_
    refine if_f henv rfl (rfl) ?_
    refine wp_skip ?_
    refine th_n ?_
    refine wp_seq ?_
    refine region_any (n := 14) (Sk [bk g86 #[.int .i64 i, .int .i64 g, .slice A81 n0 c82, .slice A83 n1 c84] 25, rowS notU 37 5 A81 n0 c82 (fl fJ es0), rowS notU 3 1 A83 n1 c84 (fl fI es1), bk g78 #[.int .i64 i, .int .i64 g, .slice A73 n0 c74, .slice A75 n1 c76] 25, bk g53 #[.int .i64 i2, .int .i64 g2, .slice A2 n2 c2, .slice A3 n3 c3] 25, bk g51 #[.int .i64 i, .int .i64 g, .slice A0 n0 c0, .slice A1 n1 c1] 25] [pfRow fI FI 1 A75 n1 c76 es1, pfRow fJ FJ 5 A73 n0 c74 es0, pfRow fI FI 1 A3 n3 c3 es3, pfRow fJ FJ 5 A2 n2 c2 es2, pfRow fI FI 1 A1 n1 c1 es1, pfRow fJ FJ 5 A0 n0 c0 es0] [] []) mixed rfl henv hst ?_
    clear henv hst; intro w90 henv hst
    refine tA (i := 0) [1, 5, 12, 13] (v := .pointer (some ⟨g86, 2, none⟩)) rfl (by kernel_rfl) (fun _ _ _ h => h) henv rfl (fun _ => rn_fieldAddr henv fd_anvil_api_Prog_2 (ty__api_Instr.size) (by decide) rfl) ?_
    clear henv a; intro a henv
    refine sAny_take (i := 1) [5, 12, 13] (fun w' => w'.heap[g86]? = some (.cells #[.int .i64 i, .int .i64 g, .slice A81 n0 c82, .slice A83 n1 c84] 25 (0, 0))) (v := .slice A81 n0 c82) rfl (by kernel_rfl) (fun _ _ _ h => h) (fun _ _ _ hS => hS.1.oat (k := 0) rfl) henv rfl (hst.oat (k := 0) rfl) (fun w' hg => rn_load1 henv ty__api_Instr rfl hg rfl) ?_
    clear henv a; intro a henv
    refine tA (i := 2) [3, 4, 5, 12, 13] (v := .pointer (some ⟨g86, 2, none⟩)) rfl (by kernel_rfl) (fun _ _ _ h => h) henv rfl (fun _ => rn_fieldAddr henv fd_anvil_api_Prog_2 (ty__api_Instr.size) (by decide) rfl) ?_
    clear henv a; intro a henv
    refine sAny_take (i := 3) [4, 5, 12, 13] (fun w' => w'.heap[g86]? = some (.cells #[.int .i64 i, .int .i64 g, .slice A81 n0 c82, .slice A83 n1 c84] 25 (0, 0))) (v := .slice A81 n0 c82) rfl (by kernel_rfl) (fun _ _ _ h => h) (fun _ _ _ hS => hS.1.oat (k := 0) rfl) henv rfl (hst.oat (k := 0) rfl) (fun w' hg => rn_load1 henv ty__api_Instr rfl hg rfl) ?_
    clear henv a; intro a henv
    refine tA (i := 4) [5, 12, 13] (v := .int .i64 (c82 : Nat)) rfl (by kernel_rfl) (fun _ _ _ h => h) henv rfl (fun _ => rn_cap henv Tryd.underlying22 rfl) ?_
    clear henv a; intro a henv
    refine tA (i := 5) [12, 13] (v := .slice A81 c82 c82) rfl (by kernel_rfl) (fun _ _ _ h => h) henv rfl (fun _ => rn_sliceTo (m := c82) henv Tryd.underlying22 (ty_anvil_api_Instr.size) rfl rfl (by omega)) ?_
    clear henv a; intro a henv
    refine tA (i := 6) [7, 11, 13] (v := .pointer (some ⟨g86, 3, none⟩)) rfl (by kernel_rfl) (fun _ _ _ h => h) henv rfl (fun _ => rn_fieldAddr henv fd_anvil_api_Prog_3 (ty__int.size) (by decide) rfl) ?_
    clear henv a; intro a henv
    refine sAny_take (i := 7) [11, 13] (fun w' => w'.heap[g86]? = some (.cells #[.int .i64 i, .int .i64 g, .slice A81 n0 c82, .slice A83 n1 c84] 25 (0, 0))) (v := .slice A83 n1 c84) rfl (by kernel_rfl) (fun _ _ _ h => h) (fun _ _ _ hS => hS.1.oat (k := 0) rfl) henv rfl (hst.oat (k := 0) rfl) (fun w' hg => rn_load1 henv ty__int rfl hg rfl) ?_
    clear henv a; intro a henv
    refine tA (i := 8) [9, 10, 11, 13] (v := .pointer (some ⟨g86, 3, none⟩)) rfl (by kernel_rfl) (fun _ _ _ h => h) henv rfl (fun _ => rn_fieldAddr henv fd_anvil_api_Prog_3 (ty__int.size) (by decide) rfl) ?_
    clear henv a; intro a henv
    refine sAny_take (i := 9) [10, 11, 13] (fun w' => w'.heap[g86]? = some (.cells #[.int .i64 i, .int .i64 g, .slice A81 n0 c82, .slice A83 n1 c84] 25 (0, 0))) (v := .slice A83 n1 c84) rfl (by kernel_rfl) (fun _ _ _ h => h) (fun _ _ _ hS => hS.1.oat (k := 0) rfl) henv rfl (hst.oat (k := 0) rfl) (fun w' hg => rn_load1 henv ty__int rfl hg rfl) ?_
    clear henv a; intro a henv
    refine tA (i := 10) [11, 13] (v := .int .i64 (c84 : Nat)) rfl (by kernel_rfl) (fun _ _ _ h => h) henv rfl (fun _ => rn_cap henv Tryd.underlying23 rfl) ?_
    clear henv a; intro a henv
    refine tA (i := 11) [13] (v := .slice A83 c84 c84) rfl (by kernel_rfl) (fun _ _ _ h => h) henv rfl (fun _ => rn_sliceTo (m := c84) henv Tryd.underlying23 (ty_int.size) rfl rfl (by omega)) ?_
    clear henv a; intro a henv
    refine tA (i := 12) [13] (v := .slice A81 c82 c82) rfl (by kernel_rfl) (fun _ _ _ h => h) henv rfl (fun _ => rn_assign henv rfl) ?_
    clear henv a; intro a henv
    refine tA (i := 13) [] (v := .slice A83 c84 c84) rfl (by kernel_rfl) (fun _ _ _ h => h) henv rfl (fun _ => rn_assign henv rfl) ?_
    clear henv a; intro a henv
    refine sAny_done (by kernel_rfl) ?_ _
    refine th_n ?_
    refine wp_seq ?_
    refine wp_seq ?_
    refine region_seq ?_
    refine sv (v := .int .i64 0) henv rfl (rn_assign henv rfl) ?_
    clear henv a; intro a henv
    refine wpList_nil ?_
    refine th_n ?_
    refine wp_block ?_
    obtain ⟨xsJ, hxlJ, hst⟩ := hst.rowAll5 (k := 1) rfl
    replace hst : St w0 _ [bk g86 #[.int .i64 i, .int .i64 g, .slice A81 n0 c82, .slice A83 n1 c84] 25, rowS notU 37 5 A81 c82 c82 (fl fV5 xsJ), rowS notU 3 1 A83 n1 c84 (fl fI es1), bk g78 #[.int .i64 i, .int .i64 g, .slice A73 n0 c74, .slice A75 n1 c76] 25, bk g53 #[.int .i64 i2, .int .i64 g2, .slice A2 n2 c2, .slice A3 n3 c3] 25, bk g51 #[.int .i64 i, .int .i64 g, .slice A0 n0 c0, .slice A1 n1 c1] 25] [pfRow fI FI 1 A75 n1 c76 es1, pfRow fJ FJ 5 A73 n0 c74 es0, pfRow fI FI 1 A3 n3 c3 es3, pfRow fJ FJ 5 A2 n2 c2 es2, pfRow fI FI 1 A1 n1 c1 es1, pfRow fJ FJ 5 A0 n0 c0 es0] := hst
    have hcmJ := (rowS_cap (hst.owns (k := 1) rfl)).2
    unfold maxLen at hcmJ
    refine wp_loop_ghost (fun mz a w => ∃ m : Nat, ∃ ys : List V5, c82 - m = mz ∧ Env 123 a [(2, .pointer (some ⟨g51, 0, none⟩)), (10, .pointer (some ⟨g78, 0, none⟩)), (12, .slice A81 c82 c82), (13, .slice A83 c84 c84), (14, .int .i64 (m : Nat))] ∧ St w0 w [bk g86 #[.int .i64 i, .int .i64 g, .slice A81 n0 c82, .slice A83 n1 c84] 25, rowS notU 37 5 A81 c82 c82 (fl fV5 ys), rowS notU 3 1 A83 n1 c84 (fl fI es1), bk g78 #[.int .i64 i, .int .i64 g, .slice A73 n0 c74, .slice A75 n1 c76] 25, bk g53 #[.int .i64 i2, .int .i64 g2, .slice A2 n2 c2, .slice A3 n3 c3] 25, bk g51 #[.int .i64 i, .int .i64 g, .slice A0 n0 c0, .slice A1 n1 c1] 25] [pfRow fI FI 1 A75 n1 c76 es1, pfRow fJ FJ 5 A73 n0 c74 es0, pfRow fI FI 1 A3 n3 c3 es3, pfRow fJ FJ 5 A2 n2 c2 es2, pfRow fI FI 1 A1 n1 c1 es1, pfRow fJ FJ 5 A0 n0 c0 es0] ∧ m ≤ c82 ∧ ys.length = c82) _ ⟨0, xsJ, rfl, henv.sub ⟨rfl, rfl, rfl, rfl, rfl, trivial⟩, hst.pick [0, 1, 2, 3, 4, 5] [0, 1, 2, 3, 4, 5] (by decide), (Nat.zero_le _), hxlJ⟩ ?_
    clear henv hst a
    rintro mz a w91 ⟨m, ys, rfl, henv, hst, hm, hylJ⟩
    refine wp_seq ?_
    refine wp_seq ?_
    refine region_seq ?_
    revert a
    refine mA rfl rfl ?_
    refine mA rfl rfl ?_
    refine sA (v := .int .i64 (c82 : Nat)) rfl (fun _ henv => rn_len henv Tryd.underlying22 rfl) ?_
    refine sA (v := .bool (decide (((m : Nat) : Int) < ((c82 : Nat) : Int)))) rfl (fun _ henv => rn_bin henv rfl rfl rfl) ?_
    intro a henv
    refine wpList_nil ?_
    refine th_n ?_
    refine if_split henv rfl (fun hc92 => ?_) (fun hc92 => ?_)
    · have hlm : m < c82 := by have := of_decide_eq_true hc92; omega
      refine wp_skip ?_
      refine th_n ?_
      refine wp_seq ?_
      refine wp_block ?_
      refine region_seq ?_
      revert a
      refine mA rfl rfl ?_
      refine mA rfl rfl ?_
      refine sA (v := .agg #[.int .i64 99, .int .i64 0, .int .i64 0, .int .i64 0, .int .i64 0]) rfl (fun _ henv => rn_instr0 henv rfl) ?_
      refine sA (v := .pointer (some ⟨ab A81, ao A81 + m * 5, none⟩)) rfl (fun _ henv => rn_idxR (i := m) henv Tryd.underlying22 (ty_anvil_api_Instr.size) rfl rfl (by omega) rfl (rowS_rd (hst.owns (k := 1) rfl))) ?_
      intro a henv
      refine seq_step rfl (op_storeS (i := m) (e := (.int .i64 99, .int .i64 0, .int .i64 0, .int .i64 0, .int .i64 0)) (k := 1) henv hst (ty_anvil_api_Instr.size) rfl rfl rfl rfl fV5_len (by omega) hylJ rfl rfl rfl ?_)
      clear henv hst a; intro a w93 henv hst
      refine wpList_nil ?_
      refine bl_n (th_n ?_)
      refine region_seq ?_
      revert a
      refine mA rfl rfl ?_
      refine sA (v := .int .i64 (m + 1 : Nat)) rfl (fun _ henv => rn_add henv rfl rfl (by rw [IntWalk.i64_in _ (by omega)]; omega)) ?_
      refine aA rfl rfl ?_
      intro a henv
      refine wpList_nil ?_
      exact th_n ⟨_, (by omega), ⟨m + 1, (ys.set m (.int .i64 99, .int .i64 0, .int .i64 0, .int .i64 0, .int .i64 0)), rfl, henv.sub ⟨rfl, rfl, rfl, rfl, rfl, trivial⟩, hst.pick [0, 1, 2, 3, 4, 5] [0, 1, 2, 3, 4, 5] (by decide), (by omega), (by rw [List.length_set]; exact hylJ)⟩⟩
    · refine wp_exit ?_
      refine th_x (th_x (bl_x (th_n ?_)))
      refine wp_seq ?_
      refine wp_seq ?_
      refine region_seq ?_
      refine sv (v := .int .i64 0) henv rfl (rn_assign henv rfl) ?_
      clear henv a; intro a henv
      refine wpList_nil ?_
      refine th_n ?_
      refine wp_block ?_
      obtain ⟨xsI, hxlI, hst⟩ := hst.rowAll1 (k := 2) rfl
      replace hst : St w0 _ [bk g86 #[.int .i64 i, .int .i64 g, .slice A81 n0 c82, .slice A83 n1 c84] 25, rowS notU 37 5 A81 c82 c82 (fl fV5 ys), rowS notU 3 1 A83 c84 c84 (fl fV1 xsI), bk g78 #[.int .i64 i, .int .i64 g, .slice A73 n0 c74, .slice A75 n1 c76] 25, bk g53 #[.int .i64 i2, .int .i64 g2, .slice A2 n2 c2, .slice A3 n3 c3] 25, bk g51 #[.int .i64 i, .int .i64 g, .slice A0 n0 c0, .slice A1 n1 c1] 25] [pfRow fI FI 1 A75 n1 c76 es1, pfRow fJ FJ 5 A73 n0 c74 es0, pfRow fI FI 1 A3 n3 c3 es3, pfRow fJ FJ 5 A2 n2 c2 es2, pfRow fI FI 1 A1 n1 c1 es1, pfRow fJ FJ 5 A0 n0 c0 es0] := hst
      have hcmI := (rowS_cap (hst.owns (k := 2) rfl)).2
      unfold maxLen at hcmI
      refine wp_loop_ghost (fun mz a w => ∃ m2 : Nat, ∃ zs : List Value, c84 - m2 = mz ∧ Env 123 a [(2, .pointer (some ⟨g51, 0, none⟩)), (10, .pointer (some ⟨g78, 0, none⟩)), (12, .slice A81 c82 c82), (13, .slice A83 c84 c84), (15, .int .i64 (m2 : Nat))] ∧ St w0 w [bk g86 #[.int .i64 i, .int .i64 g, .slice A81 n0 c82, .slice A83 n1 c84] 25, rowS notU 37 5 A81 c82 c82 (fl fV5 ys), rowS notU 3 1 A83 c84 c84 (fl fV1 zs), bk g78 #[.int .i64 i, .int .i64 g, .slice A73 n0 c74, .slice A75 n1 c76] 25, bk g53 #[.int .i64 i2, .int .i64 g2, .slice A2 n2 c2, .slice A3 n3 c3] 25, bk g51 #[.int .i64 i, .int .i64 g, .slice A0 n0 c0, .slice A1 n1 c1] 25] [pfRow fI FI 1 A75 n1 c76 es1, pfRow fJ FJ 5 A73 n0 c74 es0, pfRow fI FI 1 A3 n3 c3 es3, pfRow fJ FJ 5 A2 n2 c2 es2, pfRow fI FI 1 A1 n1 c1 es1, pfRow fJ FJ 5 A0 n0 c0 es0] ∧ m2 ≤ c84 ∧ zs.length = c84) _ ⟨0, xsI, rfl, henv.sub ⟨rfl, rfl, rfl, rfl, rfl, trivial⟩, hst.pick [0, 1, 2, 3, 4, 5] [0, 1, 2, 3, 4, 5] (by decide), (Nat.zero_le _), hxlI⟩ ?_
      clear henv hst a
      rintro mz a w94 ⟨m2, zs, rfl, henv, hst, hm, hylI⟩
      refine wp_seq ?_
      refine wp_seq ?_
      refine region_seq ?_
      revert a
      refine mA rfl rfl ?_
      refine mA rfl rfl ?_
      refine sA (v := .int .i64 (c84 : Nat)) rfl (fun _ henv => rn_len henv Tryd.underlying23 rfl) ?_
      refine sA (v := .bool (decide (((m2 : Nat) : Int) < ((c84 : Nat) : Int)))) rfl (fun _ henv => rn_bin henv rfl rfl rfl) ?_
      intro a henv
      refine wpList_nil ?_
      refine th_n ?_
      refine if_split henv rfl (fun hc95 => ?_) (fun hc95 => ?_)
      · have hlm : m2 < c84 := by have := of_decide_eq_true hc95; omega
        refine wp_skip ?_
        refine th_n ?_
        refine wp_seq ?_
        refine wp_block ?_
        refine region_seq ?_
        revert a
        refine mA rfl rfl ?_
        refine mA rfl rfl ?_
        refine sA (v := .pointer (some ⟨ab A83, ao A83 + m2 * 1, none⟩)) rfl (fun _ henv => rn_idxR (i := m2) henv Tryd.underlying23 (ty_int.size) rfl rfl (by omega) rfl (rowS_rd (hst.owns (k := 2) rfl))) ?_
        intro a henv
        refine seq_step rfl (op_storeW1 (f := fV1) (i := m2) (e := .int .i64 (-7)) (k := 2) henv hst (ty_int.size) rfl rfl rfl rfl fV1_len (by omega) hylI rfl rfl rfl ?_)
        clear henv hst a; intro a w96 henv hst
        refine wpList_nil ?_
        refine bl_n (th_n ?_)
        refine region_seq ?_
        revert a
        refine mA rfl rfl ?_
        refine sA (v := .int .i64 (m2 + 1 : Nat)) rfl (fun _ henv => rn_add henv rfl rfl (by rw [IntWalk.i64_in _ (by omega)]; omega)) ?_
        refine aA rfl rfl ?_
        intro a henv
        refine wpList_nil ?_
        exact th_n ⟨_, (by omega), ⟨m2 + 1, (zs.set m2 (.int .i64 (-7))), rfl, henv.sub ⟨rfl, rfl, rfl, rfl, rfl, trivial⟩, hst.pick [0, 1, 2, 3, 4, 5] [0, 1, 2, 3, 4, 5] (by decide), (by omega), (by rw [List.length_set]; exact hylI)⟩⟩
      · refine wp_exit ?_
        refine th_x (th_x (bl_x (th_n ?_)))
        refine wp_seq ?_
        refine region_seq ?_
        revert a
        refine sA (v := .agg #[.int .i64 i, .int .i64 g, .slice A0 n0 c0, .slice A1 n1 c1]) rfl (fun _ henv => rn_load0 henv ty_anvil_api_Prog rfl (hst.oat (k := 5) rfl) rfl) ?_
        refine sA (v := .agg #[.int .i64 i, .int .i64 g, .slice A73 n0 c74, .slice A75 n1 c76]) rfl (fun _ henv => rn_load0 henv ty_anvil_api_Prog rfl (hst.oat (k := 3) rfl) rfl) ?_
        intro a henv
        refine seq_step rfl (op_call henv rfl Tryd.call16 rfl (r_same (i := i) (g := g) (i2 := i) (g2 := g) (hst.pat (k := 5) rfl) (hst.pat (k := 4) rfl) (hst.pat (k := 1) rfl) (hst.pat (k := 0) rfl)) ?_)
        rintro e w97 ⟨rfl, hb⟩
        refine ⟨_, rfl, ?_⟩
        clear henv a; intro a henv
        replace hst := hst.call hb
        clear hb
        rw [show (decide (i = i ∧ g = g ∧ es0 = es0 ∧ es1 = es1)) = true from (decide_eq_true ⟨rfl, rfl, rfl, rfl⟩)] at henv
        refine sv (v := .bool true) henv rfl (rn_assign henv rfl) ?_
        clear henv a; intro a henv
        refine wpList_nil ?_
        refine th_n ?_
        refine wp_ret ?_
        refine leave henv (res1 Tryd.results5 (RV.tmp henv rfl)) ?_
        exact ⟨rfl, hst.below⟩
theorem gcopies_law {i g i2 g2 : Int} {A0 A1 A2 A3 : Option Addr} {n0 c0 n1 c1 n2 c2 n3 c3 : Nat} {es0 : List IE} {es1 : List Int} {es2 : List IE} {es3 : List Int} {w0 : World} (h0 : (pfRow fJ FJ 5 A0 n0 c0 es0).P w0) (h1 : (pfRow fI FI 1 A1 n1 c1 es1).P w0) (h2 : (pfRow fJ FJ 5 A2 n2 c2 es2).P w0) (h3 : (pfRow fI FI 1 A3 n3 c3 es3).P w0) :
    Calls Tryd.prog 5 #[.agg #[.int .i64 i, .int .i64 g, .slice A0 n0 c0, .slice A1 n1 c1], .agg #[.int .i64 i2, .int .i64 g2, .slice A2 n2 c2, .slice A3 n3 c3]] w0 fun e w' => e = .returned (.bool true) ∧ Below w0.heap.size w0 w' := by
  by_cases a : 400 < n0 ∨ 400 < n1
  · exact gcopies_w0 h0 h1 h2 h3 a
  by_cases b : 400 < n2 ∨ 400 < n3
  · exact gcopies_w1 h0 h1 h2 h3 a b
  · exact gcopies_ok h0 h1 h2 h3 a b
end Go.Proofs.YtbdngknpngcojaaDoor.W
