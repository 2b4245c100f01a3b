/- row.Over, Content, Primitive; the reference's Over, Content, Zero, Primitive. Printed by pv/gen_row9.py. No condition. -/
import Derived.Test.YtghaenkacjgdnaaDoorM47
import Derived.Test.YtghaenkacjgdnaaDoorM15
import Derived.Test.YtghaenkacjgdnaaDoorM38
import Derived.Test.YtghaenkacjgdnaaDoorM49
import Derived.Test.YtghaenkacjgdnaaDoorM24
import Derived.Test.YtghaenkacjgdnaaDoorM36
import Derived.Test.YtghaenkacjgdnaaDoorM22
import Derived.Test.YtghaenkacjgdnaaDoorM6

namespace Go.Proofs.YtghaenkacjgdnaaDoor.W
open Go.RowKit Anv Go.Lib
def ovr (x y : Int) : Int := if x % y = 0 then x / y else 0
theorem divs_step {es : List NE} {xs : List Int} {j : Nat} {A : Option Addr} {c : Nat} {z m : Int} (hz : es.map zz = xs) (hd : divs m (xs.take j)) (he : es[j]? = some (A, c, z)) (h : z % m = 0) : divs m (xs.take (j + 1)) := by
  rw [ztake_snoc hz he]
  intro x hx
  rcases List.mem_append.1 hx with hx | hx
  · exact hd x hx
  · rw [List.mem_singleton.1 hx]; exact h
end Go.Proofs.YtghaenkacjgdnaaDoor.W

/- RowSums: the law's walk. Printed by pv/gen_rowA.py. No condition. -/
namespace Go.Proofs.YtghaenkacjgdnaaDoor.W
open Go.RowKit Anv Go.Lib
theorem Zk.zb {k : Nat} {es : List NE} (h : Zk k (es.map zz)) : ZB k es := h.es rfl
end Go.Proofs.YtghaenkacjgdnaaDoor.W

/- RowTexts, RowReads: the laws' walks. Printed by pv/gen_rowE.py. No condition. -/
namespace Go.Proofs.YtghaenkacjgdnaaDoor.W
open Go.RowKit Anv Go.Lib
theorem row_text' {A0 : Option Addr} {n0 c0 : Nat} {es0 : List NE} {xs : List Int} {w0 : World} (h0 : (pfRow fN FN 2 A0 n0 c0 es0).P w0) (hz0 : es0.map zz = xs) (hk : Zk 90000 xs) (hn : n0 ≤ 1000000) :
    Calls Tryd.prog 79 #[.slice A0 n0 c0] w0 fun e w' => e = .returned (.string ⟨(textRow xs).toArray⟩) ∧ Below w0.heap.size w0 w' := by
  subst hz0
  exact row_text h0 hk.zb hn
end Go.Proofs.YtghaenkacjgdnaaDoor.W

/- anvillaw20's list, ref, is, works; slices.Clone, poly.Trim, Same, Text, Read. Printed by pv/gen_po1.py. No condition. -/
namespace Go.Proofs.YtghaenkacjgdnaaDoor.W
open Go.RowKit Anv Go.Lib
def LRowS (B : Nat) (w : World) (v : Value) (n : Nat) (zs : List Int) : Prop := ∃ g es, v = .slice (some ⟨g, 0, none⟩) n (n + 2) ∧ NewRow notU 28 2 fN FN B w (some ⟨g, 0, none⟩) (n + 2) (n + 2) es ∧ es.length = n + 2 ∧ es.map zz = zs ++ [0, 0]
def ZRowN (B : Nat) (w : World) (v : Value) (n : Nat) (zs : List Int) : Prop := ∃ A c es, v = .slice A n c ∧ NewRow notU 28 2 fN FN B w A n c es ∧ es.length = n ∧ es.map zz = zs ∧ (n = 0 → A = none)
def MRowN (B : Nat) (w : World) (v : Value) (n : Nat) (zs : List Int) : Prop := ∃ A c es, v = .slice A n c ∧ NewRow notU 39 2 fM FM B w A n c es ∧ es.length = n ∧ es.map zz = zs ∧ (n = 0 → A = none)
theorem zrown_nil {B n : Nat} {w : World} {zs : List Int} (hn : n = 0) (hz : zs = []) : ZRowN B w (.slice none 0 0) n zs := by
  subst hn hz
  exact ⟨none, 0, [], rfl, ⟨⟨World.ownsRow_nil w 0 _ 2, fun g hg => by simp [Value.ownBlock] at hg⟩, es_nil FN w, fun a h => by cases h⟩, rfl, rfl, fun _ => rfl⟩
theorem lst_step {ps : List NE} {es : List Int} {j m c : Nat} {A : Option Addr} {x : Int} (ho : ps.map zz = es.take j ++ List.replicate (m - j) 0) (he : es[j]? = some x) (hm : j < m) : (ps.set j (A, c, x)).map zz = es.take (j + 1) ++ List.replicate (m - (j + 1)) 0 := by
  have hl : (es.take j).length = j := by
    rw [List.length_take]
    have := (List.getElem?_eq_some_iff.1 he).1
    omega
  rw [List.map_set, ho, List.set_append_right _ _ (by omega), hl, Nat.sub_self, show m - j = (m - (j + 1)) + 1 by omega, List.replicate_succ, List.set_cons_zero, take_one he, List.append_assoc]
  rfl
theorem row_none {α : Type} {f : α → List Value} {F : α → PF} {z n c : Nat} {A : Option Addr} {es : List α} {w : World} (h : (pfRow f F z A n c es).P w) (hA : A = none) : n = 0 := by
  subst hA
  rcases Nat.eq_zero_or_pos n with h0 | h0
  · exact h0
  · obtain ⟨b, off, e, _⟩ := h.1.cells h0
    cases e
theorem nil_eq {A : Option Addr} {n : Nat} (h : n = 0 → A = none) (h' : A = none → n = 0) : (A.isNone == (((n : Nat) : Int) == (0 : Int))) = true := by
  rcases Nat.eq_zero_or_pos n with h0 | h0
  · rw [h h0, h0]; rfl
  · cases A with
    | none => exact absurd (h' rfl) (by omega)
    | some a =>
      rw [beq_eq_false_iff_ne.2 (show ((n : Nat) : Int) ≠ 0 by omega)]
      rfl
theorem St.listRow {w0 w : World} {own ps : List PF} {k n m c : Nat} {A : Option Addr} {es : List NE} {zs : List Int} (h : St w0 w own ps) (hk : ps[k]? = some (pfRow fN FN 2 A m c es)) (hz : es.map zz = zs ++ [0, 0]) (hl : zs.length = n) : ∃ es' : List NE, St w0 w own (pfRow fN FN 2 A n c es' :: ps) ∧ es'.length = n ∧ es'.map zz = zs := by
  have h1 : es.length = m := (h.pat hk).2.1
  have h2 := congrArg List.length hz
  rw [List.length_map, List.length_append] at h2
  simp only [List.length_cons, List.length_nil] at h2
  refine ⟨es.take n, h.preRow hk n fN_len (by omega), by rw [List.length_take]; omega, ?_⟩
  rw [List.map_take, hz, List.take_left' hl]
set_option maxRecDepth 100000 in
set_option maxHeartbeats 2000000 in
theorem p20_list {A0 : Option Addr} {n0 c0 : Nat} {es0 : List Int} {w0 : World} (h0 : (pfRow fI FI 1 A0 n0 c0 es0).P w0) (hI : I64 es0) (hn : n0 ≤ 10000000) :
    Calls Tryd.prog 12 #[.slice A0 n0 c0] w0 fun e w' => ∃ v, e = .returned v ∧ LRowS w0.heap.size w' v n0 es0 ∧ Below w0.heap.size w0 w' := by
  refine enter Tryd.func12 rfl Tryd.ntmps12 rfl ?_
  intro a henv hst
  have hlen0 := h0.2.1
  have hbig0 := Nat.le_trans h0.1.cap h0.1.big
  unfold maxLen at hbig0
  replace hst := hst.argRow h0
  clear h0
  refine wp_seq ?_
  refine region_seq ?_
  refine sv (v := .slice none 0 0) henv rfl (rn_assign henv rfl) ?_
  clear henv a; intro a henv
  refine wpList_nil ?_
  refine th_n ?_
  refine wp_seq ?_
  refine region_seq ?_
  revert a
  refine mA rfl rfl ?_
  refine sA (v := .int .i64 (n0 : Nat)) rfl (fun _ henv => rn_len henv Tryd.underlying22 rfl) ?_
  refine sA (v := .int .i64 (n0 + 2 : Nat)) rfl (fun _ henv => rn_add henv rfl rfl (by rw [IntWalk.i64_in _ (by omega)]; omega)) ?_
  intro a henv
  refine seq_step rfl (op_makeC (f := fN) (e0 := (none, 0, 0)) (q := notU) (n := 0) (m := n0 + 2) henv hst rfl Tryd.underlying32 inf_anvil_integer_Int rfl rfl fN_zero rfl rfl rfl (by omega) (by omega) (by unfold maxLen; omega) ?_)
  clear henv hst a; intro a w52 g51 henv hst
  have hzl : zl 0 = 0 := zl_zero
  replace hst := hst.addNs (es_zeros (n0 + 2) _) ⟨nou_rowS, trivial⟩
  refine sv (v := .slice (some ⟨g51, 0, none⟩) 0 (n0 + 2)) henv rfl (rn_assign henv rfl) ?_
  clear henv a; intro a henv
  refine wpList_nil ?_
  refine th_n ?_
  refine wp_seq ?_
  refine wp_seq ?_
  refine region_seq ?_
  revert a
  refine mA rfl rfl ?_
  refine sA (v := .int .i64 (n0 : Nat)) rfl (fun _ henv => rn_len henv Tryd.underlying22 rfl) ?_
  refine mA rfl rfl ?_
  intro a henv
  refine wpList_nil ?_
  refine th_n ?_
  refine wp_block ?_
  refine wp_loop_ghost (fun mz a w => ∃ j : Nat, ∃ ps : List NE, n0 - j = mz ∧ Env 23 a [(10, .slice A0 n0 c0), (11, .int .i64 (n0 : Nat)), (12, .int .i64 (j : Nat)), (3, .slice (some ⟨g51, 0, none⟩) j (n0 + 2))] ∧ St w0 w [rowS notU 28 2 (some ⟨g51, 0, none⟩) (n0 + 2) (n0 + 2) (fl fN ps)] [pfRow fI FI 1 A0 n0 c0 es0, pfEs FN ps] ∧ j ≤ n0 ∧ ps.map zz = es0.take j ++ List.replicate (n0 + 2 - j) 0) _ ⟨0, (List.replicate (n0 + 2) (none, 0, 0)), rfl, henv.sub ⟨rfl, rfl, rfl, rfl, trivial⟩, hst.pick [0] [1, 0] (by decide), (Nat.zero_le _), (by rw [List.map_replicate]; rfl)⟩ ?_
  clear henv hst a
  rintro mz a w53 ⟨j, ps, rfl, henv, hst, hj, ho⟩
  refine wp_seq ?_
  refine region_seq ?_
  refine sv (v := .bool (decide (((j : Nat) : Int) < ((n0 : Nat) : Int)))) henv rfl (rn_bin henv rfl rfl rfl) ?_
  clear henv a; intro a henv
  refine wpList_nil ?_
  refine th_n ?_
  refine wp_seq ?_
  refine if_split henv rfl (fun hc54 => ?_) (fun hc54 => ?_)
  · have hlt : j < n0 := by have := of_decide_eq_true hc54; omega
    obtain ⟨x, he0⟩ : ∃ x, es0[j]? = some x := ⟨_, List.getElem?_eq_getElem (by omega)⟩
    have hx := hI.at he0
    have hpl : ps.length = n0 + 2 := map_len ho (by simp; omega)
    refine wp_skip ?_
    refine th_n ?_
    refine wp_seq ?_
    refine wp_block ?_
    refine wp_seq ?_
    refine region_seq ?_
    revert a
    refine sA (v := .pointer (some ⟨ab A0, ao A0 + j * 1, none⟩)) rfl (fun _ henv => rn_idxR (i := j) henv Tryd.underlying22 (ty_int64.size) rfl rfl (by omega) rfl (show (pfRow fI FI 1 A0 n0 c0 es0).P _ from (hst.pat (k := 0) rfl)).1) ?_
    refine sA (v := .int .i64 x) rfl (fun _ henv => rn_loadE1 (i := j) (j := 0) (e := x) henv ty_int64 rfl rfl fI_len (by decide) (show (pfRow fI FI 1 A0 n0 c0 es0).P _ from (hst.pat (k := 0) rfl)).1 (by omega) he0 rfl) ?_
    refine aA rfl rfl ?_
    intro a henv
    refine wpList_nil ?_
    refine th_n ?_
    refine region_seq ?_
    revert a
    refine mA rfl rfl ?_
    refine mA rfl rfl ?_
    intro a henv
    refine seq_step rfl (op_call henv rfl Tryd.call34 rfl (of_z (n := x) (by omega) (by omega)) ?_)
    rintro e w58 ⟨_, rfl, ⟨A55, c56, rfl, hz57⟩, hb⟩
    refine ⟨_, rfl, ?_⟩
    clear henv a; intro a henv
    replace hst := (hst.call hb).addZ hz57 ⟨nou_rowS, trivial⟩
    clear hz57
    clear hb
    refine seq_step rfl (op_buildSlice (z := 2) (pv := #[(0, .agg #[.bool (neg x), .slice A55 (zl x) c56])]) (c := #[.bool (neg x), .slice A55 (zl x) c56]) henv hst rfl Tryd.underlying32 (ty_anvil_integer_Int.size) zero_anvil_integer_Int (by decide) (by decide) rfl (by kernel_rfl) ?_)
    clear henv hst a; intro a w60 g59 henv hst
    refine seq_step rfl (op_appendIn (f := fN) (e := (A55, c56, x)) (k := 1) (j := 0) henv hst rfl Tryd.underlying32 (ty_anvil_integer_Int.size) rfl rfl rfl rfl fN_len rfl (by omega) hpl rfl rfl ?_)
    clear henv hst a; intro a w61 henv hst
    replace hst := hst.setEs (e := (A55, c56, x)) (i := 2) (j := 0) rfl rfl j
    refine sv (v := .slice (some ⟨g51, 0, none⟩) (j + 1) (n0 + 2)) henv rfl (rn_assign henv rfl) ?_
    clear henv a; intro a henv
    refine wpList_nil ?_
    refine bl_n (th_n ?_)
    refine region_seq ?_
    revert a
    refine sA (v := .int .i64 (j + 1 : Nat)) rfl (fun _ henv => rn_add henv rfl rfl (by rw [IntWalk.i64_in _ (by omega)]; omega)) ?_
    refine mA rfl rfl ?_
    intro a henv
    refine wpList_nil ?_
    exact th_n ⟨_, (by omega), ⟨j + 1, (ps.set j (A55, c56, x)), rfl, henv.sub ⟨rfl, rfl, rfl, rfl, trivial⟩, hst.pick [1] [2, 0] (by decide), (by omega), (lst_step ho he0 (by omega))⟩⟩
  · obtain rfl : n0 = j := by have := of_decide_eq_false hc54; omega
    refine wp_exit ?_
    refine th_x (th_x (bl_x (th_n ?_)))
    refine wp_seq ?_
    refine region_seq ?_
    revert a
    refine mA rfl rfl ?_
    refine aA rfl rfl ?_
    intro a henv
    refine wpList_nil ?_
    refine th_n ?_
    refine wp_ret ?_
    refine leave henv (res1 Tryd.results12 (RV.tmp henv rfl)) ?_
    rw [List.take_of_length_le (by omega)] at ho
    exact ⟨_, rfl, ⟨_, ps, rfl, hst.newRow (k := 0) (j := 1) rfl rfl, map_len ho (by simp; omega), by rw [ho, show n0 + 2 - n0 = 2 by omega]; rfl⟩, hst.below⟩
set_option maxRecDepth 100000 in
set_option maxHeartbeats 2000000 in
theorem p20_ref {A0 : Option Addr} {n0 c0 : Nat} {es0 : List Int} {w0 : World} (h0 : (pfRow fI FI 1 A0 n0 c0 es0).P w0) (hI : I64 es0) (hn : n0 ≤ 10000000) :
    Calls Tryd.prog 18 #[.slice A0 n0 c0] w0 fun e w' => ∃ v, e = .returned v ∧ MRowN w0.heap.size w' v n0 es0 ∧ Below w0.heap.size w0 w' := by
  refine enter Tryd.func18 rfl Tryd.ntmps18 rfl ?_
  intro a henv hst
  have hlen0 := h0.2.1
  have hbig0 := Nat.le_trans h0.1.cap h0.1.big
  unfold maxLen at hbig0
  replace hst := hst.argRow h0
  clear h0
  refine wp_seq ?_
  refine region_seq ?_
  refine sv (v := .slice none 0 0) henv rfl (rn_assign henv rfl) ?_
  clear henv a; intro a henv
  refine wpList_nil ?_
  refine th_n ?_
  refine wp_seq ?_
  refine region_seq ?_
  refine sv (v := .slice none 0 0) henv rfl (rn_assign henv rfl) ?_
  clear henv a; intro a henv
  refine wpList_nil ?_
  refine th_n ?_
  refine wp_seq ?_
  refine wp_seq ?_
  refine region_seq ?_
  revert a
  refine mA rfl rfl ?_
  refine sA (v := .int .i64 (n0 : Nat)) rfl (fun _ henv => rn_len henv Tryd.underlying22 rfl) ?_
  refine mA rfl rfl ?_
  intro a henv
  refine wpList_nil ?_
  refine th_n ?_
  refine wp_block ?_
  replace hst := (hst.addRowS notU 39 2).nilEs FM
  replace hst : St w0 _ [rowS notU 39 2 none 0 0 (fl fM ([]))] [pfEs FM ([]), pfRow fI FI 1 A0 n0 c0 es0] := hst
  refine wp_loop_ghost (fun mz a w => ∃ j : Nat, ∃ B : Option Addr, ∃ d : Nat, ∃ os : List NE, n0 - j = mz ∧ Env 19 a [(6, .slice A0 n0 c0), (7, .int .i64 (n0 : Nat)), (8, .int .i64 (j : Nat)), (3, .slice B j d)] ∧ St w0 w [rowS notU 39 2 B j d (fl fM os)] [pfRow fI FI 1 A0 n0 c0 es0, pfEs FM os] ∧ j ≤ n0 ∧ os.map zz = es0.take j ∧ (j = 0 → B = none)) _ ⟨0, none, 0, [], rfl, henv.sub ⟨rfl, rfl, rfl, rfl, trivial⟩, hst.pick [0] [1, 0] (by decide), (Nat.zero_le _), rfl, (fun _ => rfl)⟩ ?_
  clear henv hst a
  rintro mz a w51 ⟨j, B, d, os, rfl, henv, hst, hj, ho, hB⟩
  refine wp_seq ?_
  refine region_seq ?_
  refine sv (v := .bool (decide (((j : Nat) : Int) < ((n0 : Nat) : Int)))) henv rfl (rn_bin henv rfl rfl rfl) ?_
  clear henv a; intro a henv
  refine wpList_nil ?_
  refine th_n ?_
  refine wp_seq ?_
  refine if_split henv rfl (fun hc52 => ?_) (fun hc52 => ?_)
  · have hlt : j < n0 := by have := of_decide_eq_true hc52; omega
    obtain ⟨x, he0⟩ : ∃ x, es0[j]? = some x := ⟨_, List.getElem?_eq_getElem (by omega)⟩
    have hx := hI.at he0
    refine wp_skip ?_
    refine th_n ?_
    refine wp_seq ?_
    refine wp_block ?_
    refine wp_seq ?_
    refine region_seq ?_
    revert a
    refine sA (v := .pointer (some ⟨ab A0, ao A0 + j * 1, none⟩)) rfl (fun _ henv => rn_idxR (i := j) henv Tryd.underlying22 (ty_int64.size) rfl rfl (by omega) rfl (show (pfRow fI FI 1 A0 n0 c0 es0).P _ from (hst.pat (k := 0) rfl)).1) ?_
    refine sA (v := .int .i64 x) rfl (fun _ henv => rn_loadE1 (i := j) (j := 0) (e := x) henv ty_int64 rfl rfl fI_len (by decide) (show (pfRow fI FI 1 A0 n0 c0 es0).P _ from (hst.pat (k := 0) rfl)).1 (by omega) he0 rfl) ?_
    refine aA rfl rfl ?_
    intro a henv
    refine wpList_nil ?_
    refine th_n ?_
    refine region_seq ?_
    revert a
    refine mA rfl rfl ?_
    refine mA rfl rfl ?_
    intro a henv
    refine seq_step rfl (op_call henv rfl Tryd.call36 rfl (of_r (n := x) (by omega) (by omega)) ?_)
    rintro e w56 ⟨_, rfl, ⟨A53, c54, rfl, hz55⟩, hb⟩
    refine ⟨_, rfl, ?_⟩
    clear henv a; intro a henv
    replace hst := (hst.call hb).addR hz55 ⟨nou_rowS, trivial⟩
    clear hz55
    clear hb
    refine seq_step rfl (op_buildSlice (z := 2) (pv := #[(0, .agg #[.bool (neg x), .slice A53 (dl x) c54])]) (c := #[.bool (neg x), .slice A53 (dl x) c54]) henv hst rfl Tryd.underlying42 (ty_anvil_anvilref02_Int.size) zero_anvil_anvilref02_Int (by decide) (by decide) rfl (by kernel_rfl) ?_)
    clear henv hst a; intro a w58 g57 henv hst
    refine seq_step rfl (op_appendS (k := 1) (j := 0) henv hst rfl Tryd.underlying42 inf_anvil_anvilref02_Int rfl rfl rfl rfl rfl rfl rfl rfl rfl rfl rfl (by unfold maxLen; omega) (by omega) ?_)
    clear henv hst a; intro a w61 g59 c60 henv hst
    rw [show fl fM os ++ (#[.bool (neg x), .slice A53 (dl x) c54] : Array Value).toList = fl fM (os ++ [(A53, c54, x)]) from fl_snoc (f := fM) os (A53, c54, x)] at hst
    replace hst := hst.snocEs (e := (A53, c54, x)) (i := 2) (j := 0) rfl rfl
    refine sv (v := .slice (some ⟨g59, 0, none⟩) (j + 1) c60) henv rfl (rn_assign henv rfl) ?_
    clear henv a; intro a henv
    refine wpList_nil ?_
    refine bl_n (th_n ?_)
    refine region_seq ?_
    revert a
    refine sA (v := .int .i64 (j + 1 : Nat)) rfl (fun _ henv => rn_add henv rfl rfl (by rw [IntWalk.i64_in _ (by omega)]; omega)) ?_
    refine mA rfl rfl ?_
    intro a henv
    refine wpList_nil ?_
    exact th_n ⟨_, (by omega), ⟨j + 1, (some ⟨g59, 0, none⟩), c60, (os ++ [(A53, c54, x)]), rfl, henv.sub ⟨rfl, rfl, rfl, rfl, trivial⟩, hst.pick [1] [2, 0] (by decide), (by omega), (step_ints ho he0), (fun h => absurd h (by omega))⟩⟩
  · obtain rfl : n0 = j := by have := of_decide_eq_false hc52; omega
    refine wp_exit ?_
    refine th_x (th_x (bl_x (th_n ?_)))
    refine wp_seq ?_
    refine region_seq ?_
    revert a
    refine mA rfl rfl ?_
    refine aA rfl rfl ?_
    intro a henv
    refine wpList_nil ?_
    refine th_n ?_
    refine wp_ret ?_
    refine leave henv (res1 Tryd.results18 (RV.tmp henv rfl)) ?_
    exact ⟨_, rfl, ⟨_, _, os, rfl, hst.newRow (k := 0) (j := 1) rfl rfl, map_len ho (by rw [List.length_take]; omega), (ho.trans (List.take_of_length_le (by omega))), hB⟩, hst.below⟩
set_option maxRecDepth 100000 in
set_option maxHeartbeats 2000000 in
theorem is20_one {A B : Option Addr} {c d : Nat} {x y : Int} {w0 : World} (hx : ZIn w0 A c x) (hy : RIn w0 B d y) (hn : zl x ≤ 20000) (hm : dl y ≤ 60000) :
    Calls Tryd.prog 60 #[.agg #[.bool (neg x), .slice A (zl x) c], .agg #[.bool (neg y), .slice B (dl y) d]] w0 fun e w' => e = .returned (.bool (decide (x = y))) ∧ Below w0.heap.size w0 w' := by
  refine enter Tryd.func60 rfl Tryd.ntmps60 rfl ?_
  intro a henv hst
  replace hst := (hst.addZ hx trivial).addR hy trivial
  clear hx hy
  refine wp_seq ?_
  refine region_seq ?_
  refine seq_step rfl (op_box (c := #[.bool (neg x), .slice A (zl x) c]) henv hst rfl rfl rfl ?_)
  clear henv hst a; intro a w52 g51 henv hst
  refine seq_step rfl (op_box (c := #[.bool (neg y), .slice B (dl y) d]) henv hst rfl rfl rfl ?_)
  clear henv hst a; intro a w54 g53 henv hst
  refine sv (v := .bool false) henv rfl (rn_assign henv rfl) ?_
  clear henv a; intro a henv
  refine wpList_nil ?_
  refine th_n ?_
  refine wp_seq ?_
  refine region_any (n := 6) (Sk [bk g53 #[.bool (neg y), .slice B (dl y) d] 39, bk g51 #[.bool (neg x), .slice A (zl x) c] 28] [pfR B d y, pfZ A c x] [] []) mixed rfl henv hst ?_
  clear henv hst; intro w55 henv hst
  refine tL (i := 0) 1 1 [1, 3, 4, 5] rfl (by kernel_rfl) (fun _ _ _ h => h) henv rfl ty_anvil_integer_Int rfl hst rfl rfl rfl ?_
  clear henv a; intro a henv
  refine tL (i := 2) 0 0 [3, 4, 5] rfl (by kernel_rfl) (fun _ _ _ h => h) henv rfl ty_anvil_anvilref02_Int rfl hst rfl rfl rfl ?_
  clear henv a; intro a henv
  refine sAny_one (i := 1) (by kernel_rfl) rfl rfl (op_call henv rfl Tryd.call15 rfl (text_z (z := x) (show ZIn _ A c x from hst.pat (k := 1) rfl) (by omega)) ?_)
  rintro e w56 ⟨rfl, hb⟩
  refine ⟨_, rfl, ?_⟩
  clear henv a; intro a henv
  replace hst := hst.call hb
  clear hb
  refine ⟨.inr ⟨hst.kn.pick [0, 1] [0, 1], .inr (hst.kn.pick [] [])⟩, ?_⟩
  refine sAny_one (i := 3) (by kernel_rfl) rfl rfl (op_call henv rfl Tryd.call16 rfl (text_r (z := y) (show RIn _ B d y from hst.pat (k := 0) rfl) (by omega)) ?_)
  rintro e w57 ⟨rfl, hb⟩
  refine ⟨_, rfl, ?_⟩
  clear henv a; intro a henv
  replace hst := hst.call hb
  clear hb
  refine ⟨.inr ⟨hst.kn.pick [0, 1] [0, 1], .inr (hst.kn.pick [] [])⟩, ?_⟩
  refine tA (i := 4) [5] (v := .bool (decide ((textZ x) = (textZ y)))) rfl (by kernel_rfl) (fun _ _ _ h => h) henv rfl (fun _ => rn_eqls (s := (textZ x)) (t := (textZ y)) henv rfl rfl) ?_
  clear henv a; intro a henv
  refine tA (i := 5) [] (v := .bool (decide ((textZ x) = (textZ y)))) rfl (by kernel_rfl) (fun _ _ _ h => h) henv rfl (fun _ => rn_assign henv rfl) ?_
  clear henv a; intro a henv
  refine sAny_done (by kernel_rfl) ?_ _
  refine th_n ?_
  refine wp_ret ?_
  refine leave henv (res1 Tryd.results60 (RV.tmp henv rfl)) ?_
  exact ⟨congrArg (fun b => Ending.returned (Value.bool b)) (decide_eq_decide.2 tz_iff), hst.below⟩
set_option maxRecDepth 100000 in
set_option maxHeartbeats 2000000 in
theorem eq20_func {A0 A1 : Option Addr} {n0 n1 c0 c1 : Nat} {es0 es1 : List NE} {xs ys : List Int} {w0 : World} (h0 : (pfRow fN FN 2 A0 n0 c0 es0).P w0) (hz0 : es0.map zz = xs) (h1 : (pfRow fM FM 2 A1 n1 c1 es1).P w0) (hz1 : es1.map zz = ys) (hk0 : Zk 20000 xs) (hk1 : Zk 20000 ys) :
    Calls Tryd.prog 59 #[.slice A0 n0 c0, .slice A1 n1 c1, .func (.func 60) #[] #[]] w0 fun e w' => e = .returned (.bool (decide (xs = ys))) ∧ Below w0.heap.size w0 w' := by
  have hb0 := hk0.es hz0
  have hb1 := hk1.es hz1
  refine enter Tryd.func59 rfl Tryd.ntmps59 rfl ?_
  intro a henv hst
  have hlen0 := h0.2.1
  have hlen1 := h1.2.1
  have hbig0 := Nat.le_trans h0.1.cap h0.1.big
  unfold maxLen at hbig0
  replace hst := (hst.argRow h1).argRow h0
  clear h0 h1
  refine wp_seq ?_
  refine region_seq ?_
  refine sv (v := .bool false) henv rfl (rn_assign henv rfl) ?_
  clear henv a; intro a henv
  refine wpList_nil ?_
  refine th_n ?_
  refine wp_seq ?_
  refine wp_seq ?_
  refine region_seq ?_
  revert a
  refine mA rfl rfl ?_
  refine sA (v := .int .i64 (n0 : Nat)) rfl (fun _ henv => rn_len henv Tryd.underlying32 rfl) ?_
  refine mA rfl rfl ?_
  refine sA (v := .int .i64 (n1 : Nat)) rfl (fun _ henv => rn_len henv Tryd.underlying42 rfl) ?_
  refine sA (v := .bool (((n0 : Nat) : Int) != ((n1 : Nat) : Int))) rfl (fun _ henv => rn_bin henv rfl rfl rfl) ?_
  intro a henv
  refine wpList_nil ?_
  refine th_n ?_
  refine if_split henv rfl (fun hc51 => ?_) (fun hc51 => ?_)
  · have hne : n0 ≠ n1 := by have := hc51; simp at this; omega
    refine wp_seq ?_
    refine region_seq ?_
    refine sv (v := .bool false) henv rfl (rn_assign henv rfl) ?_
    clear henv a; intro a henv
    refine wpList_nil ?_
    refine th_n ?_
    refine wp_ret ?_
    refine th_r ?_
    refine leave henv (res1 Tryd.results59 (RV.tmp henv rfl)) ?_
    first | exact ⟨by rw [decide_eq_false (eq_ne hz0 hlen0 hz1 hlen1 hne)], hst.below⟩ | exact ⟨by rw [decide_eq_false (eq_at hz0 hz1 he0 he1 hxy)], hst.below⟩
  · have hnn : n0 = n1 := by have := hc51; simp at this; omega
    refine wp_skip ?_
    refine th_n ?_
    refine wp_seq ?_
    refine wp_seq ?_
    refine region_seq ?_
    revert a
    refine mA rfl rfl ?_
    refine sA (v := .int .i64 (n0 : Nat)) rfl (fun _ henv => rn_len henv Tryd.underlying32 rfl) ?_
    refine mA rfl rfl ?_
    intro a henv
    refine wpList_nil ?_
    refine th_n ?_
    refine wp_block ?_
    refine wp_loop_ghost (fun mz a w => ∃ j : Nat, n0 - j = mz ∧ Env 32 a [(1, .slice A1 n1 c1), (2, .func (.func 60) #[] #[]), (15, .slice A0 n0 c0), (16, .int .i64 (n0 : Nat)), (17, .int .i64 (j : Nat))] ∧ St w0 w [] [pfRow fN FN 2 A0 n0 c0 es0, pfRow fM FM 2 A1 n1 c1 es1] ∧ j ≤ n0 ∧ xs.take j = ys.take j) _ ⟨0, rfl, henv.sub ⟨rfl, rfl, rfl, rfl, rfl, trivial⟩, hst.pick [] [0, 1] (by decide), (Nat.zero_le _), rfl⟩ ?_
    clear henv hst a
    rintro mz a w52 ⟨j, rfl, henv, hst, hj, he⟩
    refine wp_seq ?_
    refine region_seq ?_
    refine sv (v := .bool (decide (((j : Nat) : Int) < ((n0 : Nat) : Int)))) henv rfl (rn_bin henv rfl rfl rfl) ?_
    clear henv a; intro a henv
    refine wpList_nil ?_
    refine th_n ?_
    refine wp_seq ?_
    refine if_split henv rfl (fun hc53 => ?_) (fun hc53 => ?_)
    · have hlt : j < n0 := by have := of_decide_eq_true hc53; omega
      obtain ⟨⟨A, c, x⟩, he0⟩ : ∃ e, es0[j]? = some e := ⟨_, List.getElem?_eq_getElem (by omega)⟩
      replace hst := hst.elem (k := 0) rfl he0
      replace hst : St w0 _ [] [pfZ A c x, pfRow fN FN 2 A0 n0 c0 es0, pfRow fM FM 2 A1 n1 c1 es1] := hst
      obtain ⟨⟨C, d, y⟩, he1⟩ : ∃ e, es1[j]? = some e := ⟨_, List.getElem?_eq_getElem (by omega)⟩
      replace hst := hst.elem (k := 2) rfl he1
      replace hst : St w0 _ [] [pfR C d y, pfZ A c x, pfRow fN FN 2 A0 n0 c0 es0, pfRow fM FM 2 A1 n1 c1 es1] := hst
      have hx1 := hb0.at he0
      have hy1 := hb1.at he1
      have hdy := dl_zl y
      refine wp_skip ?_
      refine th_n ?_
      refine wp_seq ?_
      refine wp_block ?_
      refine wp_seq ?_
      refine region_seq ?_
      revert a
      refine mA rfl rfl ?_
      refine sA (v := .pointer (some ⟨ab A0, ao A0 + j * 2, none⟩)) rfl (fun _ henv => rn_idxR (i := j) henv Tryd.underlying32 (ty_anvil_integer_Int.size) rfl rfl (by omega) rfl (show (pfRow fN FN 2 A0 n0 c0 es0).P _ from (hst.pat (k := 2) rfl)).1) ?_
      refine sA (v := .agg #[.bool (neg x), .slice A (zl x) c]) rfl (fun _ henv => rn_loadE (i := j) (e := (A, c, x)) henv ty_anvil_integer_Int rfl rfl fN_len (show (pfRow fN FN 2 A0 n0 c0 es0).P _ from (hst.pat (k := 2) rfl)).1 (by omega) he0 rfl) ?_
      intro a henv
      refine seq_step rfl (op_alloc (c := #[.bool (neg 0), .slice none (zl 0) 0]) henv hst rfl zero_anvil_integer_Int zcells ?_)
      clear henv hst a; intro a w55 g54 henv hst
      refine sv (v := .int .i64 (j : Nat)) henv rfl (rn_assign henv rfl) ?_
      clear henv a; intro a henv
      refine seq_step rfl (op_store (k := 0) (c' := #[.bool (neg x), .slice A (zl x) c]) henv hst (ty_anvil_integer_Int.size) rfl rfl rfl rfl (by simp) rfl rfl ?_)
      clear henv hst a; intro a w56 henv hst
      refine wpList_nil ?_
      refine th_n ?_
      refine wp_seq ?_
      refine region_seq ?_
      revert a
      refine mA rfl rfl ?_
      refine mA rfl rfl ?_
      refine sA (v := .pointer (some ⟨ab A1, ao A1 + j * 2, none⟩)) rfl (fun _ henv => rn_idxR (i := j) henv Tryd.underlying42 (ty_anvil_anvilref02_Int.size) rfl rfl (by omega) rfl (show (pfRow fM FM 2 A1 n1 c1 es1).P _ from (hst.pat (k := 3) rfl)).1) ?_
      refine sA (v := .agg #[.bool (neg y), .slice C (dl y) d]) rfl (fun _ henv => rn_loadE (i := j) (e := (C, d, y)) henv ty_anvil_anvilref02_Int rfl rfl fM_len (show (pfRow fM FM 2 A1 n1 c1 es1).P _ from (hst.pat (k := 3) rfl)).1 (by omega) he1 rfl) ?_
      intro a henv
      refine seq_step rfl (op_alloc (c := #[.bool (neg 0), .slice none (dl 0) 0]) henv hst rfl zero_anvil_anvilref02_Int rcells ?_)
      clear henv hst a; intro a w58 g57 henv hst
      refine seq_step rfl (op_store (k := 0) (c' := #[.bool (neg y), .slice C (dl y) d]) henv hst (ty_anvil_anvilref02_Int.size) rfl rfl rfl rfl (by simp) rfl rfl ?_)
      clear henv hst a; intro a w59 henv hst
      refine wpList_nil ?_
      refine th_n ?_
      refine wp_seq ?_
      refine region_seq ?_
      revert a
      refine mA rfl rfl ?_
      refine sA (v := .agg #[.bool (neg x), .slice A (zl x) c]) rfl (fun _ henv => rn_load0 henv ty_anvil_integer_Int rfl (hst.oat (k := 1) rfl) rfl) ?_
      refine sA (v := .agg #[.bool (neg y), .slice C (dl y) d]) rfl (fun _ henv => rn_load0 henv ty_anvil_anvilref02_Int rfl (hst.oat (k := 0) rfl) rfl) ?_
      intro a henv
      refine seq_step rfl (op_callc (vs := #[.agg #[.bool (neg x), .slice A (zl x) c], .agg #[.bool (neg y), .slice C (dl y) d]]) henv rfl Tryd.call60 rfl rfl (calls_app (by simp) (is20_one (x := x) (y := y) (show ZIn _ A c x from hst.pat (k := 1) rfl) (show RIn _ C d y from hst.pat (k := 0) rfl) (by omega) (by omega))) ?_)
      rintro e w60 ⟨rfl, hb⟩
      refine ⟨_, rfl, ?_⟩
      clear henv a; intro a henv
      replace hst := hst.call hb
      clear hb
      refine sv (v := .bool (!(decide (x = y)))) henv rfl (rn_un henv rfl rfl) ?_
      clear henv a; intro a henv
      refine wpList_nil ?_
      refine th_n ?_
      refine if_split henv rfl (fun hc61 => ?_) (fun hc61 => ?_)
      · have hxy : ¬ x = y := by have := hc61; simpa using this
        refine wp_seq ?_
        refine region_seq ?_
        refine sv (v := .bool false) henv rfl (rn_assign henv rfl) ?_
        clear henv a; intro a henv
        refine wpList_nil ?_
        refine th_n ?_
        refine wp_ret ?_
        refine bl_r (th_r (th_r (bl_r (th_r ?_))))
        refine leave henv (res1 Tryd.results59 (RV.tmp henv rfl)) ?_
        first | exact ⟨by rw [decide_eq_false (eq_ne hz0 hlen0 hz1 hlen1 hne)], hst.below⟩ | exact ⟨by rw [decide_eq_false (eq_at hz0 hz1 he0 he1 hxy)], hst.below⟩
      · have hxy : x = y := by have := hc61; simpa using this
        refine wp_skip ?_
        refine bl_n (th_n ?_)
        refine region_seq ?_
        revert a
        refine sA (v := .int .i64 (j + 1 : Nat)) rfl (fun _ henv => rn_add henv rfl rfl (by rw [IntWalk.i64_in _ (by omega)]; omega)) ?_
        refine mA rfl rfl ?_
        intro a henv
        refine wpList_nil ?_
        exact th_n ⟨_, (by omega), ⟨j + 1, rfl, henv.sub ⟨rfl, rfl, rfl, rfl, rfl, trivial⟩, hst.pick [] [2, 3] (by decide), (by omega), (by rw [zts hz0 he0, zts hz1 he1, he, hxy])⟩⟩
    · have hjn : j = n0 := by have := of_decide_eq_false hc53; omega
      refine wp_exit ?_
      refine th_x (th_x (bl_x (th_n ?_)))
      refine wp_seq ?_
      refine region_seq ?_
      refine sv (v := .bool true) henv rfl (rn_assign henv rfl) ?_
      clear henv a; intro a henv
      refine wpList_nil ?_
      refine th_n ?_
      refine wp_ret ?_
      refine leave henv (res1 Tryd.results59 (RV.tmp henv rfl)) ?_
      have hall : xs = ys := eq_full hz0 hlen0 hz1 hlen1 (hnn ▸ rfl) (hjn ▸ he)
      exact ⟨by rw [decide_eq_true hall], hst.below⟩
set_option maxRecDepth 100000 in
set_option maxHeartbeats 2000000 in
theorem p20_is {A0 A1 : Option Addr} {n0 n1 c0 c1 : Nat} {es0 es1 : List NE} {xs ys : List Int} {w0 : World} (h0 : (pfRow fN FN 2 A0 n0 c0 es0).P w0) (hz0 : es0.map zz = xs) (h1 : (pfRow fM FM 2 A1 n1 c1 es1).P w0) (hz1 : es1.map zz = ys) (hk0 : Zk 20000 xs) (hk1 : Zk 20000 ys) (hnil : n0 = 0 → A0 = none) :
    Calls Tryd.prog 26 #[.slice A0 n0 c0, .slice A1 n1 c1] w0 fun e w' => e = .returned (.bool (decide (xs = ys))) ∧ Below w0.heap.size w0 w' := by
  refine enter Tryd.func26 rfl Tryd.ntmps26 rfl ?_
  intro a henv hst
  have hlen0 := h0.2.1
  have hlen1 := h1.2.1
  have hbig0 := Nat.le_trans h0.1.cap h0.1.big
  unfold maxLen at hbig0
  replace hst := (hst.argRow h1).argRow h0
  clear h0 h1
  refine wp_seq ?_
  refine region_seq ?_
  refine sv (v := .bool false) henv rfl (rn_assign henv rfl) ?_
  clear henv a; intro a henv
  refine wpList_nil ?_
  refine th_n ?_
  refine wp_seq ?_
  refine region_seq ?_
  revert a
  refine mA rfl rfl ?_
  refine mA rfl rfl ?_
  intro a henv
  refine seq_step rfl (op_call henv rfl Tryd.call59 rfl (eq20_func (hst.pat (k := 0) rfl) hz0 (hst.pat (k := 1) rfl) hz1 hk0 hk1) ?_)
  rintro e w51 ⟨rfl, hb⟩
  refine ⟨_, rfl, ?_⟩
  clear henv a; intro a henv
  replace hst := hst.call hb
  clear hb
  refine sv (v := .bool (decide (xs = ys))) henv rfl (rn_move henv rfl) ?_
  clear henv a; intro a henv
  rcases bool_em (decide (xs = ys)) with hg52 | hg52
  · rw [hg52] at henv
    revert a
    refine gA (v := .slice A0 n0 c0) rfl rfl rfl rfl (fun _ henv => rn_move henv rfl) ?_
    refine gA (v := .bool A0.isNone) rfl rfl rfl rfl (fun _ henv => rn_nilS henv Tryd.underlying32 rfl) ?_
    refine gA (v := .slice A0 n0 c0) rfl rfl rfl rfl (fun _ henv => rn_move henv rfl) ?_
    refine gA (v := .int .i64 (n0 : Nat)) rfl rfl rfl rfl (fun _ henv => rn_len henv Tryd.underlying32 rfl) ?_
    refine gA (v := .bool (((n0 : Nat) : Int) == (0 : Int))) rfl rfl rfl rfl (fun _ henv => rn_bin henv rfl rfl rfl) ?_
    refine gA (v := .bool (A0.isNone == (((n0 : Nat) : Int) == (0 : Int)))) rfl rfl rfl rfl (fun _ henv => rn_eqlb henv Tryd.underlying4 rfl rfl) ?_
    intro a henv
    rw [show (A0.isNone == (((n0 : Nat) : Int) == (0 : Int))) = true from (nil_eq hnil (row_none (hst.pat (k := 0) rfl)))] at henv
    revert a
    refine sA (v := .bool true) rfl (fun _ henv => rn_pick henv rfl rfl) ?_
    refine aA rfl rfl ?_
    intro a henv
    refine wpList_nil ?_
    refine th_n ?_
    refine wp_ret ?_
    refine leave henv (res1 Tryd.results26 (RV.tmp henv rfl)) ?_
    exact ⟨by rw [hg52], hst.below⟩
  · rw [hg52] at henv
    revert a
    refine kA rfl rfl rfl rfl rfl ?_
    refine kA rfl rfl rfl rfl rfl ?_
    refine kA rfl rfl rfl rfl rfl ?_
    refine kA rfl rfl rfl rfl rfl ?_
    refine kA rfl rfl rfl rfl rfl ?_
    refine kA rfl rfl rfl rfl rfl ?_
    refine sA (v := .bool false) rfl (fun _ henv => rn_pick henv rfl rfl) ?_
    refine aA rfl rfl ?_
    intro a henv
    refine wpList_nil ?_
    refine th_n ?_
    refine wp_ret ?_
    refine leave henv (res1 Tryd.results26 (RV.tmp henv rfl)) ?_
    exact ⟨by rw [hg52], hst.below⟩
set_option maxRecDepth 100000 in
set_option maxHeartbeats 2000000 in
theorem p_text {A0 : Option Addr} {n0 c0 : Nat} {es0 : List NE} {xs : List Int} {w0 : World} (h0 : (pfRow fN FN 2 A0 n0 c0 es0).P w0) (hz0 : es0.map zz = xs) (hk : Zk 90000 xs) (hn : n0 ≤ 1000000) :
    Calls Tryd.prog 45 #[.slice A0 n0 c0] w0 fun e w' => e = .returned (.string ⟨(textRow xs).toArray⟩) ∧ Below w0.heap.size w0 w' := by
  refine enter Tryd.func45 rfl Tryd.ntmps45 rfl ?_
  intro a henv hst
  have hlen0 := h0.2.1
  have hbig0 := Nat.le_trans h0.1.cap h0.1.big
  unfold maxLen at hbig0
  replace hst := hst.argRow h0
  clear h0
  refine wp_seq ?_
  refine region_seq ?_
  refine sv (v := .string ⟨#[]⟩) henv rfl (rn_assign henv rfl) ?_
  clear henv a; intro a henv
  refine wpList_nil ?_
  refine th_n ?_
  refine wp_seq ?_
  refine region_seq ?_
  refine sv (v := .slice A0 n0 c0) henv rfl (rn_move henv rfl) ?_
  clear henv a; intro a henv
  refine seq_step rfl (op_call henv rfl Tryd.call79 rfl (row_text' (hst.pat (k := 0) rfl) hz0 hk hn) ?_)
  rintro e w51 ⟨rfl, hb⟩
  refine ⟨_, rfl, ?_⟩
  clear henv a; intro a henv
  replace hst := hst.call hb
  clear hb
  refine sv (v := .string ⟨(textRow xs).toArray⟩) henv rfl (rn_assign henv rfl) ?_
  clear henv a; intro a henv
  refine wpList_nil ?_
  refine th_n ?_
  refine wp_ret ?_
  refine leave henv (res1 Tryd.results45 (RV.tmp henv rfl)) ?_
  exact ⟨rfl, hst.below⟩
set_option maxRecDepth 100000 in
set_option maxHeartbeats 4000000 in
theorem p20_works {w0 : World} :
    Calls Tryd.prog 10 #[] w0 fun e w' => e = .returned (.bool true) ∧ Below w0.heap.size w0 w' := by
  refine enter Tryd.func10 rfl Tryd.ntmps10 rfl ?_
  intro a henv hst
  refine wp_seq ?_
  refine region_seq ?_
  refine sv (v := .bool false) henv rfl (rn_assign henv rfl) ?_
  clear henv a; intro a henv
  refine wpList_nil ?_
  refine th_n ?_
  refine wp_seq ?_
  refine region_seq ?_
  refine seq_step rfl (op_buildSlice (z := 1) (pv := #[(0, .int .i64 1), (1, .int .i64 2)]) (c := #[.int .i64 1, .int .i64 2]) henv hst rfl Tryd.underlying22 (ty_int64.size) zero_int64 (by decide) (by decide) rfl (by kernel_rfl) ?_)
  clear henv hst a; intro a w52 g51 henv hst
  replace hst := hst.giveBk (f := fI) (F := FI) (k := 0) (n := 2) (es := [1, 2]) rfl rfl fI_len rfl (by decide) (esT_P (fun _ => rfl) _ _) (fun _ _ _ _ => esT_foot (fun _ => rfl))
  refine seq_step rfl (op_call henv rfl Tryd.call12 rfl (p20_list (es0 := [1, 2]) (hst.pat (k := 0) rfl) (by unfold I64; decide) (by omega)) ?_)
  rintro e w60 ⟨_, rfl, ⟨g53, ps54, rfl, hr, hl55, hz56⟩, hb⟩
  refine ⟨_, rfl, ?_⟩
  clear henv a; intro a henv
  replace hst := hst.freshRd hb hr hl55 (ap_N hr.2.1 trivial)
  clear hr
  obtain ⟨es57, hst, hl58, hz59⟩ := hst.listRow (k := 0) (n := 2) rfl hz56 (rfl)
  clear hb
  refine seq_step rfl (op_buildSlice (z := 1) (pv := #[(0, .int .i64 3), (1, .int .i64 4), (2, .int .i64 5)]) (c := #[.int .i64 3, .int .i64 4, .int .i64 5]) henv hst rfl Tryd.underlying22 (ty_int64.size) zero_int64 (by decide) (by decide) rfl (by kernel_rfl) ?_)
  clear henv hst a; intro a w62 g61 henv hst
  replace hst := hst.giveBk (f := fI) (F := FI) (k := 0) (n := 3) (es := [3, 4, 5]) rfl rfl fI_len rfl (by decide) (esT_P (fun _ => rfl) _ _) (fun _ _ _ _ => esT_foot (fun _ => rfl))
  refine seq_step rfl (op_call henv rfl Tryd.call12 rfl (p20_list (es0 := [3, 4, 5]) (hst.pat (k := 0) rfl) (by unfold I64; decide) (by omega)) ?_)
  rintro e w70 ⟨_, rfl, ⟨g63, ps64, rfl, hr, hl65, hz66⟩, hb⟩
  refine ⟨_, rfl, ?_⟩
  clear henv a; intro a henv
  replace hst := hst.freshRd hb hr hl65 (ap_N hr.2.1 trivial)
  clear hr
  obtain ⟨es67, hst, hl68, hz69⟩ := hst.listRow (k := 0) (n := 3) rfl hz66 (rfl)
  clear hb
  refine seq_step rfl (op_call henv rfl Tryd.call24 rfl (p_mul (xs := [1, 2]) (ys := [3, 4, 5]) (hst.pat (k := 4) rfl) hz59 (hst.pat (k := 0) rfl) hz69 (zk_small (by decide)) (zk_small (by decide)) (by decide) (by decide) (by decide) (by decide)) ?_)
  rintro e w76 ⟨_, rfl, ⟨A71, c72, es73, rfl, hr, hl74, hz75⟩, hb⟩
  refine ⟨_, rfl, ?_⟩
  clear henv a; intro a henv
  replace hst := hst.freshRd hb hr hl74 (ap_N hr.2.1 trivial)
  clear hr
  clear hb
  revert a
  refine mA rfl rfl ?_
  refine sA (v := .slice A71 4 c72) rfl (fun _ henv => rn_extract henv rfl rfl) ?_
  refine sA (v := .int .i64 6) rfl (fun _ henv => rn_extract henv rfl rfl) ?_
  refine aA rfl rfl ?_
  refine aA rfl rfl ?_
  intro a henv
  refine wpList_nil ?_
  refine th_n ?_
  refine wp_seq ?_
  refine region_seq ?_
  revert a
  refine mA rfl rfl ?_
  refine sA (v := .bool true) rfl (fun _ henv => rn_bin henv rfl rfl rfl) ?_
  refine mA rfl rfl ?_
  refine gA (v := .slice A71 4 c72) rfl rfl rfl rfl (fun _ henv => rn_move henv rfl) ?_
  intro a henv
  refine seq_g rfl henv rfl rfl (op_buildSlice (z := 1) (pv := #[(0, .int .i64 3), (1, .int .i64 10), (2, .int .i64 13), (3, .int .i64 10)]) (c := #[.int .i64 3, .int .i64 10, .int .i64 13, .int .i64 10]) henv hst rfl Tryd.underlying22 (ty_int64.size) zero_int64 (by decide) (by decide) rfl (by kernel_rfl) ?_)
  clear henv hst a; intro a w78 g77 henv hst
  replace hst := hst.giveBk (f := fI) (F := FI) (k := 0) (n := 4) (es := [3, 10, 13, 10]) rfl rfl fI_len rfl (by decide) (esT_P (fun _ => rfl) _ _) (fun _ _ _ _ => esT_foot (fun _ => rfl))
  refine seq_g rfl henv rfl rfl (op_call henv rfl Tryd.call18 rfl (p20_ref (es0 := [3, 10, 13, 10]) (hst.pat (k := 0) rfl) (by unfold I64; decide) (by omega)) ?_)
  rintro e w85 ⟨_, rfl, ⟨A79, c80, es81, rfl, hr, hl82, hz83, hn84⟩, hb⟩
  refine ⟨_, rfl, ?_⟩
  clear henv a; intro a henv
  replace hst := hst.freshRd hb hr hl82 (ap_M hr.2.1 trivial)
  clear hr
  clear hb
  refine seq_g rfl henv rfl rfl (op_call henv rfl Tryd.call26 rfl (p20_is (xs := [3, 10, 13, 10]) (ys := [3, 10, 13, 10]) (hst.pat (k := 3) rfl) (hz75.trans (show _ = [3, 10, 13, 10] by decide)) (hst.pat (k := 0) rfl) hz83 (zk_small (by decide)) (zk_small (by decide)) (fun h => absurd h (by decide))) ?_)
  rintro e w86 ⟨rfl, hb⟩
  refine ⟨_, rfl, ?_⟩
  clear henv a; intro a henv
  replace hst := hst.call hb
  clear hb
  rw [show (decide (([3, 10, 13, 10] : List Int) = [3, 10, 13, 10])) = true from (decide_eq_true rfl)] at henv
  revert a
  refine sA (v := .bool true) rfl (fun _ henv => rn_pick henv rfl rfl) ?_
  refine mA rfl rfl ?_
  refine gA (v := .slice A71 4 c72) rfl rfl rfl rfl (fun _ henv => rn_move henv rfl) ?_
  intro a henv
  refine seq_g rfl henv rfl rfl (op_call henv rfl Tryd.call45 rfl (p_text (xs := [3, 10, 13, 10]) (hst.pat (k := 3) rfl) (hz75.trans (show _ = [3, 10, 13, 10] by decide)) (zk_small (by decide)) (by omega)) ?_)
  rintro e w87 ⟨rfl, hb⟩
  refine ⟨_, rfl, ?_⟩
  clear henv a; intro a henv
  replace hst := hst.call hb
  clear hb
  refine seq_g rfl henv rfl rfl (op_val (v := .bool (decide ((textRow ([3, 10, 13, 10])) = [91, 51, 32, 49, 48, 32, 49, 51, 32, 49, 48, 93]))) henv rfl (rn_eqls (s := (textRow ([3, 10, 13, 10]))) (t := [91, 51, 32, 49, 48, 32, 49, 51, 32, 49, 48, 93]) henv rfl rfl) ?_)
  clear henv a; intro a henv
  rw [show (decide ((textRow ([3, 10, 13, 10])) = [91, 51, 32, 49, 48, 32, 49, 51, 32, 49, 48, 93])) = true from (decide_eq_true (by decide +kernel))] at henv
  revert a
  refine sA (v := .bool true) rfl (fun _ henv => rn_pick henv rfl rfl) ?_
  refine mA rfl rfl ?_
  refine gA (v := .slice A71 4 c72) rfl rfl rfl rfl (fun _ henv => rn_move henv rfl) ?_
  intro a henv
  refine seq_g rfl henv rfl rfl (op_call henv rfl Tryd.call23 rfl (p_deg (xs := [3, 10, 13, 10]) (hst.pat (k := 3) rfl) (hz75.trans (show _ = [3, 10, 13, 10] by decide)) (by omega)) ?_)
  rintro e w88 ⟨rfl, hb⟩
  refine ⟨_, rfl, ?_⟩
  clear henv a; intro a henv
  replace hst := hst.call hb
  clear hb
  revert a
  refine gA (v := .bool true) rfl rfl rfl rfl (fun _ henv => rn_bin henv rfl rfl rfl) ?_
  refine sA (v := .bool true) rfl (fun _ henv => rn_pick henv rfl rfl) ?_
  refine aA rfl rfl ?_
  intro a henv
  refine wpList_nil ?_
  refine th_n ?_
  refine wp_ret ?_
  refine leave henv (res1 Tryd.results10 (RV.tmp henv rfl)) ?_
  exact ⟨rfl, hst.below⟩
end Go.Proofs.YtghaenkacjgdnaaDoor.W

/- PolyTexts, PolyBack: the laws' walks. Printed by pv/gen_po2.py. No condition. -/
namespace Go.Proofs.YtghaenkacjgdnaaDoor.W
open Go.RowKit Anv Go.Lib
theorem i64_zk {xs : List Int} (h : I64 xs) : Zk 2 xs := fun z hz => nl_le_of_lt (by have := h z hz; show z.natAbs < _; omega)
end Go.Proofs.YtghaenkacjgdnaaDoor.W

/- point.In, poly.At, the reference's; PolyAts. Printed by pv/gen_po3.py. No condition. -/
namespace Go.Proofs.YtghaenkacjgdnaaDoor.W
open Go.RowKit Anv Go.Lib
theorem bnot_t {b : Bool} (h : (!b) = true) : b = false := by cases b <;> simp_all
theorem bnot_f {b : Bool} (h : (!b) = false) : b = true := by cases b <;> simp_all
theorem zl_16 {b : Int} (h : I16 b) : zl b ≤ 1 := nl_le_of_lt (by unfold I16 at h; show b.natAbs < _; omega)
theorem zl_p16 {b : Int} (h : I16 b) (n : Nat) : zl (b ^ n) ≤ n + 1 := by
  have h1 := zl_pow b n
  have h2 := Nat.mul_le_mul_left n (zl_16 h)
  omega
theorem hval_sz {a b : Int} {k : Nat} (ha : I16 a) (hb : I16 b) : ∀ {xs : List Int}, Zk k xs → zl (hval a b xs) ≤ k + 2 + 3 * xs.length
  | [], _ => by rw [hval, zl_zero]; omega
  | x :: xs, h => by
    have h1 := hval_sz ha hb (xs := xs) fun z hz => h z (List.mem_cons_of_mem _ hz)
    have h2 := zl_addm (hval a b xs * a) (x * b ^ xs.length)
    have h3 := zl_mul (hval a b xs) a
    have h4 := zl_mul x (b ^ xs.length)
    have h5 := zl_16 ha
    have h6 := zl_p16 hb xs.length
    have h7 := h x (List.mem_cons_self ..)
    rw [hval, List.length_cons]
    omega
theorem Zk.drop {k : Nat} {zs : List Int} (h : Zk k zs) (j : Nat) : Zk k (zs.drop j) := fun z hz => h z (List.mem_of_mem_drop hz)
theorem hval_last {a b : Int} {xs : List Int} {x : Int} (h : xs[xs.length - 1]? = some x) : hval a b (xs.drop (xs.length - 1)) = x := by
  have h1 : xs.length - 1 < xs.length := (List.getElem?_eq_some_iff.1 h).1
  rw [hv_drop a b h, List.drop_eq_nil_of_le (by omega), hval, Int.zero_mul, Nat.sub_self, Int.pow_zero, Int.mul_one, Int.zero_add]
theorem hval_step {a b v p x : Int} {xs : List Int} {n j : Nat} (hv : v = hval a b (xs.drop (j + 1))) (hp : p = b ^ (n - 1 - (j + 1))) (hl : xs.length = n) (hx : xs[j]? = some x) (hj : j + 1 ≤ n - 1) : v * a + x * (p * b) = hval a b (xs.drop j) := by
  rw [hv_drop a b hx, ← hv, hp, ← Int.pow_succ, hl, show (n - 1 - (j + 1)).succ = n - 1 - j by omega]
set_option maxRecDepth 100000 in
set_option maxHeartbeats 2000000 in
theorem pt_within {n : Int} {w0 : World} :
    Calls Tryd.prog 73 #[.int .i64 n] w0 fun e w' => e = .returned (.bool (decide (I16 n))) ∧ Below w0.heap.size w0 w' := by
  refine enter Tryd.func73 rfl Tryd.ntmps73 rfl ?_
  intro a henv hst
  refine wp_seq ?_
  refine region_seq ?_
  refine sv (v := .bool false) henv rfl (rn_assign henv rfl) ?_
  clear henv a; intro a henv
  refine wpList_nil ?_
  refine th_n ?_
  refine wp_seq ?_
  refine region_seq ?_
  revert a
  refine mA rfl rfl ?_
  refine sA (v := .bool (decide (n ≥ (-16)))) rfl (fun _ henv => rn_bin henv rfl rfl rfl) ?_
  refine mA rfl rfl ?_
  intro a henv
  rcases bool_em (decide (n ≥ (-16))) with hg51 | hg51
  · rw [hg51] at henv
    have hx52 := of_decide_eq_true hg51
    revert a
    refine gA (v := .int .i64 n) rfl rfl rfl rfl (fun _ henv => rn_move henv rfl) ?_
    refine gA (v := .bool (decide (n ≤ (16 : Int)))) rfl rfl rfl rfl (fun _ henv => rn_bin henv rfl rfl rfl) ?_
    refine sA (v := .bool (decide (n ≤ (16 : Int)))) rfl (fun _ henv => rn_pick henv rfl rfl) ?_
    refine aA rfl rfl ?_
    intro a henv
    refine wpList_nil ?_
    refine th_n ?_
    refine wp_ret ?_
    refine leave henv (res1 Tryd.results73 (RV.tmp henv rfl)) ?_
    exact ⟨congrArg (fun b => Ending.returned (Value.bool b)) (decide_eq_decide.2 (by unfold I16 at *; omega)), hst.below⟩
  · rw [hg51] at henv
    have hx53 := of_decide_eq_false hg51
    revert a
    refine kA rfl rfl rfl rfl rfl ?_
    refine kA rfl rfl rfl rfl rfl ?_
    refine sA (v := .bool false) rfl (fun _ henv => rn_pick henv rfl rfl) ?_
    refine aA rfl rfl ?_
    intro a henv
    refine wpList_nil ?_
    refine th_n ?_
    refine wp_ret ?_
    refine leave henv (res1 Tryd.results73 (RV.tmp henv rfl)) ?_
    exact ⟨by rw [decide_eq_false fun h => by unfold I16 at *; omega], hst.below⟩
set_option maxRecDepth 100000 in
set_option maxHeartbeats 2000000 in
theorem pt_in {pa pb : Int} {w0 : World} :
    Calls Tryd.prog 40 #[.agg #[.int .i64 pa, .int .i64 pb]] w0 fun e w' => e = .returned (.bool (decide (I16 pa ∧ I16 pb))) ∧ Below w0.heap.size w0 w' := by
  refine enter Tryd.func40 rfl Tryd.ntmps40 rfl ?_
  intro a henv hst
  refine wp_seq ?_
  refine region_seq ?_
  refine seq_step rfl (op_box (c := #[.int .i64 pa, .int .i64 pb]) henv hst rfl rfl rfl ?_)
  clear henv hst a; intro a w52 g51 henv hst
  refine sv (v := .bool false) henv rfl (rn_assign henv rfl) ?_
  clear henv a; intro a henv
  refine wpList_nil ?_
  refine th_n ?_
  refine wp_seq ?_
  refine region_seq ?_
  revert a
  refine sA (v := .pointer (some ⟨g51, 0, none⟩)) rfl (fun _ henv => rn_fieldAddr henv fd_anvil_api_Point_0 (ty_int.size) (by decide) rfl) ?_
  refine sA (v := .int .i64 pa) rfl (fun _ henv => rn_load1 henv ty_int rfl (hst.oat (k := 0) rfl) rfl) ?_
  intro a henv
  refine seq_step rfl (op_call henv rfl Tryd.call73 rfl (pt_within (n := pa)) ?_)
  rintro e w53 ⟨rfl, hb⟩
  refine ⟨_, rfl, ?_⟩
  clear henv a; intro a henv
  replace hst := hst.call hb
  clear hb
  refine sv (v := .bool (decide (I16 pa))) henv rfl (rn_move henv rfl) ?_
  clear henv a; intro a henv
  rcases bool_em (decide (I16 pa)) with hg54 | hg54
  · rw [hg54] at henv
    have hx55 := of_decide_eq_true hg54
    revert a
    refine gA (v := .pointer (some ⟨g51, 1, none⟩)) rfl rfl rfl rfl (fun _ henv => rn_fieldAddr henv fd_anvil_api_Point_1 (ty_int.size) (by decide) rfl) ?_
    refine gA (v := .int .i64 pb) rfl rfl rfl rfl (fun _ henv => rn_load1 henv ty_int rfl (hst.oat (k := 0) rfl) rfl) ?_
    intro a henv
    refine seq_g rfl henv rfl rfl (op_call henv rfl Tryd.call73 rfl (pt_within (n := pb)) ?_)
    rintro e w56 ⟨rfl, hb⟩
    refine ⟨_, rfl, ?_⟩
    clear henv a; intro a henv
    replace hst := hst.call hb
    clear hb
    revert a
    refine sA (v := .bool (decide (I16 pb))) rfl (fun _ henv => rn_pick henv rfl rfl) ?_
    refine aA rfl rfl ?_
    intro a henv
    refine wpList_nil ?_
    refine th_n ?_
    refine wp_ret ?_
    refine leave henv (res1 Tryd.results40 (RV.tmp henv rfl)) ?_
    exact ⟨congrArg (fun b => Ending.returned (Value.bool b)) (decide_eq_decide.2 (by unfold I16 at *; omega)), hst.below⟩
  · rw [hg54] at henv
    have hx57 := of_decide_eq_false hg54
    revert a
    refine kA rfl rfl rfl rfl rfl ?_
    refine kA rfl rfl rfl rfl rfl ?_
    refine kA rfl rfl rfl rfl rfl ?_
    refine sA (v := .bool false) rfl (fun _ henv => rn_pick henv rfl rfl) ?_
    refine aA rfl rfl ?_
    intro a henv
    refine wpList_nil ?_
    refine th_n ?_
    refine wp_ret ?_
    refine leave henv (res1 Tryd.results40 (RV.tmp henv rfl)) ?_
    exact ⟨by rw [decide_eq_false fun h => by unfold I16 at *; omega], hst.below⟩
set_option maxRecDepth 100000 in
set_option maxHeartbeats 4000000 in
theorem p_at {A0 : Option Addr} {n0 c0 : Nat} {es0 : List NE} {xs : List Int} {pa pb : Int} {w0 : World} (h0 : (pfRow fN FN 2 A0 n0 c0 es0).P w0) (hz0 : es0.map zz = xs) (hp : 0 < n0) (hI : I16 pa ∧ I16 pb) (hk : Zk 1000 xs) (hn : n0 ≤ 200) :
    Calls Tryd.prog 11 #[.slice A0 n0 c0, .agg #[.int .i64 pa, .int .i64 pb]] w0 fun e w' => ∃ v, e = .returned (.tuple #[v, .int .i64 0]) ∧ ZAt w' v (hval pa pb xs) ∧ Below w0.heap.size w0 w' := by
  have ha16 : -16 ≤ pa ∧ pa ≤ 16 := hI.1
  have hb16 : -16 ≤ pb ∧ pb ≤ 16 := hI.2
  refine enter Tryd.func11 rfl Tryd.ntmps11 rfl ?_
  intro a henv hst
  have hlen0 := h0.2.1
  have hbig0 := Nat.le_trans h0.1.cap h0.1.big
  unfold maxLen at hbig0
  replace hst := hst.argRow h0
  clear h0
  have hlx : xs.length = n0 := by rw [← hz0, List.length_map]; exact hlen0
  refine wp_seq ?_
  refine region_seq ?_
  refine seq_step rfl (op_box (c := #[.int .i64 pa, .int .i64 pb]) henv hst rfl rfl rfl ?_)
  clear henv hst a; intro a w52 g51 henv hst
  refine seq_step rfl (op_alloc (c := #[.bool (neg 0), .slice none (zl 0) 0]) henv hst rfl zero_anvil_integer_Int zcells ?_)
  clear henv hst a; intro a w54 g53 henv hst
  refine sv (v := .int .i64 0) henv rfl (rn_assign henv rfl) ?_
  clear henv a; intro a henv
  refine wpList_nil ?_
  refine th_n ?_
  refine wp_seq ?_
  refine wp_seq ?_
  refine region_seq ?_
  revert a
  refine mA rfl rfl ?_
  refine sA (v := .int .i64 (n0 : Nat)) rfl (fun _ henv => rn_len henv Tryd.underlying32 rfl) ?_
  refine sA (v := .bool (((n0 : Nat) : Int) == (0 : Int))) rfl (fun _ henv => rn_bin henv rfl rfl rfl) ?_
  intro a henv
  rw [show (((n0 : Nat) : Int) == (0 : Int)) = false from (beq_eq_false_iff_ne.2 (by omega))] at henv
  revert a
  refine mA rfl rfl ?_
  refine gA (v := .agg #[.int .i64 pa, .int .i64 pb]) rfl rfl rfl rfl (fun _ henv => rn_load0 henv ty_anvil_api_Point rfl (hst.oat (k := 1) rfl) rfl) ?_
  intro a henv
  refine seq_g rfl henv rfl rfl (op_call henv rfl Tryd.call40 rfl (pt_in (pa := pa) (pb := pb)) ?_)
  rintro e w55 ⟨rfl, hb⟩
  refine ⟨_, rfl, ?_⟩
  clear henv a; intro a henv
  replace hst := hst.call hb
  clear hb
  rw [show (decide (I16 pa ∧ I16 pb)) = true from (decide_eq_true hI)] at henv
  revert a
  refine gA (v := .bool false) rfl rfl rfl rfl (fun _ henv => rn_un henv rfl rfl) ?_
  refine sA (v := .bool false) rfl (fun _ henv => rn_pick henv rfl rfl) ?_
  intro a henv
  refine wpList_nil ?_
  obtain ⟨⟨Al, cl, xl⟩, hel⟩ : ∃ e, es0[n0 - 1]? = some e := ⟨_, List.getElem?_eq_getElem (by omega)⟩
  replace hst := hst.elem (k := 0) rfl hel
  replace hst : St w0 _ [bk g53 #[.bool (neg 0), .slice none (zl 0) 0] 28, bk g51 #[.int .i64 pa, .int .i64 pb] 24] [pfZ Al cl xl, pfRow fN FN 2 A0 n0 c0 es0] := hst
  have hxl : xs[xs.length - 1]? = some xl := by rw [hlx, ← hz0, List.getElem?_map, hel]; rfl
  refine th_n ?_
  refine if_f henv rfl (rfl) ?_
  refine wp_skip ?_
  refine th_n ?_
  refine wp_seq ?_
  refine cut (fun a w => ∃ A57 : Option Addr, ∃ c58 : Nat, ∃ g61 : Nat, ∃ g63 : Nat, Env 48 a [(0, .slice A0 n0 c0), (1, .agg #[.int .i64 pa, .int .i64 pb]), (3, .pointer (some ⟨g51, 0, none⟩)), (4, .pointer (some ⟨g53, 0, none⟩)), (5, .int .i64 0), (9, .slice A0 n0 c0), (10, .int .i64 (n0 : Nat)), (11, .bool false), (12, .bool false), (13, .agg #[.int .i64 pa, .int .i64 pb]), (14, .bool true), (15, .bool false), (16, .bool false), (6, .pointer (some ⟨g61, 0, none⟩)), (7, .pointer (some ⟨g63, 0, none⟩))] ∧ St w0 w [bk g63 #[.bool (neg 1), .slice A57 (zl 1) c58] 28, bk g61 #[.bool (neg xl), .slice Al (zl xl) cl] 28, bk g53 #[.bool (neg 0), .slice none (zl 0) 0] 28, bk g51 #[.int .i64 pa, .int .i64 pb] 24] [pfZ A57 c58 1, pfZ Al cl xl, pfRow fN FN 2 A0 n0 c0 es0]) ?_ ?_
  · refine region_any (n := 11) (Sk [bk g53 #[.bool (neg 0), .slice none (zl 0) 0] 28, bk g51 #[.int .i64 pa, .int .i64 pb] 24] [pfZ Al cl xl, pfRow fN FN 2 A0 n0 c0 es0] [9, 10] []) mixed rfl henv hst ?_
    clear henv hst; intro w56 henv hst
    refine tM (i := 0) [4, 5, 9, 10] rfl (by kernel_rfl) (fun _ _ _ h => h) henv rfl rfl ?_
    clear henv a; intro a henv
    refine tM (i := 1) [2, 3, 4, 5, 9, 10] rfl (by kernel_rfl) (fun _ _ _ h => h) henv rfl rfl ?_
    clear henv a; intro a henv
    refine tA (i := 2) [3, 4, 5, 9, 10] (v := .int .i64 (n0 : Nat)) rfl (by kernel_rfl) (fun _ _ _ h => h) henv rfl (fun _ => rn_len henv Tryd.underlying32 rfl) ?_
    clear henv a; intro a henv
    refine tA (i := 3) [4, 5, 9, 10] (v := .int .i64 (n0 - 1 : Nat)) rfl (by kernel_rfl) (fun _ _ _ h => h) henv rfl (fun _ => rn_sub henv rfl rfl (by rw [IntWalk.i64_in _ (by omega)]; omega)) ?_
    clear henv a; intro a henv
    refine sAny_take (i := 4) [5, 9, 10] (fun w' => (pfRow fN FN 2 A0 n0 c0 es0).P w') (v := .pointer (some ⟨ab A0, ao A0 + (n0 - 1) * 2, none⟩)) rfl (by kernel_rfl) (fun _ _ _ h => h) (fun _ _ _ hS => hS.1.pat (k := 1) rfl) henv rfl (hst.pat (k := 1) rfl) (fun w' hg => rn_idxR (i := n0 - 1) henv Tryd.underlying32 (ty_anvil_integer_Int.size) rfl rfl (by omega) rfl (show (pfRow fN FN 2 A0 n0 c0 es0).P _ from hg).1) ?_
    clear henv a; intro a henv
    refine sAny_take (i := 5) [9, 10] (fun w' => (pfRow fN FN 2 A0 n0 c0 es0).P w') (v := .agg #[.bool (neg xl), .slice Al (zl xl) cl]) rfl (by kernel_rfl) (fun _ _ _ h => h) (fun _ _ _ hS => hS.1.pat (k := 1) rfl) henv rfl (hst.pat (k := 1) rfl) (fun w' hg => rn_loadE (i := n0 - 1) (e := (Al, cl, xl)) henv ty_anvil_integer_Int rfl rfl fN_len (show (pfRow fN FN 2 A0 n0 c0 es0).P _ from hg).1 (by omega) hel rfl) ?_
    clear henv a; intro a henv
    refine sAny_all (rs := [6, 7, 8]) (by kernel_rfl) (by simp) ?_
    simp only [List.forall_mem_cons, List.not_mem_nil, false_implies, implies_true, and_true]
    refine ⟨?_, ?_, ?_⟩
    · refine ⟨_, rfl, rfl, op_call henv rfl Tryd.call34 rfl (of_z (n := (1 : Int)) (by decide) (by decide)) ?_⟩
      rintro e w60 ⟨_, rfl, ⟨A57, c58, rfl, hz59⟩, hb⟩
      refine ⟨_, rfl, ?_⟩
      clear henv a; intro a henv
      replace hst := (hst.call hb).addZ hz59 ⟨nou_bk rfl, nou_bk rfl, trivial⟩
      clear hz59
      clear hb
      refine ⟨.inr ⟨hst.kn.pick [0, 1] [1, 2], .inr (hst.kn.pick [] [])⟩, ?_⟩
      refine sAny_all (rs := [7, 8]) (by kernel_rfl) (by simp) ?_
      simp only [List.forall_mem_cons, List.not_mem_nil, false_implies, implies_true, and_true]
      refine ⟨?_, ?_⟩
      · refine ⟨_, rfl, rfl, op_alloc (c := #[.bool (neg 0), .slice none (zl 0) 0]) henv hst rfl zero_anvil_integer_Int zcells ?_⟩
        clear henv hst a; intro a w62 g61 henv hst
        refine ⟨.inr ⟨hst.kn.pick [1, 2] [1, 2], .inr (hst.kn.pick [] [])⟩, ?_⟩
        refine sAny_one (i := 8) (by kernel_rfl) rfl rfl (op_alloc (c := #[.bool (neg 0), .slice none (zl 0) 0]) henv hst rfl zero_anvil_integer_Int zcells ?_)
        clear henv hst a; intro a w64 g63 henv hst
        refine ⟨.inr ⟨hst.kn.pick [2, 3] [1, 2], .inr (hst.kn.pick [] [])⟩, ?_⟩
        refine sAny_one (i := 9) (by kernel_rfl) rfl rfl (op_store (k := 1) (c' := #[.bool (neg xl), .slice Al (zl xl) cl]) henv hst (ty_anvil_integer_Int.size) rfl rfl rfl rfl (by simp) rfl rfl ?_)
        clear henv hst a; intro a w65 henv hst
        refine ⟨.inr ⟨hst.kn.pick [2, 3] [1, 2], .inl rfl⟩, ?_⟩
        refine sAny_one (i := 10) (by kernel_rfl) rfl rfl (op_store (k := 0) (c' := #[.bool (neg 1), .slice A57 (zl 1) c58]) henv hst (ty_anvil_integer_Int.size) rfl rfl rfl rfl (by simp) rfl rfl ?_)
        clear henv hst a; intro a w66 henv hst
        refine ⟨.inr ⟨hst.kn.pick [2, 3] [1, 2], .inl rfl⟩, ?_⟩
        refine sAny_done (by kernel_rfl) ?_ _
        exact th_n ⟨A57, c58, g61, g63, henv.sub ⟨rfl, rfl, rfl, rfl, rfl, rfl, rfl, rfl, rfl, rfl, rfl, rfl, rfl, rfl, rfl, trivial⟩, hst.pick [0, 1, 2, 3] [0, 1, 2] (by decide)⟩
      · refine ⟨_, rfl, rfl, op_alloc (c := #[.bool (neg 0), .slice none (zl 0) 0]) henv hst rfl zero_anvil_integer_Int zcells ?_⟩
        clear henv hst a; intro a w68 g67 henv hst
        refine ⟨.inr ⟨hst.kn.pick [1, 2] [1, 2], .inr (hst.kn.pick [] [])⟩, ?_⟩
        refine sAny_one (i := 7) (by kernel_rfl) rfl rfl (op_alloc (c := #[.bool (neg 0), .slice none (zl 0) 0]) henv hst rfl zero_anvil_integer_Int zcells ?_)
        clear henv hst a; intro a w70 g69 henv hst
        refine ⟨.inr ⟨hst.kn.pick [2, 3] [1, 2], .inr (hst.kn.pick [] [])⟩, ?_⟩
        refine sAny_one (i := 9) (by kernel_rfl) rfl rfl (op_store (k := 0) (c' := #[.bool (neg xl), .slice Al (zl xl) cl]) henv hst (ty_anvil_integer_Int.size) rfl rfl rfl rfl (by simp) rfl rfl ?_)
        clear henv hst a; intro a w71 henv hst
        refine ⟨.inr ⟨hst.kn.pick [2, 3] [1, 2], .inl rfl⟩, ?_⟩
        refine sAny_one (i := 10) (by kernel_rfl) rfl rfl (op_store (k := 1) (c' := #[.bool (neg 1), .slice A57 (zl 1) c58]) henv hst (ty_anvil_integer_Int.size) rfl rfl rfl rfl (by simp) rfl rfl ?_)
        clear henv hst a; intro a w72 henv hst
        refine ⟨.inr ⟨hst.kn.pick [2, 3] [1, 2], .inl rfl⟩, ?_⟩
        refine sAny_done (by kernel_rfl) ?_ _
        exact th_n ⟨A57, c58, g69, g67, henv.sub ⟨rfl, rfl, rfl, rfl, rfl, rfl, rfl, rfl, rfl, rfl, rfl, rfl, rfl, rfl, rfl, trivial⟩, hst.pick [1, 0, 2, 3] [0, 1, 2] (by decide)⟩
    · refine ⟨_, rfl, rfl, op_alloc (c := #[.bool (neg 0), .slice none (zl 0) 0]) henv hst rfl zero_anvil_integer_Int zcells ?_⟩
      clear henv hst a; intro a w74 g73 henv hst
      refine ⟨.inr ⟨hst.kn.pick [1, 2] [0, 1], .inr (hst.kn.pick [] [])⟩, ?_⟩
      refine sAny_all (rs := [6, 8]) (by kernel_rfl) (by simp) ?_
      simp only [List.forall_mem_cons, List.not_mem_nil, false_implies, implies_true, and_true]
      refine ⟨?_, ?_⟩
      · refine ⟨_, rfl, rfl, op_call henv rfl Tryd.call34 rfl (of_z (n := (1 : Int)) (by decide) (by decide)) ?_⟩
        rintro e w78 ⟨_, rfl, ⟨A75, c76, rfl, hz77⟩, hb⟩
        refine ⟨_, rfl, ?_⟩
        clear henv a; intro a henv
        replace hst := (hst.call hb).addZ hz77 ⟨nou_bk rfl, nou_bk rfl, nou_bk rfl, trivial⟩
        clear hz77
        clear hb
        refine ⟨.inr ⟨hst.kn.pick [1, 2] [1, 2], .inr (hst.kn.pick [] [])⟩, ?_⟩
        refine sAny_one (i := 8) (by kernel_rfl) rfl rfl (op_alloc (c := #[.bool (neg 0), .slice none (zl 0) 0]) henv hst rfl zero_anvil_integer_Int zcells ?_)
        clear henv hst a; intro a w80 g79 henv hst
        refine ⟨.inr ⟨hst.kn.pick [2, 3] [1, 2], .inr (hst.kn.pick [] [])⟩, ?_⟩
        refine sAny_one (i := 9) (by kernel_rfl) rfl rfl (op_store (k := 1) (c' := #[.bool (neg xl), .slice Al (zl xl) cl]) henv hst (ty_anvil_integer_Int.size) rfl rfl rfl rfl (by simp) rfl rfl ?_)
        clear henv hst a; intro a w81 henv hst
        refine ⟨.inr ⟨hst.kn.pick [2, 3] [1, 2], .inl rfl⟩, ?_⟩
        refine sAny_one (i := 10) (by kernel_rfl) rfl rfl (op_store (k := 0) (c' := #[.bool (neg 1), .slice A75 (zl 1) c76]) henv hst (ty_anvil_integer_Int.size) rfl rfl rfl rfl (by simp) rfl rfl ?_)
        clear henv hst a; intro a w82 henv hst
        refine ⟨.inr ⟨hst.kn.pick [2, 3] [1, 2], .inl rfl⟩, ?_⟩
        refine sAny_done (by kernel_rfl) ?_ _
        exact th_n ⟨A75, c76, g73, g79, henv.sub ⟨rfl, rfl, rfl, rfl, rfl, rfl, rfl, rfl, rfl, rfl, rfl, rfl, rfl, rfl, rfl, trivial⟩, hst.pick [0, 1, 2, 3] [0, 1, 2] (by decide)⟩
      · refine ⟨_, rfl, rfl, op_alloc (c := #[.bool (neg 0), .slice none (zl 0) 0]) henv hst rfl zero_anvil_integer_Int zcells ?_⟩
        clear henv hst a; intro a w84 g83 henv hst
        refine ⟨.inr ⟨hst.kn.pick [2, 3] [0, 1], .inr (hst.kn.pick [] [])⟩, ?_⟩
        refine sAny_one (i := 6) (by kernel_rfl) rfl rfl (op_call henv rfl Tryd.call34 rfl (of_z (n := (1 : Int)) (by decide) (by decide)) ?_)
        rintro e w88 ⟨_, rfl, ⟨A85, c86, rfl, hz87⟩, hb⟩
        refine ⟨_, rfl, ?_⟩
        clear henv a; intro a henv
        replace hst := (hst.call hb).addZ hz87 ⟨nou_bk rfl, nou_bk rfl, nou_bk rfl, nou_bk rfl, trivial⟩
        clear hz87
        clear hb
        refine ⟨.inr ⟨hst.kn.pick [2, 3] [1, 2], .inr (hst.kn.pick [] [])⟩, ?_⟩
        refine sAny_one (i := 9) (by kernel_rfl) rfl rfl (op_store (k := 1) (c' := #[.bool (neg xl), .slice Al (zl xl) cl]) henv hst (ty_anvil_integer_Int.size) rfl rfl rfl rfl (by simp) rfl rfl ?_)
        clear henv hst a; intro a w89 henv hst
        refine ⟨.inr ⟨hst.kn.pick [2, 3] [1, 2], .inl rfl⟩, ?_⟩
        refine sAny_one (i := 10) (by kernel_rfl) rfl rfl (op_store (k := 0) (c' := #[.bool (neg 1), .slice A85 (zl 1) c86]) henv hst (ty_anvil_integer_Int.size) rfl rfl rfl rfl (by simp) rfl rfl ?_)
        clear henv hst a; intro a w90 henv hst
        refine ⟨.inr ⟨hst.kn.pick [2, 3] [1, 2], .inl rfl⟩, ?_⟩
        refine sAny_done (by kernel_rfl) ?_ _
        exact th_n ⟨A85, c86, g73, g83, henv.sub ⟨rfl, rfl, rfl, rfl, rfl, rfl, rfl, rfl, rfl, rfl, rfl, rfl, rfl, rfl, rfl, trivial⟩, hst.pick [0, 1, 2, 3] [0, 1, 2] (by decide)⟩
    · refine ⟨_, rfl, rfl, op_alloc (c := #[.bool (neg 0), .slice none (zl 0) 0]) henv hst rfl zero_anvil_integer_Int zcells ?_⟩
      clear henv hst a; intro a w92 g91 henv hst
      refine ⟨.inr ⟨hst.kn.pick [1, 2] [0, 1], .inr (hst.kn.pick [] [])⟩, ?_⟩
      refine sAny_all (rs := [6, 7]) (by kernel_rfl) (by simp) ?_
      simp only [List.forall_mem_cons, List.not_mem_nil, false_implies, implies_true, and_true]
      refine ⟨?_, ?_⟩
      · refine ⟨_, rfl, rfl, op_call henv rfl Tryd.call34 rfl (of_z (n := (1 : Int)) (by decide) (by decide)) ?_⟩
        rintro e w96 ⟨_, rfl, ⟨A93, c94, rfl, hz95⟩, hb⟩
        refine ⟨_, rfl, ?_⟩
        clear henv a; intro a henv
        replace hst := (hst.call hb).addZ hz95 ⟨nou_bk rfl, nou_bk rfl, nou_bk rfl, trivial⟩
        clear hz95
        clear hb
        refine ⟨.inr ⟨hst.kn.pick [1, 2] [1, 2], .inr (hst.kn.pick [] [])⟩, ?_⟩
        refine sAny_one (i := 7) (by kernel_rfl) rfl rfl (op_alloc (c := #[.bool (neg 0), .slice none (zl 0) 0]) henv hst rfl zero_anvil_integer_Int zcells ?_)
        clear henv hst a; intro a w98 g97 henv hst
        refine ⟨.inr ⟨hst.kn.pick [2, 3] [1, 2], .inr (hst.kn.pick [] [])⟩, ?_⟩
        refine sAny_one (i := 9) (by kernel_rfl) rfl rfl (op_store (k := 0) (c' := #[.bool (neg xl), .slice Al (zl xl) cl]) henv hst (ty_anvil_integer_Int.size) rfl rfl rfl rfl (by simp) rfl rfl ?_)
        clear henv hst a; intro a w99 henv hst
        refine ⟨.inr ⟨hst.kn.pick [2, 3] [1, 2], .inl rfl⟩, ?_⟩
        refine sAny_one (i := 10) (by kernel_rfl) rfl rfl (op_store (k := 1) (c' := #[.bool (neg 1), .slice A93 (zl 1) c94]) henv hst (ty_anvil_integer_Int.size) rfl rfl rfl rfl (by simp) rfl rfl ?_)
        clear henv hst a; intro a w100 henv hst
        refine ⟨.inr ⟨hst.kn.pick [2, 3] [1, 2], .inl rfl⟩, ?_⟩
        refine sAny_done (by kernel_rfl) ?_ _
        exact th_n ⟨A93, c94, g97, g91, henv.sub ⟨rfl, rfl, rfl, rfl, rfl, rfl, rfl, rfl, rfl, rfl, rfl, rfl, rfl, rfl, rfl, trivial⟩, hst.pick [1, 0, 2, 3] [0, 1, 2] (by decide)⟩
      · refine ⟨_, rfl, rfl, op_alloc (c := #[.bool (neg 0), .slice none (zl 0) 0]) henv hst rfl zero_anvil_integer_Int zcells ?_⟩
        clear henv hst a; intro a w102 g101 henv hst
        refine ⟨.inr ⟨hst.kn.pick [2, 3] [0, 1], .inr (hst.kn.pick [] [])⟩, ?_⟩
        refine sAny_one (i := 6) (by kernel_rfl) rfl rfl (op_call henv rfl Tryd.call34 rfl (of_z (n := (1 : Int)) (by decide) (by decide)) ?_)
        rintro e w106 ⟨_, rfl, ⟨A103, c104, rfl, hz105⟩, hb⟩
        refine ⟨_, rfl, ?_⟩
        clear henv a; intro a henv
        replace hst := (hst.call hb).addZ hz105 ⟨nou_bk rfl, nou_bk rfl, nou_bk rfl, nou_bk rfl, trivial⟩
        clear hz105
        clear hb
        refine ⟨.inr ⟨hst.kn.pick [2, 3] [1, 2], .inr (hst.kn.pick [] [])⟩, ?_⟩
        refine sAny_one (i := 9) (by kernel_rfl) rfl rfl (op_store (k := 0) (c' := #[.bool (neg xl), .slice Al (zl xl) cl]) henv hst (ty_anvil_integer_Int.size) rfl rfl rfl rfl (by simp) rfl rfl ?_)
        clear henv hst a; intro a w107 henv hst
        refine ⟨.inr ⟨hst.kn.pick [2, 3] [1, 2], .inl rfl⟩, ?_⟩
        refine sAny_one (i := 10) (by kernel_rfl) rfl rfl (op_store (k := 1) (c' := #[.bool (neg 1), .slice A103 (zl 1) c104]) henv hst (ty_anvil_integer_Int.size) rfl rfl rfl rfl (by simp) rfl rfl ?_)
        clear henv hst a; intro a w108 henv hst
        refine ⟨.inr ⟨hst.kn.pick [2, 3] [1, 2], .inl rfl⟩, ?_⟩
        refine sAny_done (by kernel_rfl) ?_ _
        exact th_n ⟨A103, c104, g101, g91, henv.sub ⟨rfl, rfl, rfl, rfl, rfl, rfl, rfl, rfl, rfl, rfl, rfl, rfl, rfl, rfl, rfl, trivial⟩, hst.pick [1, 0, 2, 3] [0, 1, 2] (by decide)⟩
  clear henv hst a
  rintro a w109 ⟨A57, c58, g61, g63, henv, hst⟩
  refine wp_seq ?_
  refine wp_seq ?_
  refine region_seq ?_
  revert a
  refine mA rfl rfl ?_
  refine sA (v := .int .i64 (n0 : Nat)) rfl (fun _ henv => rn_len henv Tryd.underlying32 rfl) ?_
  refine sA (v := .int .i64 (((n0 - 1 : Nat) : Int) - 1)) rfl (fun _ henv => rn_sub henv rfl rfl (by rw [IntWalk.i64_in _ (by omega)]; omega)) ?_
  refine aA rfl rfl ?_
  intro a henv
  refine wpList_nil ?_
  refine th_n ?_
  refine wp_block ?_
  refine wp_loop_ghost (fun mz a w => ∃ i : Nat, ∃ v : Int, ∃ Av : Option Addr, ∃ cv : Nat, ∃ p : Int, ∃ Ap : Option Addr, ∃ cp : Nat, i = mz ∧ Env 48 a [(0, .slice A0 n0 c0), (3, .pointer (some ⟨g51, 0, none⟩)), (4, .pointer (some ⟨g53, 0, none⟩)), (6, .pointer (some ⟨g61, 0, none⟩)), (7, .pointer (some ⟨g63, 0, none⟩)), (8, .int .i64 (((i : Nat) : Int) - 1))] ∧ St w0 w [bk g63 #[.bool (neg p), .slice Ap (zl p) cp] 28, bk g61 #[.bool (neg v), .slice Av (zl v) cv] 28, bk g53 #[.bool (neg 0), .slice none (zl 0) 0] 28, bk g51 #[.int .i64 pa, .int .i64 pb] 24] [pfZ Ap cp p, pfZ Av cv v, pfRow fN FN 2 A0 n0 c0 es0] ∧ i ≤ n0 - 1 ∧ v = hval pa pb (xs.drop i) ∧ p = pb ^ (xs.length - 1 - i)) _ ⟨(n0 - 1), xl, Al, cl, 1, A57, c58, rfl, henv.sub ⟨rfl, rfl, rfl, rfl, rfl, rfl, trivial⟩, hst.pick [0, 1, 2, 3] [0, 1, 2] (by decide), (Nat.le_refl _), (by rw [← hlx]; exact (hval_last hxl).symm), (by rw [hlx, Nat.sub_self, Int.pow_zero])⟩ ?_
  clear henv hst a
  rintro mz a w110 ⟨i, v, Av, cv, p, Ap, cp, rfl, henv, hst, hi, hvv, hpp⟩
  have hsv := hvv ▸ hval_sz hI.1 hI.2 (hk.drop i)
  have hld : (xs.drop i).length = n0 - i := by rw [List.length_drop, hlx]
  rw [hld] at hsv
  have hsp := hpp ▸ zl_p16 hI.2 (xs.length - 1 - i)
  rw [hlx] at hsp hpp
  have hva := zl_mul v pa
  have hpb := zl_mul p pb
  have hza := zl_16 hI.1
  have hzb := zl_16 hI.2
  refine wp_seq ?_
  refine wp_seq ?_
  refine region_seq ?_
  revert a
  refine mA rfl rfl ?_
  refine sA (v := .bool (decide (((i : Nat) : Int) - 1 ≥ (0 : Int)))) rfl (fun _ henv => rn_bin henv rfl rfl rfl) ?_
  intro a henv
  refine wpList_nil ?_
  refine th_n ?_
  refine if_split henv rfl (fun hc111 => ?_) (fun hc111 => ?_)
  · obtain ⟨j, hj⟩ : ∃ j : Nat, ((i : Nat) : Int) - 1 = (j : Nat) := ⟨i - 1, by have := of_decide_eq_true hc111; omega⟩
    rw [hj] at henv
    obtain rfl : i = j + 1 := by omega
    clear hj
    obtain ⟨⟨A, c, x⟩, he0⟩ : ∃ e, es0[j]? = some e := ⟨_, List.getElem?_eq_getElem (by omega)⟩
    replace hst := hst.elem (k := 2) rfl he0
    replace hst : St w0 _ [bk g63 #[.bool (neg p), .slice Ap (zl p) cp] 28, bk g61 #[.bool (neg v), .slice Av (zl v) cv] 28, bk g53 #[.bool (neg 0), .slice none (zl 0) 0] 28, bk g51 #[.int .i64 pa, .int .i64 pb] 24] [pfZ A c x, pfZ Ap cp p, pfZ Av cv v, pfRow fN FN 2 A0 n0 c0 es0] := hst
    replace hst : St w0 _ [bk g63 #[.bool (neg p), .slice Ap (zl p) cp] 28, bk g61 #[.bool (neg v), .slice Av (zl v) cv] 28, bk g53 #[.bool (neg 0), .slice none (zl 0) 0] 28, bk g51 #[.int .i64 pa, .int .i64 pb] 24] [pfZ A c x, pfZ Ap cp p, pfZ Av cv v, pfRow fN FN 2 A0 n0 c0 es0] := hst
    have hxj : xs[j]? = some x := by rw [← hz0, List.getElem?_map, he0]; rfl
    have hsx : zl x ≤ 1000 := hk x (List.mem_of_getElem? hxj)
    refine wp_skip ?_
    refine th_n ?_
    refine wp_seq ?_
    refine wp_block ?_
    refine wp_seq ?_
    refine region_seq ?_
    revert a
    refine sA (v := .agg #[.bool (neg p), .slice Ap (zl p) cp]) rfl (fun _ henv => rn_load0 henv ty_anvil_integer_Int rfl (hst.oat (k := 0) rfl) rfl) ?_
    refine sA (v := .pointer (some ⟨g51, 1, none⟩)) rfl (fun _ henv => rn_fieldAddr henv fd_anvil_api_Point_1 (ty_int.size) (by decide) rfl) ?_
    refine sA (v := .int .i64 pb) rfl (fun _ henv => rn_load1 henv ty_int rfl (hst.oat (k := 3) rfl) rfl) ?_
    intro a henv
    refine seq_step rfl (op_call henv rfl Tryd.call48 rfl (times_z (x := p) (n := pb) (show ZIn _ Ap cp p from hst.pat (k := 1) rfl) (by omega) (by omega) (by omega)) ?_)
    rintro e w115 ⟨_, rfl, ⟨A112, c113, rfl, hz114⟩, hb⟩
    refine ⟨_, rfl, ?_⟩
    clear henv a; intro a henv
    replace hst := (hst.call hb).addZ hz114 ⟨nou_bk rfl, nou_bk rfl, nou_bk rfl, nou_bk rfl, trivial⟩
    clear hz114
    clear hb
    refine seq_step rfl (op_store (k := 0) (c' := #[.bool (neg (p * pb)), .slice A112 (zl (p * pb)) c113]) henv hst (ty_anvil_integer_Int.size) rfl rfl rfl rfl (by simp) rfl rfl ?_)
    clear henv hst a; intro a w116 henv hst
    refine wpList_nil ?_
    refine th_n ?_
    refine region_any (n := 12) (Sk [bk g63 #[.bool (neg (p * pb)), .slice A112 (zl (p * pb)) c113] 28, bk g53 #[.bool (neg 0), .slice none (zl 0) 0] 28, bk g51 #[.int .i64 pa, .int .i64 pb] 24] [pfZ A112 c113 (p * pb), pfZ A c x, pfZ Ap cp p, pfZ Av cv v, pfRow fN FN 2 A0 n0 c0 es0] [11] [bk g61 #[.bool (neg v), .slice Av (zl v) cv] 28]) mixed rfl henv hst ?_
    clear henv hst; intro w117 henv hst
    refine sAny_take (i := 0) [3, 9, 10, 11] (fun w' => w'.heap[g61]? = some (.cells #[.bool (neg v), .slice Av (zl v) cv] 28 (0, 0))) (v := .agg #[.bool (neg v), .slice Av (zl v) cv]) rfl (by kernel_rfl) (fun _ _ _ h => h) (fun _ _ hj hS => (hS.two rfl hj).oat (k := 0) rfl) henv rfl (hst.oat (k := 1) rfl) (fun w' hg => rn_load0 henv ty_anvil_integer_Int rfl hg rfl) ?_
    clear henv a; intro a henv
    refine tA (i := 1) [2, 3, 9, 10, 11] (v := .pointer (some ⟨g51, 0, none⟩)) rfl (by kernel_rfl) (fun _ _ _ h => h) henv rfl (fun _ => rn_fieldAddr henv fd_anvil_api_Point_0 (ty_int.size) (by decide) rfl) ?_
    clear henv a; intro a henv
    refine sAny_take (i := 2) [3, 9, 10, 11] (fun w' => w'.heap[g51]? = some (.cells #[.int .i64 pa, .int .i64 pb] 24 (0, 0))) (v := .int .i64 pa) rfl (by kernel_rfl) (fun _ _ _ h => h) (fun _ _ _ hS => hS.1.oat (k := 2) rfl) henv rfl (hst.oat (k := 3) rfl) (fun w' hg => rn_load1 henv ty_int rfl hg rfl) ?_
    clear henv a; intro a henv
    refine tM (i := 4) [6, 7, 9, 10, 11] rfl (by kernel_rfl) (fun _ _ _ h => h) henv rfl rfl ?_
    clear henv a; intro a henv
    refine tM (i := 5) [6, 7, 9, 10, 11] rfl (by kernel_rfl) (fun _ _ _ h => h) henv rfl rfl ?_
    clear henv a; intro a henv
    refine sAny_take (i := 6) [7, 9, 10, 11] (fun w' => (pfRow fN FN 2 A0 n0 c0 es0).P w') (v := .pointer (some ⟨ab A0, ao A0 + j * 2, none⟩)) rfl (by kernel_rfl) (fun _ _ _ h => h) (fun _ _ _ hS => hS.1.pat (k := 4) rfl) henv rfl (hst.pat (k := 4) rfl) (fun w' hg => rn_idxR (i := j) henv Tryd.underlying32 (ty_anvil_integer_Int.size) rfl rfl (by omega) rfl (show (pfRow fN FN 2 A0 n0 c0 es0).P _ from hg).1) ?_
    clear henv a; intro a henv
    refine sAny_take (i := 7) [9, 10, 11] (fun w' => (pfRow fN FN 2 A0 n0 c0 es0).P w') (v := .agg #[.bool (neg x), .slice A (zl x) c]) rfl (by kernel_rfl) (fun _ _ _ h => h) (fun _ _ _ hS => hS.1.pat (k := 4) rfl) henv rfl (hst.pat (k := 4) rfl) (fun w' hg => rn_loadE (i := j) (e := (A, c, x)) henv ty_anvil_integer_Int rfl rfl fN_len (show (pfRow fN FN 2 A0 n0 c0 es0).P _ from hg).1 (by omega) he0 rfl) ?_
    clear henv a; intro a henv
    refine tL (i := 8) 0 0 [9, 10, 11] rfl (by kernel_rfl) (fun _ _ _ h => h) henv rfl ty_anvil_integer_Int rfl hst rfl rfl rfl ?_
    clear henv a; intro a henv
    refine sAny_one (i := 3) (by kernel_rfl) rfl rfl (op_call henv rfl Tryd.call48 rfl (times_z (x := v) (n := pa) (show ZIn _ Av cv v from hst.pat (k := 3) rfl) (by omega) (by omega) (by omega)) ?_)
    rintro e w121 ⟨_, rfl, ⟨A118, c119, rfl, hz120⟩, hb⟩
    refine ⟨_, rfl, ?_⟩
    clear henv a; intro a henv
    replace hst := (hst.call hb).addZ hz120 ⟨nou_bk rfl, nou_bk rfl, nou_bk rfl, nou_bk rfl, trivial⟩
    clear hz120
    clear hb
    refine ⟨.inr ⟨hst.kn.pick [0, 2, 3] (rg 1 5), .inr (hst.kn.pick [1] [])⟩, ?_⟩
    have hs122 := zl_mul x (p * pb)
    refine sAny_one (i := 9) (by kernel_rfl) rfl rfl (op_call henv rfl Tryd.call43 rfl (mul_z (x := x) (y := (p * pb)) (show ZIn _ A c x from hst.pat (k := 2) rfl) (show ZIn _ A112 c113 (p * pb) from hst.pat (k := 1) rfl) (by omega) (by omega)) ?_)
    rintro e w126 ⟨_, rfl, ⟨A123, c124, rfl, hz125⟩, hb⟩
    refine ⟨_, rfl, ?_⟩
    clear henv a; intro a henv
    replace hst := (hst.call hb).addZ hz125 ⟨nou_bk rfl, nou_bk rfl, nou_bk rfl, nou_bk rfl, trivial⟩
    clear hz125
    clear hb
    refine ⟨.inr ⟨hst.kn.pick [0, 2, 3] (rg 2 5), .inr (hst.kn.pick [1] [])⟩, ?_⟩
    have hs127 := zl_add (v * pa) (x * (p * pb))
    refine sAny_one (i := 10) (by kernel_rfl) rfl rfl (op_call henv rfl Tryd.call49 rfl (add_z (x := (v * pa)) (y := x * (p * pb)) (show ZIn _ A118 c119 (v * pa) from hst.pat (k := 1) rfl) (show ZIn _ A123 c124 (x * (p * pb)) from hst.pat (k := 0) rfl) (by omega) (by omega)) ?_)
    rintro e w131 ⟨_, rfl, ⟨A128, c129, rfl, hz130⟩, hb⟩
    refine ⟨_, rfl, ?_⟩
    clear henv a; intro a henv
    replace hst := (hst.call hb).addZ hz130 ⟨nou_bk rfl, nou_bk rfl, nou_bk rfl, nou_bk rfl, trivial⟩
    clear hz130
    clear hb
    refine ⟨.inr ⟨hst.kn.pick [0, 2, 3] (rg 3 5), .inr (hst.kn.pick [1] [])⟩, ?_⟩
    refine sAny_one (i := 11) (by kernel_rfl) rfl rfl (op_store (k := 1) (c' := #[.bool (neg ((v * pa) + (x * (p * pb)))), .slice A128 (zl ((v * pa) + (x * (p * pb)))) c129]) henv hst (ty_anvil_integer_Int.size) rfl rfl rfl rfl (by simp) rfl rfl ?_)
    clear henv hst a; intro a w132 henv hst
    refine ⟨.inr ⟨hst.kn.pick [0, 2, 3] (rg 3 5), .inl rfl⟩, ?_⟩
    refine sAny_done (by kernel_rfl) ?_ _
    refine bl_n (th_n ?_)
    refine region_seq ?_
    revert a
    refine mA rfl rfl ?_
    refine sA (v := .int .i64 (((j : Nat) : Int) - 1)) rfl (fun _ henv => rn_sub henv rfl rfl (IntWalk.i64_in _ (by omega))) ?_
    refine aA rfl rfl ?_
    intro a henv
    refine wpList_nil ?_
    exact th_n ⟨_, (by omega), ⟨j, (v * pa + x * (p * pb)), A128, c129, (p * pb), A112, c113, rfl, henv.sub ⟨rfl, rfl, rfl, rfl, rfl, rfl, trivial⟩, hst.pick [0, 1, 2, 3] [3, 0, 7] (by decide), (by omega), (hval_step hvv hpp hlx hxj (by omega)), (by rw [hpp, ← Int.pow_succ, hlx]; congr 1; omega)⟩⟩
  · obtain rfl : i = 0 := by have := of_decide_eq_false hc111; omega
    rw [List.drop_zero] at hvv
    refine wp_exit ?_
    refine th_x (th_x (bl_x (th_n ?_)))
    refine wp_seq ?_
    refine region_seq ?_
    refine sv (v := .agg #[.bool (neg v), .slice Av (zl v) cv]) henv rfl (rn_load0 henv ty_anvil_integer_Int rfl (hst.oat (k := 1) rfl) rfl) ?_
    clear henv a; intro a henv
    refine seq_step rfl (op_store (k := 2) (c' := #[.bool (neg v), .slice Av (zl v) cv]) henv hst (ty_anvil_integer_Int.size) rfl rfl rfl rfl (by simp) rfl rfl ?_)
    clear henv hst a; intro a w133 henv hst
    refine sv (v := .int .i64 0) henv rfl (rn_assign henv rfl) ?_
    clear henv a; intro a henv
    refine wpList_nil ?_
    refine th_n ?_
    refine wp_ret ?_
    refine leave henv (res2 Tryd.results11 (RV.cell henv ty_anvil_integer_Int rfl (hst.oat (k := 2) rfl) rfl) (RV.tmp henv rfl)) ?_
    exact ⟨_, rfl, hvv ▸ ⟨_, _, rfl, hst.pat (k := 1) rfl⟩, hst.below⟩
end Go.Proofs.YtghaenkacjgdnaaDoor.W

/- placed for any function, Add, Sub, Mul, Shift. Printed by pv/gen_po4.py. No condition. -/
namespace Go.Proofs.YtghaenkacjgdnaaDoor.W
open Go.RowKit Anv Go.Lib
def gF (g : Int → Int → Int) (xs ys : List Int) (i : Nat) : Int := g (xs.getD i 0) (ys.getD i 0)
set_option maxRecDepth 100000 in
set_option maxHeartbeats 2000000 in
theorem p_mul_nil {A0 A1 : Option Addr} {n0 n1 c0 c1 : Nat} {es0 es1 : List NE} {xs ys : List Int} {w0 : World} (h0 : (pfRow fN FN 2 A0 n0 c0 es0).P w0) (hz0 : es0.map zz = xs) (h1 : (pfRow fN FN 2 A1 n1 c1 es1).P w0) (hz1 : es1.map zz = ys) (h00 : n0 = 0 ∨ n1 = 0) :
    Calls Tryd.prog 24 #[.slice A0 n0 c0, .slice A1 n1 c1] w0 fun e w' => e = .returned (.tuple #[.slice none 0 0, .int .i64 0]) ∧ Below w0.heap.size w0 w' := by
  refine enter Tryd.func24 rfl Tryd.ntmps24 rfl ?_
  intro a henv hst
  have hlx : xs.length = n0 := by rw [← hz0, List.length_map]; exact h0.2.1
  have hly : ys.length = n1 := by rw [← hz1, List.length_map]; exact h1.2.1
  replace hst := (hst.argRow h1).argRow h0
  clear h0 h1
  refine wp_seq ?_
  refine region_seq ?_
  revert a
  refine aA rfl rfl ?_
  refine aA rfl rfl ?_
  intro a henv
  refine wpList_nil ?_
  refine th_n ?_
  refine wp_seq ?_
  refine wp_seq ?_
  refine region_seq ?_
  revert a
  refine mA rfl rfl ?_
  refine sA (v := .int .i64 (n0 : Nat)) rfl (fun _ henv => rn_len henv Tryd.underlying32 rfl) ?_
  refine sA (v := .bool (((n0 : Nat) : Int) == (0 : Int))) rfl (fun _ henv => rn_bin henv rfl rfl rfl) ?_
  refine mA rfl rfl ?_
  intro a henv
  rcases bool_em (((n0 : Nat) : Int) == (0 : Int)) with hg51 | hg51
  · rw [hg51] at henv
    have hq52 := eq_of_beq hg51
    revert a
    refine kA rfl rfl rfl rfl rfl ?_
    refine kA rfl rfl rfl rfl rfl ?_
    refine kA rfl rfl rfl rfl rfl ?_
    refine sA (v := .bool true) rfl (fun _ henv => rn_pick henv rfl rfl) ?_
    intro a henv
    refine wpList_nil ?_
    refine th_n ?_
    refine if_t henv rfl (rfl) ?_
    refine wp_seq ?_
    refine region_seq ?_
    revert a
    refine aA rfl rfl ?_
    refine aA rfl rfl ?_
    intro a henv
    refine wpList_nil ?_
    refine th_n ?_
    refine wp_ret ?_
    refine th_r ?_
    refine leave henv (res2 Tryd.results24 (RV.tmp henv rfl) (RV.tmp henv rfl)) ?_
    exact ⟨rfl, hst.below⟩
  · rw [hg51] at henv
    have hq53 := ne_of_beq_false hg51
    revert a
    refine gA (v := .slice A1 n1 c1) rfl rfl rfl rfl (fun _ henv => rn_move henv rfl) ?_
    refine gA (v := .int .i64 (n1 : Nat)) rfl rfl rfl rfl (fun _ henv => rn_len henv Tryd.underlying32 rfl) ?_
    refine gA (v := .bool (((n1 : Nat) : Int) == (0 : Int))) rfl rfl rfl rfl (fun _ henv => rn_bin henv rfl rfl rfl) ?_
    refine sA (v := .bool (((n1 : Nat) : Int) == (0 : Int))) rfl (fun _ henv => rn_pick henv rfl rfl) ?_
    intro a henv
    refine wpList_nil ?_
    refine th_n ?_
    refine if_split henv rfl (fun hc54 => ?_) (fun hc54 => ?_)
    · have hq55 := eq_of_beq hc54
      refine wp_seq ?_
      refine region_seq ?_
      revert a
      refine aA rfl rfl ?_
      refine aA rfl rfl ?_
      intro a henv
      refine wpList_nil ?_
      refine th_n ?_
      refine wp_ret ?_
      refine th_r ?_
      refine leave henv (res2 Tryd.results24 (RV.tmp henv rfl) (RV.tmp henv rfl)) ?_
      exact ⟨rfl, hst.below⟩
    · have hq56 := ne_of_beq_false hc54
      exfalso; omega
set_option maxRecDepth 100000 in
set_option maxHeartbeats 2000000 in
theorem l20_mul_nil {A0 A1 : Option Addr} {n0 n1 c0 c1 : Nat} {es0 es1 : List NE} {xs ys : List Int} {w0 : World} (h0 : (pfRow fN FN 2 A0 n0 c0 es0).P w0) (hz0 : es0.map zz = xs) (h1 : (pfRow fN FN 2 A1 n1 c1 es1).P w0) (hz1 : es1.map zz = ys) (h00 : n0 = 0 ∨ n1 = 0) :
    Calls Tryd.prog 21 #[.slice A0 n0 c0, .slice A1 n1 c1] w0 fun e w' => ∃ v, e = .returned v ∧ ZRowN w0.heap.size w' v (mulF xs ys).length (mulF xs ys) ∧ Below w0.heap.size w0 w' := by
  refine enter Tryd.func21 rfl Tryd.ntmps21 rfl ?_
  intro a henv hst
  have hlx : xs.length = n0 := by rw [← hz0, List.length_map]; exact h0.2.1
  have hly : ys.length = n1 := by rw [← hz1, List.length_map]; exact h1.2.1
  replace hst := (hst.argRow h1).argRow h0
  clear h0 h1
  refine wp_seq ?_
  refine region_seq ?_
  refine sv (v := .slice none 0 0) henv rfl (rn_assign henv rfl) ?_
  clear henv a; intro a henv
  refine wpList_nil ?_
  refine th_n ?_
  refine wp_seq ?_
  refine region_seq ?_
  revert a
  refine mA rfl rfl ?_
  refine mA rfl rfl ?_
  intro a henv
  refine seq_step rfl (op_call henv rfl Tryd.call24 rfl (p_mul_nil (hst.pat (k := 0) rfl) hz0 (hst.pat (k := 1) rfl) hz1 h00) ?_)
  rintro e w51 ⟨rfl, hb⟩
  refine ⟨_, rfl, ?_⟩
  clear henv a; intro a henv
  replace hst := hst.call hb
  clear hb
  revert a
  refine mA rfl rfl ?_
  refine sA (v := .slice none 0 0) rfl (fun _ henv => rn_extract henv rfl rfl) ?_
  refine sA (v := .int .i64 0) rfl (fun _ henv => rn_extract henv rfl rfl) ?_
  refine aA rfl rfl ?_
  refine aA rfl rfl ?_
  intro a henv
  refine wpList_nil ?_
  refine th_n ?_
  refine wp_seq ?_
  refine region_seq ?_
  revert a
  refine mA rfl rfl ?_
  refine aA rfl rfl ?_
  intro a henv
  refine wpList_nil ?_
  refine th_n ?_
  refine wp_ret ?_
  refine leave henv (res1 Tryd.results21 (RV.tmp henv rfl)) ?_
  have hmu : mulF xs ys = [] := by rw [mulF, hlx, hly, if_pos h00]
  rw [hmu]
  exact ⟨_, rfl, zrown_nil rfl rfl, hst.below⟩
set_option maxRecDepth 100000 in
set_option maxHeartbeats 2000000 in
theorem l20_mul_ok {A0 A1 : Option Addr} {n0 n1 c0 c1 : Nat} {es0 es1 : List NE} {xs ys : List Int} {w0 : World} (h0 : (pfRow fN FN 2 A0 n0 c0 es0).P w0) (hz0 : es0.map zz = xs) (h1 : (pfRow fN FN 2 A1 n1 c1 es1).P w0) (hz1 : es1.map zz = ys) (hk0 : Zk 1000 xs) (hk1 : Zk 1000 ys) (hn0 : n0 ≤ 300) (hn1 : n1 ≤ 300) (h00 : 0 < n0) (h01 : 0 < n1) :
    Calls Tryd.prog 21 #[.slice A0 n0 c0, .slice A1 n1 c1] w0 fun e w' => ∃ v, e = .returned v ∧ ZRowN w0.heap.size w' v (mulF xs ys).length (mulF xs ys) ∧ Below w0.heap.size w0 w' := by
  refine enter Tryd.func21 rfl Tryd.ntmps21 rfl ?_
  intro a henv hst
  have hlx : xs.length = n0 := by rw [← hz0, List.length_map]; exact h0.2.1
  have hly : ys.length = n1 := by rw [← hz1, List.length_map]; exact h1.2.1
  replace hst := (hst.argRow h1).argRow h0
  clear h0 h1
  refine wp_seq ?_
  refine region_seq ?_
  refine sv (v := .slice none 0 0) henv rfl (rn_assign henv rfl) ?_
  clear henv a; intro a henv
  refine wpList_nil ?_
  refine th_n ?_
  refine wp_seq ?_
  refine region_seq ?_
  revert a
  refine mA rfl rfl ?_
  refine mA rfl rfl ?_
  intro a henv
  refine seq_step rfl (op_call henv rfl Tryd.call24 rfl (p_mul (hst.pat (k := 0) rfl) hz0 (hst.pat (k := 1) rfl) hz1 hk0 hk1 h00 h01 hn0 hn1) ?_)
  rintro e w57 ⟨_, rfl, ⟨A51, c52, es53, rfl, hr, hl54, hz55⟩, hb⟩
  refine ⟨_, rfl, ?_⟩
  clear henv a; intro a henv
  replace hst := hst.freshRow hb hr (ap_N hr.2.1 ⟨nou_rowS, trivial⟩)
  clear hr
  clear hb
  revert a
  refine mA rfl rfl ?_
  refine sA (v := .slice A51 (n0 + n1 - 1) c52) rfl (fun _ henv => rn_extract henv rfl rfl) ?_
  refine sA (v := .int .i64 (n0 * n1 : Nat)) rfl (fun _ henv => rn_extract henv rfl rfl) ?_
  refine aA rfl rfl ?_
  refine aA rfl rfl ?_
  intro a henv
  refine wpList_nil ?_
  refine th_n ?_
  refine wp_seq ?_
  refine region_seq ?_
  revert a
  refine mA rfl rfl ?_
  refine aA rfl rfl ?_
  intro a henv
  refine wpList_nil ?_
  refine th_n ?_
  refine wp_ret ?_
  refine leave henv (res1 Tryd.results21 (RV.tmp henv rfl)) ?_
  have heq : mlN xs ys (n0 + n1 - 1) n0 = mulF xs ys := by rw [mulF, hlx, hly, if_neg (by omega)]
  have hle : n0 + n1 - 1 = (mulF xs ys).length := by rw [← heq, mlN_len]
  exact ⟨_, rfl, ⟨_, _, _, congrArg (fun k => Value.slice _ k _) hle, (hle ▸ hst.newRow (k := 0) (j := 0) rfl rfl), hl54.trans hle, hz55.trans heq, fun h => absurd (hle.trans h) (by omega)⟩, hst.below⟩
theorem l20_mul {A0 A1 : Option Addr} {n0 n1 c0 c1 : Nat} {es0 es1 : List NE} {xs ys : List Int} {w0 : World} (h0 : (pfRow fN FN 2 A0 n0 c0 es0).P w0) (hz0 : es0.map zz = xs) (h1 : (pfRow fN FN 2 A1 n1 c1 es1).P w0) (hz1 : es1.map zz = ys) (hk0 : Zk 1000 xs) (hk1 : Zk 1000 ys) (hn0 : n0 ≤ 300) (hn1 : n1 ≤ 300) :
    Calls Tryd.prog 21 #[.slice A0 n0 c0, .slice A1 n1 c1] w0 fun e w' => ∃ v, e = .returned v ∧ ZRowN w0.heap.size w' v (mulF xs ys).length (mulF xs ys) ∧ Below w0.heap.size w0 w' := by
  by_cases h : n0 = 0 ∨ n1 = 0
  · exact l20_mul_nil h0 hz0 h1 hz1 h
  · exact l20_mul_ok h0 hz0 h1 hz1 hk0 hk1 hn0 hn1 (by omega) (by omega)
set_option maxRecDepth 100000 in
set_option maxHeartbeats 4000000 in
theorem p_shift_ok {A0 : Option Addr} {n0 c0 : Nat} {es0 : List NE} {xs : List Int} {n : Nat} {w0 : World} (h0 : (pfRow fN FN 2 A0 n0 c0 es0).P w0) (hz0 : es0.map zz = xs) (hn : n ≤ 4096) (hn0 : n0 ≤ 100000) (hz : 0 < n0) (hq : n + n0 ≠ 0) :
    Calls Tryd.prog 25 #[.slice A0 n0 c0, .int .i64 (n : Nat)] w0 fun e w' => ∃ v, e = .returned (.tuple #[v, .int .i64 0]) ∧ ZRowN w0.heap.size w' v (n + n0) (List.replicate n 0 ++ xs) ∧ Below w0.heap.size w0 w' := by
  refine enter Tryd.func25 rfl Tryd.ntmps25 rfl ?_
  intro a henv hst
  have hlen0 := h0.2.1
  have hbig0 := Nat.le_trans h0.1.cap h0.1.big
  unfold maxLen at hbig0
  replace hst := hst.argRow h0
  clear h0
  have hlx : xs.length = n0 := by rw [← hz0, List.length_map]; exact hlen0
  refine wp_seq ?_
  refine region_seq ?_
  revert a
  refine aA rfl rfl ?_
  refine aA rfl rfl ?_
  intro a henv
  refine wpList_nil ?_
  refine th_n ?_
  refine wp_seq ?_
  refine wp_seq ?_
  refine region_seq ?_
  revert a
  refine mA rfl rfl ?_
  refine sA (v := .bool (decide (((n : Nat) : Int) < (0 : Int)))) rfl (fun _ henv => rn_bin henv rfl rfl rfl) ?_
  intro a henv
  rw [show (decide (((n : Nat) : Int) < (0 : Int))) = false from (decide_eq_false (by omega))] at henv
  refine wpList_nil ?_
  refine th_n ?_
  refine if_f henv rfl (rfl) ?_
  refine wp_skip ?_
  refine th_n ?_
  refine wp_seq ?_
  refine wp_seq ?_
  refine region_seq ?_
  revert a
  refine mA rfl rfl ?_
  refine sA (v := .bool (decide (((n : Nat) : Int) > (4096 : Int)))) rfl (fun _ henv => rn_bin henv rfl rfl rfl) ?_
  intro a henv
  rw [show (decide (((n : Nat) : Int) > (4096 : Int))) = false from (decide_eq_false (by omega))] at henv
  refine wpList_nil ?_
  refine th_n ?_
  refine if_f henv rfl (rfl) ?_
  refine wp_skip ?_
  refine th_n ?_
  refine wp_seq ?_
  refine wp_seq ?_
  refine region_seq ?_
  revert a
  refine mA rfl rfl ?_
  refine mA rfl rfl ?_
  refine sA (v := .int .i64 (n0 : Nat)) rfl (fun _ henv => rn_len henv Tryd.underlying32 rfl) ?_
  refine sA (v := .int .i64 (n + n0 : Nat)) rfl (fun _ henv => rn_add henv rfl rfl (by rw [IntWalk.i64_in _ (by omega)]; omega)) ?_
  refine sA (v := .bool (((n + n0 : Nat) : Int) == (0 : Int))) rfl (fun _ henv => rn_bin henv rfl rfl rfl) ?_
  intro a henv
  rw [show (((n + n0 : Nat) : Int) == (0 : Int)) = false from (beq_eq_false_iff_ne.2 (by omega))] at henv
  refine wpList_nil ?_
  refine th_n ?_
  refine if_f henv rfl (rfl) ?_
  refine wp_skip ?_
  refine th_n ?_
  refine wp_seq ?_
  refine region_seq ?_
  revert a
  refine mA rfl rfl ?_
  refine mA rfl rfl ?_
  refine mA rfl rfl ?_
  refine sA (v := .int .i64 (n0 : Nat)) rfl (fun _ henv => rn_len henv Tryd.underlying32 rfl) ?_
  refine sA (v := .int .i64 (n + n0 : Nat)) rfl (fun _ henv => rn_add henv rfl rfl (by rw [IntWalk.i64_in _ (by omega)]; omega)) ?_
  intro a henv
  refine seq_step rfl (op_makeC (f := fN) (e0 := (none, 0, 0)) (q := notU) (n := n) (m := n + n0) henv hst rfl Tryd.underlying32 inf_anvil_integer_Int rfl rfl fN_zero rfl rfl rfl (by omega) (by omega) (by unfold maxLen; omega) ?_)
  clear henv hst a; intro a w52 g51 henv hst
  replace hst := hst.addNs (es_zeros (n + n0) _) ⟨nou_rowS, trivial⟩
  have hdone := trivial
  replace hst := hst.preOwn (k := 0) rfl List.length_replicate n fN_len (by omega)
  rw [List.take_replicate, Nat.min_eq_left (by omega)] at hst
  replace hst := hst.addNs (es_zeros n _) ⟨nou_rowS, trivial⟩
  replace hst : St w0 _ [rowS notU 28 2 (some ⟨g51, 0, none⟩) n (n + n0) (fl fN (List.replicate n (none, 0, 0)))] [pfEs FN (List.replicate n (none, 0, 0)), pfEs FN (List.replicate (n + n0) (none, 0, 0)), pfRow fN FN 2 A0 n0 c0 es0] := hst
  refine sv (v := .slice A0 n0 c0) henv rfl (rn_move henv rfl) ?_
  clear henv a; intro a henv
  refine seq_step rfl (op_appendR (k := 0) henv hst rfl Tryd.underlying32 inf_anvil_integer_Int rfl rfl rfl rfl rfl (hst.pat (k := 2) rfl).1 (fl_all (fun _ => rfl) _) (fl_all (fun _ => rfl) _) rfl (by omega) (by unfold maxLen; omega) (by omega) ?_)
  clear henv hst a; intro a w55 g53 c54 henv hst
  rw [show fl fN (List.replicate n (none, 0, 0)) ++ fl fN es0 = fl fN ((List.replicate n (none, 0, 0)) ++ es0) from (fl_app (f := fN) (List.replicate n (none, 0, 0)) es0).symm] at hst
  replace hst := hst.rowEs (i := 2) rfl
  replace hst := hst.appEs (i := 1) (j := 0) rfl rfl
  replace hst : St w0 _ [rowS notU 28 2 (some ⟨g53, 0, none⟩) (n + n0) c54 (fl fN ((List.replicate n (none, 0, 0)) ++ es0))] [pfEs FN ((List.replicate n (none, 0, 0)) ++ es0), pfEs FN es0, pfEs FN (List.replicate n (none, 0, 0)), pfEs FN (List.replicate (n + n0) (none, 0, 0)), pfRow fN FN 2 A0 n0 c0 es0] := hst
  revert a
  refine aA rfl rfl ?_
  refine aA rfl rfl ?_
  intro a henv
  refine wpList_nil ?_
  refine th_n ?_
  refine wp_ret ?_
  refine leave henv (res2 Tryd.results25 (RV.tmp henv rfl) (RV.tmp henv rfl)) ?_
  exact ⟨_, rfl, ⟨_, _, ((List.replicate n (none, 0, 0)) ++ es0), rfl, hst.newRow (k := 0) (j := 0) rfl rfl, (by simp; omega), (by rw [List.map_append, List.map_replicate, hz0]), fun h => absurd h hq⟩, hst.below⟩
end Go.Proofs.YtghaenkacjgdnaaDoor.W

/- PolyRing, PolyValues: the laws' walks. Printed by pv/gen_po5.py. No condition. -/
namespace Go.Proofs.YtghaenkacjgdnaaDoor.W
open Go.RowKit Anv Go.Lib
theorem zk_co {k : Nat} {xs : List Int} : Zk k xs ↔ ∀ i, zl (co xs i) ≤ k := by
  constructor
  · intro h i
    rcases Nat.lt_or_ge i xs.length with hi | hi
    · have e : co xs i = xs[i] := by rw [co, List.getD_eq_getElem?_getD, List.getElem?_eq_getElem hi]; rfl
      rw [e]
      exact h _ (List.getElem_mem hi)
    · rw [co_off hi, zl_zero]
      exact Nat.zero_le _
  · intro h z hz
    obtain ⟨i, hi, rfl⟩ := List.getElem_of_mem hz
    have := h i
    rwa [co, List.getD_eq_getElem?_getD, List.getElem?_eq_getElem hi] at this
theorem sg_zl {f : Nat → Int} {d : Nat} (h : ∀ i, zl (f i) ≤ d) : ∀ n, zl (sg f n) ≤ d + n
  | 0 => by rw [sg, zl_zero]; exact Nat.zero_le _
  | n + 1 => by
    rw [sg]
    have := zl_addm (sg f n) (f n)
    have := sg_zl h n
    have := h n
    omega
theorem mul_zk {a b m : Nat} {xs ys : List Int} (h : Zk a xs) (h' : Zk b ys) (hl : xs.length ≤ m) : Zk (a + b + m) (mulF xs ys) := by
  unfold mulF
  by_cases h0 : xs.length = 0 ∨ ys.length = 0
  · rw [if_pos h0]; exact fun _ hz => by cases hz
  · rw [if_neg h0]
    refine zk_co.2 fun k => ?_
    rcases Nat.lt_or_ge k (xs.length + ys.length - 1) with hk | hk
    · rw [co_ml xs ys _ k hk]
      refine Nat.le_trans (sg_zl (d := a + b) (fun t => ?_) _) (by omega)
      by_cases ht : t ≤ k
      · rw [if_pos ht]
        have := zl_mul (co xs t) (co ys (k - t))
        have := zk_co.1 h t
        have := zk_co.1 h' (k - t)
        omega
      · rw [if_neg ht, zl_zero]; exact Nat.zero_le _
    · rw [co_off (by rw [mlN_len]; exact hk), zl_zero]
      exact Nat.zero_le _
theorem mul_len {m k : Nat} {xs ys : List Int} (h : xs.length ≤ m) (h' : ys.length ≤ k) : (mulF xs ys).length ≤ m + k := by
  unfold mulF
  by_cases h0 : xs.length = 0 ∨ ys.length = 0
  · rw [if_pos h0]; exact Nat.zero_le _
  · rw [if_neg h0, mlN_len]; omega
theorem sub_sign0 {x y : Int} (h : x = y) : ((x - y).sign == 0) = true := by rw [h, Int.sub_self]; rfl
theorem zk_zeros {k n : Nat} {xs : List Int} (h : Zk k xs) : Zk k (List.replicate n 0 ++ xs) := fun z hz => by
  rcases List.mem_append.1 hz with hz | hz
  · rw [List.eq_of_mem_replicate hz, zl_zero]; exact Nat.zero_le _
  · exact h z hz
theorem pow16 {A : Option Addr} {c n : Nat} {x : Int} {w : World} (hx : ZIn w A c x) (hI : I16 x) (hn : n ≤ 40) :
    Calls Tryd.prog 41 #[.agg #[.bool (neg x), .slice A (zl x) c], .int .i64 n] w fun r w' => ∃ v, r = .returned (.tuple #[v, .int .i64 0]) ∧ ZAt w' v (x ^ n) ∧ Below w.heap.size w w' := by
  have hl : zl x ≤ 1000 := Nat.le_trans (zl_16 hI) (by decide)
  have hI' : -16 ≤ x ∧ x ≤ 16 := hI
  have hb5 : blen x.natAbs ≤ 5 := blen_le (by omega)
  rcases Nat.eq_zero_or_pos (blen x.natAbs) with h0 | h0
  · have hx0 : x = 0 := by
      have := lt_blen x.natAbs
      rw [h0] at this
      omega
    rcases Nat.eq_zero_or_pos n with hn0 | hn0
    · exact pow_zero_a hx hl (by omega) h0 (by rw [hx0]; rfl) (by rw [hn0]; rfl) (by rw [hn0, Int.pow_zero])
    · exact pow_zero_d hx hl (by omega) h0 (by rw [hx0]; rfl) (beq_eq_false_iff_ne.2 (by omega)) (by rw [hx0]; rfl) (by rw [hx0, zero_pow (by omega)])
  rcases Nat.lt_or_ge 1 (blen x.natAbs) with h1 | h1
  · have hq : (n : Int) ≤ (65536 : Int) / ((blen x.natAbs : Nat) : Int) := by
      rw [Int.le_ediv_iff_mul_le (by omega)]
      have := Nat.mul_le_mul hn hb5
      rw [← Int.natCast_mul]
      omega
    exact pow_big hx hl (by omega) rfl h1 hq fun j hj => Nat.le_trans (zl_p16 hI j) (by omega)
  · have hb1 : blen x.natAbs = 1 := by omega
    have ht := tiny (x := x) (by omega)
    have hs : (x.sign == 0) = false := by
      rcases ht with rfl | rfl | rfl
      · simp [blen] at h0
      · rfl
      · rfl
    rcases Nat.eq_zero_or_pos n with hn0 | hn0
    · exact pow_one_a hx hl (by omega) hb1 hs (by rw [hn0]; rfl) (by rw [hn0, Int.pow_zero])
    · have hne : ((n : Int) == 0) = false := beq_eq_false_iff_ne.2 (by omega)
      rcases ht with rfl | rfl | rfl
      · simp at hs
      · exact pow_one_d hx hl (by omega) hb1 hs hne rfl (one_pow n)
      · rcases Nat.mod_two_eq_zero_or_one n with h2 | h2
        · exact pow_one_b hx hl (by omega) hb1 hs hne rfl (beq_iff_eq.2 (by omega)) (by rw [mone_pow, if_pos h2])
        · exact pow_one_c hx hl (by omega) hb1 hs hne rfl (beq_eq_false_iff_ne.2 (by omega)) (by rw [mone_pow, if_neg (by omega)])
set_option maxRecDepth 100000 in
set_option maxHeartbeats 8000000 in
theorem pvalues_out {A0 A1 : Option Addr} {n0 c0 n1 c1 : Nat} {es0 es1 : List Int} {pa pb : Int} {n : Int} {w0 : World} (h0 : (pfRow fI FI 1 A0 n0 c0 es0).P w0) (hI0 : I64 es0) (h1 : (pfRow fI FI 1 A1 n1 c1 es1).P w0) (hI1 : I64 es1) (hbad : n0 < 1 ∨ n1 < 1 ∨ 40 < n0 ∨ 40 < n1 ∨ ¬ (I16 pa ∧ I16 pb) ∨ n < 0 ∨ 40 < n) :
    Calls Tryd.prog 6 #[.slice A0 n0 c0, .slice A1 n1 c1, .agg #[.int .i64 pa, .int .i64 pb], .int .i64 n] w0 fun e w' => e = .returned (.bool true) ∧ Below w0.heap.size w0 w' := by
  refine enter Tryd.func6 rfl Tryd.ntmps6 rfl ?_
  intro a henv hst
  have hlen0 := h0.2.1
  have hbig0 := Nat.le_trans h0.1.cap h0.1.big
  unfold maxLen at hbig0
  have hlen1 := h1.2.1
  have hbig1 := Nat.le_trans h1.1.cap h1.1.big
  unfold maxLen at hbig1
  replace hst := hst.argRow h0
  replace hst := hst.argRow h1
  clear h0 h1
  have hk0 : Zk 2 es0 := i64_zk hI0
  have hk1 : Zk 2 es1 := i64_zk hI1
  refine wp_seq ?_
  refine region_seq ?_
  refine seq_step rfl (op_box (c := #[.int .i64 pa, .int .i64 pb]) henv hst rfl rfl rfl ?_)
  clear henv hst a; intro a w52 g51 henv hst
  refine sv (v := .bool false) henv rfl (rn_assign henv rfl) ?_
  clear henv a; intro a henv
  refine wpList_nil ?_
  refine th_n ?_
  refine wp_seq ?_
  refine wp_seq ?_
  refine region_seq ?_
  refine seq_step rfl (op_call henv rfl Tryd.call10 rfl p20_works ?_)
  rintro e w53 ⟨rfl, hb⟩
  refine ⟨_, rfl, ?_⟩
  clear henv a; intro a henv
  replace hst := hst.call hb
  clear hb
  refine sv (v := .bool false) henv rfl (rn_un henv rfl rfl) ?_
  clear henv a; intro a henv
  refine wpList_nil ?_
  refine th_n ?_
  refine if_f henv rfl (rfl) ?_
  refine wp_skip ?_
  refine th_n ?_
  refine wp_seq ?_
  refine wp_seq ?_
  refine region_seq ?_
  revert a
  refine mA rfl rfl ?_
  refine sA (v := .int .i64 (n0 : Nat)) rfl (fun _ henv => rn_len henv Tryd.underlying22 rfl) ?_
  refine sA (v := .bool (decide (((n0 : Nat) : Int) < (1 : Int)))) rfl (fun _ henv => rn_bin henv rfl rfl rfl) ?_
  refine mA rfl rfl ?_
  intro a henv
  rcases bool_em (decide (((n0 : Nat) : Int) < (1 : Int))) with hg54 | hg54
  · rw [hg54] at henv
    have hx55 := of_decide_eq_true hg54
    revert a
    refine kA rfl rfl rfl rfl rfl ?_
    refine kA rfl rfl rfl rfl rfl ?_
    refine kA rfl rfl rfl rfl rfl ?_
    refine sA (v := .bool true) rfl (fun _ henv => rn_pick henv rfl rfl) ?_
    refine mA rfl rfl ?_
    refine kA rfl rfl rfl rfl rfl ?_
    refine kA rfl rfl rfl rfl rfl ?_
    refine kA rfl rfl rfl rfl rfl ?_
    refine sA (v := .bool true) rfl (fun _ henv => rn_pick henv rfl rfl) ?_
    refine mA rfl rfl ?_
    refine kA rfl rfl rfl rfl rfl ?_
    refine kA rfl rfl rfl rfl rfl ?_
    refine kA rfl rfl rfl rfl rfl ?_
    refine sA (v := .bool true) rfl (fun _ henv => rn_pick henv rfl rfl) ?_
    refine mA rfl rfl ?_
    refine kA rfl rfl rfl rfl rfl ?_
    refine kA rfl rfl rfl rfl rfl ?_
    refine kA rfl rfl rfl rfl rfl ?_
    refine sA (v := .bool true) rfl (fun _ henv => rn_pick henv rfl rfl) ?_
    refine mA rfl rfl ?_
    refine kA rfl rfl rfl rfl rfl ?_
    refine kA rfl rfl rfl rfl rfl ?_
    refine sA (v := .bool true) rfl (fun _ henv => rn_pick henv rfl rfl) ?_
    refine mA rfl rfl ?_
    refine kA rfl rfl rfl rfl rfl ?_
    refine kA rfl rfl rfl rfl rfl ?_
    refine sA (v := .bool true) rfl (fun _ henv => rn_pick henv rfl rfl) ?_
    intro a henv
    refine wpList_nil ?_
    refine th_n ?_
    refine if_t henv rfl (rfl) ?_
    refine wp_seq ?_
    refine region_seq ?_
    refine sv (v := .bool true) henv rfl (rn_assign henv rfl) ?_
    clear henv a; intro a henv
    refine wpList_nil ?_
    refine th_n ?_
    refine wp_ret ?_
    refine th_r ?_
    refine leave henv (res1 Tryd.results6 (RV.tmp henv rfl)) ?_
    exact ⟨rfl, hst.below⟩
  · rw [hg54] at henv
    have hx56 := of_decide_eq_false hg54
    revert a
    refine gA (v := .slice A1 n1 c1) rfl rfl rfl rfl (fun _ henv => rn_move henv rfl) ?_
    refine gA (v := .int .i64 (n1 : Nat)) rfl rfl rfl rfl (fun _ henv => rn_len henv Tryd.underlying22 rfl) ?_
    refine gA (v := .bool (decide (((n1 : Nat) : Int) < (1 : Int)))) rfl rfl rfl rfl (fun _ henv => rn_bin henv rfl rfl rfl) ?_
    refine sA (v := .bool (decide (((n1 : Nat) : Int) < (1 : Int)))) rfl (fun _ henv => rn_pick henv rfl rfl) ?_
    refine mA rfl rfl ?_
    intro a henv
    rcases bool_em (decide (((n1 : Nat) : Int) < (1 : Int))) with hg57 | hg57
    · rw [hg57] at henv
      have hx58 := of_decide_eq_true hg57
      revert a
      refine kA rfl rfl rfl rfl rfl ?_
      refine kA rfl rfl rfl rfl rfl ?_
      refine kA rfl rfl rfl rfl rfl ?_
      refine sA (v := .bool true) rfl (fun _ henv => rn_pick henv rfl rfl) ?_
      refine mA rfl rfl ?_
      refine kA rfl rfl rfl rfl rfl ?_
      refine kA rfl rfl rfl rfl rfl ?_
      refine kA rfl rfl rfl rfl rfl ?_
      refine sA (v := .bool true) rfl (fun _ henv => rn_pick henv rfl rfl) ?_
      refine mA rfl rfl ?_
      refine kA rfl rfl rfl rfl rfl ?_
      refine kA rfl rfl rfl rfl rfl ?_
      refine kA rfl rfl rfl rfl rfl ?_
      refine sA (v := .bool true) rfl (fun _ henv => rn_pick henv rfl rfl) ?_
      refine mA rfl rfl ?_
      refine kA rfl rfl rfl rfl rfl ?_
      refine kA rfl rfl rfl rfl rfl ?_
      refine sA (v := .bool true) rfl (fun _ henv => rn_pick henv rfl rfl) ?_
      refine mA rfl rfl ?_
      refine kA rfl rfl rfl rfl rfl ?_
      refine kA rfl rfl rfl rfl rfl ?_
      refine sA (v := .bool true) rfl (fun _ henv => rn_pick henv rfl rfl) ?_
      intro a henv
      refine wpList_nil ?_
      refine th_n ?_
      refine if_t henv rfl (rfl) ?_
      refine wp_seq ?_
      refine region_seq ?_
      refine sv (v := .bool true) henv rfl (rn_assign henv rfl) ?_
      clear henv a; intro a henv
      refine wpList_nil ?_
      refine th_n ?_
      refine wp_ret ?_
      refine th_r ?_
      refine leave henv (res1 Tryd.results6 (RV.tmp henv rfl)) ?_
      exact ⟨rfl, hst.below⟩
    · rw [hg57] at henv
      have hx59 := of_decide_eq_false hg57
      revert a
      refine gA (v := .slice A0 n0 c0) rfl rfl rfl rfl (fun _ henv => rn_move henv rfl) ?_
      refine gA (v := .int .i64 (n0 : Nat)) rfl rfl rfl rfl (fun _ henv => rn_len henv Tryd.underlying22 rfl) ?_
      refine gA (v := .bool (decide (((n0 : Nat) : Int) > (40 : Int)))) rfl rfl rfl rfl (fun _ henv => rn_bin henv rfl rfl rfl) ?_
      refine sA (v := .bool (decide (((n0 : Nat) : Int) > (40 : Int)))) rfl (fun _ henv => rn_pick henv rfl rfl) ?_
      refine mA rfl rfl ?_
      intro a henv
      rcases bool_em (decide (((n0 : Nat) : Int) > (40 : Int))) with hg60 | hg60
      · rw [hg60] at henv
        have hx61 := of_decide_eq_true hg60
        revert a
        refine kA rfl rfl rfl rfl rfl ?_
        refine kA rfl rfl rfl rfl rfl ?_
        refine kA rfl rfl rfl rfl rfl ?_
        refine sA (v := .bool true) rfl (fun _ henv => rn_pick henv rfl rfl) ?_
        refine mA rfl rfl ?_
        refine kA rfl rfl rfl rfl rfl ?_
        refine kA rfl rfl rfl rfl rfl ?_
        refine kA rfl rfl rfl rfl rfl ?_
        refine sA (v := .bool true) rfl (fun _ henv => rn_pick henv rfl rfl) ?_
        refine mA rfl rfl ?_
        refine kA rfl rfl rfl rfl rfl ?_
        refine kA rfl rfl rfl rfl rfl ?_
        refine sA (v := .bool true) rfl (fun _ henv => rn_pick henv rfl rfl) ?_
        refine mA rfl rfl ?_
        refine kA rfl rfl rfl rfl rfl ?_
        refine kA rfl rfl rfl rfl rfl ?_
        refine sA (v := .bool true) rfl (fun _ henv => rn_pick henv rfl rfl) ?_
        intro a henv
        refine wpList_nil ?_
        refine th_n ?_
        refine if_t henv rfl (rfl) ?_
        refine wp_seq ?_
        refine region_seq ?_
        refine sv (v := .bool true) henv rfl (rn_assign henv rfl) ?_
        clear henv a; intro a henv
        refine wpList_nil ?_
        refine th_n ?_
        refine wp_ret ?_
        refine th_r ?_
        refine leave henv (res1 Tryd.results6 (RV.tmp henv rfl)) ?_
        exact ⟨rfl, hst.below⟩
      · rw [hg60] at henv
        have hx62 := of_decide_eq_false hg60
        revert a
        refine gA (v := .slice A1 n1 c1) rfl rfl rfl rfl (fun _ henv => rn_move henv rfl) ?_
        refine gA (v := .int .i64 (n1 : Nat)) rfl rfl rfl rfl (fun _ henv => rn_len henv Tryd.underlying22 rfl) ?_
        refine gA (v := .bool (decide (((n1 : Nat) : Int) > (40 : Int)))) rfl rfl rfl rfl (fun _ henv => rn_bin henv rfl rfl rfl) ?_
        refine sA (v := .bool (decide (((n1 : Nat) : Int) > (40 : Int)))) rfl (fun _ henv => rn_pick henv rfl rfl) ?_
        refine mA rfl rfl ?_
        intro a henv
        rcases bool_em (decide (((n1 : Nat) : Int) > (40 : Int))) with hg63 | hg63
        · rw [hg63] at henv
          have hx64 := of_decide_eq_true hg63
          revert a
          refine kA rfl rfl rfl rfl rfl ?_
          refine kA rfl rfl rfl rfl rfl ?_
          refine kA rfl rfl rfl rfl rfl ?_
          refine sA (v := .bool true) rfl (fun _ henv => rn_pick henv rfl rfl) ?_
          refine mA rfl rfl ?_
          refine kA rfl rfl rfl rfl rfl ?_
          refine kA rfl rfl rfl rfl rfl ?_
          refine sA (v := .bool true) rfl (fun _ henv => rn_pick henv rfl rfl) ?_
          refine mA rfl rfl ?_
          refine kA rfl rfl rfl rfl rfl ?_
          refine kA rfl rfl rfl rfl rfl ?_
          refine sA (v := .bool true) rfl (fun _ henv => rn_pick henv rfl rfl) ?_
          intro a henv
          refine wpList_nil ?_
          refine th_n ?_
          refine if_t henv rfl (rfl) ?_
          refine wp_seq ?_
          refine region_seq ?_
          refine sv (v := .bool true) henv rfl (rn_assign henv rfl) ?_
          clear henv a; intro a henv
          refine wpList_nil ?_
          refine th_n ?_
          refine wp_ret ?_
          refine th_r ?_
          refine leave henv (res1 Tryd.results6 (RV.tmp henv rfl)) ?_
          exact ⟨rfl, hst.below⟩
        · rw [hg63] at henv
          have hx65 := of_decide_eq_false hg63
          refine seq_g rfl henv rfl rfl (op_val (v := .agg #[.int .i64 pa, .int .i64 pb]) henv rfl (rn_load0 henv ty_anvil_api_Point rfl (hst.oat (k := 0) rfl) rfl) ?_)
          clear henv a; intro a henv
          refine seq_g rfl henv rfl rfl (op_call henv rfl Tryd.call40 rfl (pt_in (pa := pa) (pb := pb)) ?_)
          rintro e w66 ⟨rfl, hb⟩
          refine ⟨_, rfl, ?_⟩
          clear henv a; intro a henv
          replace hst := hst.call hb
          clear hb
          revert a
          refine gA (v := .bool (!(decide (I16 pa ∧ I16 pb)))) rfl rfl rfl rfl (fun _ henv => rn_un henv rfl rfl) ?_
          refine sA (v := .bool (!(decide (I16 pa ∧ I16 pb)))) rfl (fun _ henv => rn_pick henv rfl rfl) ?_
          refine mA rfl rfl ?_
          intro a henv
          rcases bool_em (!(decide (I16 pa ∧ I16 pb))) with hg67 | hg67
          · rw [hg67] at henv
            have hx68 := of_decide_eq_false (p := (I16 pa ∧ I16 pb)) (bnot_t hg67)
            revert a
            refine kA rfl rfl rfl rfl rfl ?_
            refine kA rfl rfl rfl rfl rfl ?_
            refine sA (v := .bool true) rfl (fun _ henv => rn_pick henv rfl rfl) ?_
            refine mA rfl rfl ?_
            refine kA rfl rfl rfl rfl rfl ?_
            refine kA rfl rfl rfl rfl rfl ?_
            refine sA (v := .bool true) rfl (fun _ henv => rn_pick henv rfl rfl) ?_
            intro a henv
            refine wpList_nil ?_
            refine th_n ?_
            refine if_t henv rfl (rfl) ?_
            refine wp_seq ?_
            refine region_seq ?_
            refine sv (v := .bool true) henv rfl (rn_assign henv rfl) ?_
            clear henv a; intro a henv
            refine wpList_nil ?_
            refine th_n ?_
            refine wp_ret ?_
            refine th_r ?_
            refine leave henv (res1 Tryd.results6 (RV.tmp henv rfl)) ?_
            exact ⟨rfl, hst.below⟩
          · rw [hg67] at henv
            have hx69 := of_decide_eq_true (p := (I16 pa ∧ I16 pb)) (bnot_f hg67)
            revert a
            refine gA (v := .int .i64 n) rfl rfl rfl rfl (fun _ henv => rn_move henv rfl) ?_
            refine gA (v := .bool (decide (n < (0 : Int)))) rfl rfl rfl rfl (fun _ henv => rn_bin henv rfl rfl rfl) ?_
            refine sA (v := .bool (decide (n < (0 : Int)))) rfl (fun _ henv => rn_pick henv rfl rfl) ?_
            refine mA rfl rfl ?_
            intro a henv
            rcases bool_em (decide (n < (0 : Int))) with hg70 | hg70
            · rw [hg70] at henv
              have hx71 := of_decide_eq_true hg70
              revert a
              refine kA rfl rfl rfl rfl rfl ?_
              refine kA rfl rfl rfl rfl rfl ?_
              refine sA (v := .bool true) rfl (fun _ henv => rn_pick henv rfl rfl) ?_
              intro a henv
              refine wpList_nil ?_
              refine th_n ?_
              refine if_t henv rfl (rfl) ?_
              refine wp_seq ?_
              refine region_seq ?_
              refine sv (v := .bool true) henv rfl (rn_assign henv rfl) ?_
              clear henv a; intro a henv
              refine wpList_nil ?_
              refine th_n ?_
              refine wp_ret ?_
              refine th_r ?_
              refine leave henv (res1 Tryd.results6 (RV.tmp henv rfl)) ?_
              exact ⟨rfl, hst.below⟩
            · rw [hg70] at henv
              have hx72 := of_decide_eq_false hg70
              revert a
              refine gA (v := .int .i64 n) rfl rfl rfl rfl (fun _ henv => rn_move henv rfl) ?_
              refine gA (v := .bool (decide (n > (40 : Int)))) rfl rfl rfl rfl (fun _ henv => rn_bin henv rfl rfl rfl) ?_
              refine sA (v := .bool (decide (n > (40 : Int)))) rfl (fun _ henv => rn_pick henv rfl rfl) ?_
              intro a henv
              refine wpList_nil ?_
              refine th_n ?_
              refine if_split henv rfl (fun hc73 => ?_) (fun hc73 => ?_)
              · have hx74 := of_decide_eq_true hc73
                refine wp_seq ?_
                refine region_seq ?_
                refine sv (v := .bool true) henv rfl (rn_assign henv rfl) ?_
                clear henv a; intro a henv
                refine wpList_nil ?_
                refine th_n ?_
                refine wp_ret ?_
                refine th_r ?_
                refine leave henv (res1 Tryd.results6 (RV.tmp henv rfl)) ?_
                exact ⟨rfl, hst.below⟩
              · have hx75 := of_decide_eq_false hc73
                exfalso; unfold I16 at *; omega
set_option maxRecDepth 100000 in
set_option maxHeartbeats 8000000 in
theorem pvalues_ok {A0 A1 : Option Addr} {n0 c0 n1 c1 : Nat} {es0 es1 : List Int} {pa pb : Int} {k : Nat} {w0 : World} (h0 : (pfRow fI FI 1 A0 n0 c0 es0).P w0) (hI0 : I64 es0) (h1 : (pfRow fI FI 1 A1 n1 c1 es1).P w0) (hI1 : I64 es1) (w0_ : 1 ≤ n0) (w1_ : 1 ≤ n1) (w2_ : n0 ≤ 40) (w3_ : n1 ≤ 40) (hI : I16 pa ∧ I16 pb) (w4_ : k ≤ 40) :
    Calls Tryd.prog 6 #[.slice A0 n0 c0, .slice A1 n1 c1, .agg #[.int .i64 pa, .int .i64 pb], .int .i64 (k : Nat)] w0 fun e w' => e = .returned (.bool true) ∧ Below w0.heap.size w0 w' := by
  refine enter Tryd.func6 rfl Tryd.ntmps6 rfl ?_
  intro a henv hst
  have hlen0 := h0.2.1
  have hbig0 := Nat.le_trans h0.1.cap h0.1.big
  unfold maxLen at hbig0
  have hlen1 := h1.2.1
  have hbig1 := Nat.le_trans h1.1.cap h1.1.big
  unfold maxLen at hbig1
  replace hst := hst.argRow h0
  replace hst := hst.argRow h1
  clear h0 h1
  have hk0 : Zk 2 es0 := i64_zk hI0
  have hk1 : Zk 2 es1 := i64_zk hI1
  have hm0 : es0.length ≤ 40 := by omega
  have hm1 : es1.length ≤ 40 := by omega
  have hkT1 : Zk 44 (mulF es0 es1) := mul_zk hk0 hk1 hm0
  have hlT1 : (mulF es0 es1).length ≤ 80 := mul_len hm0 hm1
  have hkS : Zk 2 (List.replicate k 0 ++ es0) := zk_zeros hk0
  have hmS : (List.replicate k 0 ++ es0).length ≤ 80 := by rw [List.length_append, List.length_replicate]; omega
  have hp0 : 0 < n0 := by omega
  have hp1 : 0 < n1 := by omega
  have hpm : 0 < (mulF es0 es1).length := by rw [mulF_len (by omega) (by omega)]; omega
  have hz1 := hval_sz hI.1 hI.2 hk0
  have hz2 := hval_sz hI.1 hI.2 hk1
  have hz3 := zl_p16 hI.1 k
  have ha16 : -16 ≤ pa ∧ pa ≤ 16 := hI.1
  refine wp_seq ?_
  refine region_seq ?_
  refine seq_step rfl (op_box (c := #[.int .i64 pa, .int .i64 pb]) henv hst rfl rfl rfl ?_)
  clear henv hst a; intro a w52 g51 henv hst
  refine sv (v := .bool false) henv rfl (rn_assign henv rfl) ?_
  clear henv a; intro a henv
  refine wpList_nil ?_
  refine th_n ?_
  refine wp_seq ?_
  refine wp_seq ?_
  refine region_seq ?_
  refine seq_step rfl (op_call henv rfl Tryd.call10 rfl p20_works ?_)
  rintro e w53 ⟨rfl, hb⟩
  refine ⟨_, rfl, ?_⟩
  clear henv a; intro a henv
  replace hst := hst.call hb
  clear hb
  refine sv (v := .bool false) henv rfl (rn_un henv rfl rfl) ?_
  clear henv a; intro a henv
  refine wpList_nil ?_
  refine th_n ?_
  refine if_f henv rfl (rfl) ?_
  refine wp_skip ?_
  refine th_n ?_
  refine wp_seq ?_
  refine wp_seq ?_
  refine region_seq ?_
  revert a
  refine mA rfl rfl ?_
  refine sA (v := .int .i64 (n0 : Nat)) rfl (fun _ henv => rn_len henv Tryd.underlying22 rfl) ?_
  refine sA (v := .bool (decide (((n0 : Nat) : Int) < (1 : Int)))) rfl (fun _ henv => rn_bin henv rfl rfl rfl) ?_
  intro a henv
  rw [show (decide (((n0 : Nat) : Int) < (1 : Int))) = false from (decide_eq_false (by omega))] at henv
  revert a
  refine mA rfl rfl ?_
  refine gA (v := .slice A1 n1 c1) rfl rfl rfl rfl (fun _ henv => rn_move henv rfl) ?_
  refine gA (v := .int .i64 (n1 : Nat)) rfl rfl rfl rfl (fun _ henv => rn_len henv Tryd.underlying22 rfl) ?_
  refine gA (v := .bool (decide (((n1 : Nat) : Int) < (1 : Int)))) rfl rfl rfl rfl (fun _ henv => rn_bin henv rfl rfl rfl) ?_
  intro a henv
  rw [show (decide (((n1 : Nat) : Int) < (1 : Int))) = false from (decide_eq_false (by omega))] at henv
  revert a
  refine sA (v := .bool false) rfl (fun _ henv => rn_pick henv rfl rfl) ?_
  refine mA rfl rfl ?_
  refine gA (v := .slice A0 n0 c0) rfl rfl rfl rfl (fun _ henv => rn_move henv rfl) ?_
  refine gA (v := .int .i64 (n0 : Nat)) rfl rfl rfl rfl (fun _ henv => rn_len henv Tryd.underlying22 rfl) ?_
  refine gA (v := .bool (decide (((n0 : Nat) : Int) > (40 : Int)))) rfl rfl rfl rfl (fun _ henv => rn_bin henv rfl rfl rfl) ?_
  intro a henv
  rw [show (decide (((n0 : Nat) : Int) > (40 : Int))) = false from (decide_eq_false (by omega))] at henv
  revert a
  refine sA (v := .bool false) rfl (fun _ henv => rn_pick henv rfl rfl) ?_
  refine mA rfl rfl ?_
  refine gA (v := .slice A1 n1 c1) rfl rfl rfl rfl (fun _ henv => rn_move henv rfl) ?_
  refine gA (v := .int .i64 (n1 : Nat)) rfl rfl rfl rfl (fun _ henv => rn_len henv Tryd.underlying22 rfl) ?_
  refine gA (v := .bool (decide (((n1 : Nat) : Int) > (40 : Int)))) rfl rfl rfl rfl (fun _ henv => rn_bin henv rfl rfl rfl) ?_
  intro a henv
  rw [show (decide (((n1 : Nat) : Int) > (40 : Int))) = false from (decide_eq_false (by omega))] at henv
  revert a
  refine sA (v := .bool false) rfl (fun _ henv => rn_pick henv rfl rfl) ?_
  refine mA rfl rfl ?_
  refine gA (v := .agg #[.int .i64 pa, .int .i64 pb]) rfl rfl rfl rfl (fun _ henv => rn_load0 henv ty_anvil_api_Point rfl (hst.oat (k := 0) rfl) rfl) ?_
  intro a henv
  refine seq_g rfl henv rfl rfl (op_call henv rfl Tryd.call40 rfl (pt_in (pa := pa) (pb := pb)) ?_)
  rintro e w54 ⟨rfl, hb⟩
  refine ⟨_, rfl, ?_⟩
  clear henv a; intro a henv
  replace hst := hst.call hb
  clear hb
  rw [show (decide (I16 pa ∧ I16 pb)) = true from (decide_eq_true hI)] at henv
  revert a
  refine gA (v := .bool false) rfl rfl rfl rfl (fun _ henv => rn_un henv rfl rfl) ?_
  refine sA (v := .bool false) rfl (fun _ henv => rn_pick henv rfl rfl) ?_
  refine mA rfl rfl ?_
  refine gA (v := .int .i64 (k : Nat)) rfl rfl rfl rfl (fun _ henv => rn_move henv rfl) ?_
  refine gA (v := .bool (decide (((k : Nat) : Int) < (0 : Int)))) rfl rfl rfl rfl (fun _ henv => rn_bin henv rfl rfl rfl) ?_
  intro a henv
  rw [show (decide (((k : Nat) : Int) < (0 : Int))) = false from (decide_eq_false (by omega))] at henv
  revert a
  refine sA (v := .bool false) rfl (fun _ henv => rn_pick henv rfl rfl) ?_
  refine mA rfl rfl ?_
  refine gA (v := .int .i64 (k : Nat)) rfl rfl rfl rfl (fun _ henv => rn_move henv rfl) ?_
  refine gA (v := .bool (decide (((k : Nat) : Int) > (40 : Int)))) rfl rfl rfl rfl (fun _ henv => rn_bin henv rfl rfl rfl) ?_
  intro a henv
  rw [show (decide (((k : Nat) : Int) > (40 : Int))) = false from (decide_eq_false (by omega))] at henv
  refine sv (v := .bool false) henv rfl (rn_pick henv rfl rfl) ?_
  clear henv a; intro a henv
  refine wpList_nil ?_
  refine th_n ?_
  refine if_f henv rfl (rfl) ?_
  refine wp_skip ?_
  refine th_n ?_
  refine wp_seq ?_
  refine region_seq ?_
  refine sv (v := .slice A0 n0 c0) henv rfl (rn_move henv rfl) ?_
  clear henv a; intro a henv
  refine seq_step rfl (op_call henv rfl Tryd.call12 rfl (p20_list (es0 := es0) (hst.pat (k := 1) rfl) hI0 (by omega)) ?_)
  rintro e w62 ⟨_, rfl, ⟨g55, ps56, rfl, hr, hl57, hz58⟩, hb⟩
  refine ⟨_, rfl, ?_⟩
  clear henv a; intro a henv
  replace hst := hst.freshRd hb hr hl57 (ap_N hr.2.1 ⟨nou_bk rfl, trivial⟩)
  clear hr
  obtain ⟨es59, hst, hl60, hz61⟩ := hst.listRow (k := 0) (n := n0) rfl hz58 (hlen0)
  clear hb
  refine sv (v := .slice A1 n1 c1) henv rfl (rn_move henv rfl) ?_
  clear henv a; intro a henv
  refine seq_step rfl (op_call henv rfl Tryd.call12 rfl (p20_list (es0 := es1) (hst.pat (k := 2) rfl) hI1 (by omega)) ?_)
  rintro e w70 ⟨_, rfl, ⟨g63, ps64, rfl, hr, hl65, hz66⟩, hb⟩
  refine ⟨_, rfl, ?_⟩
  clear henv a; intro a henv
  replace hst := hst.freshRd hb hr hl65 (ap_N hr.2.1 ⟨nou_bk rfl, trivial⟩)
  clear hr
  obtain ⟨es67, hst, hl68, hz69⟩ := hst.listRow (k := 0) (n := n1) rfl hz66 (hlen1)
  clear hb
  revert a
  refine aA rfl rfl ?_
  refine aA rfl rfl ?_
  intro a henv
  refine wpList_nil ?_
  refine th_n ?_
  refine wp_seq ?_
  refine region_seq ?_
  revert a
  refine mA rfl rfl ?_
  refine sA (v := .agg #[.int .i64 pa, .int .i64 pb]) rfl (fun _ henv => rn_load0 henv ty_anvil_api_Point rfl (hst.oat (k := 0) rfl) rfl) ?_
  intro a henv
  refine seq_step rfl (op_call henv rfl Tryd.call11 rfl (p_at (xs := es0) (hst.pat (k := 2) rfl) hz61 hp0 hI (hk0.mono (by decide)) (by omega)) ?_)
  rintro e w74 ⟨_, rfl, ⟨A71, c72, rfl, hz73⟩, hb⟩
  refine ⟨_, rfl, ?_⟩
  clear henv a; intro a henv
  replace hst := (hst.call hb).addZ hz73 ⟨nou_bk rfl, trivial⟩
  clear hz73
  clear hb
  revert a
  refine mA rfl rfl ?_
  refine sA (v := .agg #[.bool (neg (hval pa pb es0)), .slice A71 (zl (hval pa pb es0)) c72]) rfl (fun _ henv => rn_extract henv rfl rfl) ?_
  refine sA (v := .int .i64 0) rfl (fun _ henv => rn_extract henv rfl rfl) ?_
  intro a henv
  refine seq_step rfl (op_alloc (c := #[.bool (neg 0), .slice none (zl 0) 0]) henv hst rfl zero_anvil_integer_Int zcells ?_)
  clear henv hst a; intro a w76 g75 henv hst
  refine seq_step rfl (op_store (k := 0) (c' := #[.bool (neg (hval pa pb es0)), .slice A71 (zl (hval pa pb es0)) c72]) henv hst (ty_anvil_integer_Int.size) rfl rfl rfl rfl (by simp) rfl rfl ?_)
  clear henv hst a; intro a w77 henv hst
  refine sv (v := .int .i64 0) henv rfl (rn_assign henv rfl) ?_
  clear henv a; intro a henv
  refine wpList_nil ?_
  refine th_n ?_
  refine wp_seq ?_
  refine region_seq ?_
  revert a
  refine mA rfl rfl ?_
  refine sA (v := .agg #[.int .i64 pa, .int .i64 pb]) rfl (fun _ henv => rn_load0 henv ty_anvil_api_Point rfl (hst.oat (k := 1) rfl) rfl) ?_
  intro a henv
  refine seq_step rfl (op_call henv rfl Tryd.call11 rfl (p_at (xs := es1) (hst.pat (k := 1) rfl) hz69 hp1 hI (hk1.mono (by decide)) (by omega)) ?_)
  rintro e w81 ⟨_, rfl, ⟨A78, c79, rfl, hz80⟩, hb⟩
  refine ⟨_, rfl, ?_⟩
  clear henv a; intro a henv
  replace hst := (hst.call hb).addZ hz80 ⟨nou_bk rfl, nou_bk rfl, trivial⟩
  clear hz80
  clear hb
  revert a
  refine mA rfl rfl ?_
  refine sA (v := .agg #[.bool (neg (hval pa pb es1)), .slice A78 (zl (hval pa pb es1)) c79]) rfl (fun _ henv => rn_extract henv rfl rfl) ?_
  refine sA (v := .int .i64 0) rfl (fun _ henv => rn_extract henv rfl rfl) ?_
  intro a henv
  refine seq_step rfl (op_alloc (c := #[.bool (neg 0), .slice none (zl 0) 0]) henv hst rfl zero_anvil_integer_Int zcells ?_)
  clear henv hst a; intro a w83 g82 henv hst
  refine seq_step rfl (op_store (k := 0) (c' := #[.bool (neg (hval pa pb es1)), .slice A78 (zl (hval pa pb es1)) c79]) henv hst (ty_anvil_integer_Int.size) rfl rfl rfl rfl (by simp) rfl rfl ?_)
  clear henv hst a; intro a w84 henv hst
  refine sv (v := .int .i64 0) henv rfl (rn_assign henv rfl) ?_
  clear henv a; intro a henv
  refine wpList_nil ?_
  refine th_n ?_
  refine wp_seq ?_
  refine cut (fun a w => ∃ A86 : Option Addr, ∃ c87 : Nat, ∃ es88 : List NE, ∃ A93 : Option Addr, ∃ c94 : Nat, ∃ g97 : Nat, Env 138 a [(0, .slice A0 n0 c0), (1, .slice A1 n1 c1), (2, .agg #[.int .i64 pa, .int .i64 pb]), (3, .int .i64 (k : Nat)), (6, .pointer (some ⟨g51, 0, none⟩)), (8, .bool false), (23, .bool true), (24, .bool false), (25, .slice A0 n0 c0), (26, .int .i64 (n0 : Nat)), (27, .bool false), (28, .bool false), (29, .slice A1 n1 c1), (30, .int .i64 (n1 : Nat)), (31, .bool false), (32, .bool false), (33, .bool false), (34, .slice A0 n0 c0), (35, .int .i64 (n0 : Nat)), (36, .bool false), (37, .bool false), (38, .bool false), (39, .slice A1 n1 c1), (40, .int .i64 (n1 : Nat)), (41, .bool false), (42, .bool false), (43, .bool false), (44, .agg #[.int .i64 pa, .int .i64 pb]), (45, .bool true), (46, .bool false), (47, .bool false), (48, .bool false), (49, .int .i64 (k : Nat)), (50, .bool false), (51, .bool false), (52, .bool false), (53, .int .i64 (k : Nat)), (54, .bool false), (55, .bool false), (56, .slice A0 n0 c0), (57, .slice (some ⟨g55, 0, none⟩) n0 (n0 + 2)), (58, .slice A1 n1 c1), (59, .slice (some ⟨g63, 0, none⟩) n1 (n1 + 2)), (9, .slice (some ⟨g55, 0, none⟩) n0 (n0 + 2)), (10, .slice (some ⟨g63, 0, none⟩) n1 (n1 + 2)), (61, .slice (some ⟨g55, 0, none⟩) n0 (n0 + 2)), (62, .agg #[.int .i64 pa, .int .i64 pb]), (63, .tuple #[.agg #[.bool (neg (hval pa pb es0)), .slice A71 (zl (hval pa pb es0)) c72], .int .i64 0]), (60, .tuple #[.agg #[.bool (neg (hval pa pb es0)), .slice A71 (zl (hval pa pb es0)) c72], .int .i64 0]), (64, .agg #[.bool (neg (hval pa pb es0)), .slice A71 (zl (hval pa pb es0)) c72]), (65, .int .i64 0), (11, .pointer (some ⟨g75, 0, none⟩)), (12, .int .i64 0), (67, .slice (some ⟨g63, 0, none⟩) n1 (n1 + 2)), (68, .agg #[.int .i64 pa, .int .i64 pb]), (69, .tuple #[.agg #[.bool (neg (hval pa pb es1)), .slice A78 (zl (hval pa pb es1)) c79], .int .i64 0]), (66, .tuple #[.agg #[.bool (neg (hval pa pb es1)), .slice A78 (zl (hval pa pb es1)) c79], .int .i64 0]), (70, .agg #[.bool (neg (hval pa pb es1)), .slice A78 (zl (hval pa pb es1)) c79]), (71, .int .i64 0), (13, .pointer (some ⟨g82, 0, none⟩)), (14, .int .i64 0), (15, .pointer (some ⟨g97, 0, none⟩)), (16, .int .i64 0)] ∧ St w0 w [bk g97 #[.bool (neg (hval pa pb (mulF es0 es1))), .slice A93 (zl (hval pa pb (mulF es0 es1))) c94] 28, bk g82 #[.bool (neg (hval pa pb es1)), .slice A78 (zl (hval pa pb es1)) c79] 28, bk g75 #[.bool (neg (hval pa pb es0)), .slice A71 (zl (hval pa pb es0)) c72] 28, bk g51 #[.int .i64 pa, .int .i64 pb] 24] [pfZ A93 c94 (hval pa pb (mulF es0 es1)), pfRow fN FN 2 A86 ((mulF es0 es1).length) c87 es88, pfZ A78 c79 (hval pa pb es1), pfZ A71 c72 (hval pa pb es0), pfRow fN FN 2 (some ⟨g63, 0, none⟩) n1 (n1 + 2) es67, pfRow fN FN 2 (some ⟨g63, 0, none⟩) (n1 + 2) (n1 + 2) ps64, pfRow fN FN 2 (some ⟨g55, 0, none⟩) n0 (n0 + 2) es59, pfRow fN FN 2 (some ⟨g55, 0, none⟩) (n0 + 2) (n0 + 2) ps56, pfRow fI FI 1 A1 n1 c1 es1, pfRow fI FI 1 A0 n0 c0 es0]) ?_ ?_
  · refine region_any (n := 11) (Sk [bk g82 #[.bool (neg (hval pa pb es1)), .slice A78 (zl (hval pa pb es1)) c79] 28, bk g75 #[.bool (neg (hval pa pb es0)), .slice A71 (zl (hval pa pb es0)) c72] 28, bk g51 #[.int .i64 pa, .int .i64 pb] 24] [pfZ A78 c79 (hval pa pb es1), pfZ A71 c72 (hval pa pb es0), pfRow fN FN 2 (some ⟨g63, 0, none⟩) n1 (n1 + 2) es67, pfRow fN FN 2 (some ⟨g63, 0, none⟩) (n1 + 2) (n1 + 2) ps64, pfRow fN FN 2 (some ⟨g55, 0, none⟩) n0 (n0 + 2) es59, pfRow fN FN 2 (some ⟨g55, 0, none⟩) (n0 + 2) (n0 + 2) ps56, pfRow fI FI 1 A1 n1 c1 es1, pfRow fI FI 1 A0 n0 c0 es0] [9] []) mixed rfl henv hst ?_
    clear henv hst; intro w85 henv hst
    refine tM (i := 0) [2, 4, 5, 6, 7, 9, 10] rfl (by kernel_rfl) (fun _ _ _ h => h) henv rfl rfl ?_
    clear henv a; intro a henv
    refine tM (i := 1) [2, 4, 5, 6, 7, 9, 10] rfl (by kernel_rfl) (fun _ _ _ h => h) henv rfl rfl ?_
    clear henv a; intro a henv
    refine tL (i := 3) 2 2 [4, 5, 6, 7, 9, 10] rfl (by kernel_rfl) (fun _ _ _ h => h) henv rfl ty_anvil_api_Point rfl hst rfl rfl rfl ?_
    clear henv a; intro a henv
    refine sAny_all (rs := [2, 8]) (by kernel_rfl) (by simp) ?_
    simp only [List.forall_mem_cons, List.not_mem_nil, false_implies, implies_true, and_true]
    refine ⟨?_, ?_⟩
    · refine ⟨_, rfl, rfl, op_call henv rfl Tryd.call21 rfl (l20_mul (xs := es0) (ys := es1) (hst.pat (k := 4) rfl) hz61 (hst.pat (k := 2) rfl) hz69 (hk0.mono (by decide)) (hk1.mono (by decide)) (by omega) (by omega)) ?_⟩
      rintro e w92 ⟨_, rfl, ⟨A86, c87, es88, rfl, hr, hl89, hz90, hn91⟩, hb⟩
      refine ⟨_, rfl, ?_⟩
      clear henv a; intro a henv
      replace hst := hst.freshRd hb hr hl89 (ap_N hr.2.1 ⟨nou_bk rfl, nou_bk rfl, nou_bk rfl, trivial⟩)
      clear hr
      clear hb
      refine ⟨.inr ⟨hst.kn.pick [0, 1, 2] (rg 1 8), .inr (hst.kn.pick [] [])⟩, ?_⟩
      refine sAny_all (rs := [4, 8]) (by kernel_rfl) (by simp) ?_
      simp only [List.forall_mem_cons, List.not_mem_nil, false_implies, implies_true, and_true]
      refine ⟨?_, ?_⟩
      · refine ⟨_, rfl, rfl, op_call henv rfl Tryd.call11 rfl (p_at (xs := (mulF es0 es1)) (hst.pat (k := 0) rfl) hz90 hpm hI (hkT1.mono (by decide)) (Nat.le_trans hlT1 (by decide))) ?_⟩
        rintro e w96 ⟨_, rfl, ⟨A93, c94, rfl, hz95⟩, hb⟩
        refine ⟨_, rfl, ?_⟩
        clear henv a; intro a henv
        replace hst := (hst.call hb).addZ hz95 ⟨nou_bk rfl, nou_bk rfl, nou_bk rfl, trivial⟩
        clear hz95
        clear hb
        refine ⟨.inr ⟨hst.kn.pick [0, 1, 2] (rg 2 8), .inr (hst.kn.pick [] [])⟩, ?_⟩
        refine tM (i := 5) [6, 7, 9, 10] rfl (by kernel_rfl) (fun _ _ _ h => h) henv rfl rfl ?_
        clear henv a; intro a henv
        refine tA (i := 6) [9, 10] (v := .agg #[.bool (neg (hval pa pb (mulF es0 es1))), .slice A93 (zl (hval pa pb (mulF es0 es1))) c94]) rfl (by kernel_rfl) (fun _ _ _ h => h) henv rfl (fun _ => rn_extract henv rfl rfl) ?_
        clear henv a; intro a henv
        refine tA (i := 7) [10] (v := .int .i64 0) rfl (by kernel_rfl) (fun _ _ _ h => h) henv rfl (fun _ => rn_extract henv rfl rfl) ?_
        clear henv a; intro a henv
        refine sAny_one (i := 8) (by kernel_rfl) rfl rfl (op_alloc (c := #[.bool (neg 0), .slice none (zl 0) 0]) henv hst rfl zero_anvil_integer_Int zcells ?_)
        clear henv hst a; intro a w98 g97 henv hst
        refine ⟨.inr ⟨hst.kn.pick [1, 2, 3] (rg 2 8), .inr (hst.kn.pick [] [])⟩, ?_⟩
        refine sAny_one (i := 9) (by kernel_rfl) rfl rfl (op_store (k := 0) (c' := #[.bool (neg (hval pa pb (mulF es0 es1))), .slice A93 (zl (hval pa pb (mulF es0 es1))) c94]) henv hst (ty_anvil_integer_Int.size) rfl rfl rfl rfl (by simp) rfl rfl ?_)
        clear henv hst a; intro a w99 henv hst
        refine ⟨.inr ⟨hst.kn.pick [1, 2, 3] (rg 2 8), .inl rfl⟩, ?_⟩
        refine tA (i := 10) [] (v := .int .i64 0) rfl (by kernel_rfl) (fun _ _ _ h => h) henv rfl (fun _ => rn_assign henv rfl) ?_
        clear henv a; intro a henv
        refine sAny_done (by kernel_rfl) ?_ _
        exact th_n ⟨A86, c87, es88, A93, c94, g97, henv.sub ⟨rfl, rfl, rfl, rfl, rfl, rfl, rfl, rfl, rfl, rfl, rfl, rfl, rfl, rfl, rfl, rfl, rfl, rfl, rfl, rfl, rfl, rfl, rfl, rfl, rfl, rfl, rfl, rfl, rfl, rfl, rfl, rfl, rfl, rfl, rfl, rfl, rfl, rfl, rfl, rfl, rfl, rfl, rfl, rfl, rfl, rfl, rfl, rfl, rfl, rfl, rfl, rfl, rfl, rfl, rfl, rfl, rfl, rfl, rfl, rfl, rfl, rfl, rfl, trivial⟩, hst.pick [0, 1, 2, 3] [0, 1, 2, 3, 4, 5, 6, 7, 8, 9] (by decide)⟩
      · refine ⟨_, rfl, rfl, op_alloc (c := #[.bool (neg 0), .slice none (zl 0) 0]) henv hst rfl zero_anvil_integer_Int zcells ?_⟩
        clear henv hst a; intro a w101 g100 henv hst
        refine ⟨.inr ⟨hst.kn.pick [1, 2, 3] (rg 1 8), .inr (hst.kn.pick [] [])⟩, ?_⟩
        refine sAny_one (i := 4) (by kernel_rfl) rfl rfl (op_call henv rfl Tryd.call11 rfl (p_at (xs := (mulF es0 es1)) (hst.pat (k := 0) rfl) hz90 hpm hI (hkT1.mono (by decide)) (Nat.le_trans hlT1 (by decide))) ?_)
        rintro e w105 ⟨_, rfl, ⟨A102, c103, rfl, hz104⟩, hb⟩
        refine ⟨_, rfl, ?_⟩
        clear henv a; intro a henv
        replace hst := (hst.call hb).addZ hz104 ⟨nou_bk rfl, nou_bk rfl, nou_bk rfl, nou_bk rfl, trivial⟩
        clear hz104
        clear hb
        refine ⟨.inr ⟨hst.kn.pick [1, 2, 3] (rg 2 8), .inr (hst.kn.pick [] [])⟩, ?_⟩
        refine tM (i := 5) [6, 7, 9, 10] rfl (by kernel_rfl) (fun _ _ _ h => h) henv rfl rfl ?_
        clear henv a; intro a henv
        refine tA (i := 6) [9, 10] (v := .agg #[.bool (neg (hval pa pb (mulF es0 es1))), .slice A102 (zl (hval pa pb (mulF es0 es1))) c103]) rfl (by kernel_rfl) (fun _ _ _ h => h) henv rfl (fun _ => rn_extract henv rfl rfl) ?_
        clear henv a; intro a henv
        refine tA (i := 7) [10] (v := .int .i64 0) rfl (by kernel_rfl) (fun _ _ _ h => h) henv rfl (fun _ => rn_extract henv rfl rfl) ?_
        clear henv a; intro a henv
        refine sAny_one (i := 9) (by kernel_rfl) rfl rfl (op_store (k := 0) (c' := #[.bool (neg (hval pa pb (mulF es0 es1))), .slice A102 (zl (hval pa pb (mulF es0 es1))) c103]) henv hst (ty_anvil_integer_Int.size) rfl rfl rfl rfl (by simp) rfl rfl ?_)
        clear henv hst a; intro a w106 henv hst
        refine ⟨.inr ⟨hst.kn.pick [1, 2, 3] (rg 2 8), .inl rfl⟩, ?_⟩
        refine tA (i := 10) [] (v := .int .i64 0) rfl (by kernel_rfl) (fun _ _ _ h => h) henv rfl (fun _ => rn_assign henv rfl) ?_
        clear henv a; intro a henv
        refine sAny_done (by kernel_rfl) ?_ _
        exact th_n ⟨A86, c87, es88, A102, c103, g100, henv.sub ⟨rfl, rfl, rfl, rfl, rfl, rfl, rfl, rfl, rfl, rfl, rfl, rfl, rfl, rfl, rfl, rfl, rfl, rfl, rfl, rfl, rfl, rfl, rfl, rfl, rfl, rfl, rfl, rfl, rfl, rfl, rfl, rfl, rfl, rfl, rfl, rfl, rfl, rfl, rfl, rfl, rfl, rfl, rfl, rfl, rfl, rfl, rfl, rfl, rfl, rfl, rfl, rfl, rfl, rfl, rfl, rfl, rfl, rfl, rfl, rfl, rfl, rfl, rfl, trivial⟩, hst.pick [0, 1, 2, 3] [0, 1, 2, 3, 4, 5, 6, 7, 8, 9] (by decide)⟩
    · refine ⟨_, rfl, rfl, op_alloc (c := #[.bool (neg 0), .slice none (zl 0) 0]) henv hst rfl zero_anvil_integer_Int zcells ?_⟩
      clear henv hst a; intro a w108 g107 henv hst
      refine ⟨.inr ⟨hst.kn.pick [1, 2, 3] (rg 0 8), .inr (hst.kn.pick [] [])⟩, ?_⟩
      refine sAny_one (i := 2) (by kernel_rfl) rfl rfl (op_call henv rfl Tryd.call21 rfl (l20_mul (xs := es0) (ys := es1) (hst.pat (k := 4) rfl) hz61 (hst.pat (k := 2) rfl) hz69 (hk0.mono (by decide)) (hk1.mono (by decide)) (by omega) (by omega)) ?_)
      rintro e w115 ⟨_, rfl, ⟨A109, c110, es111, rfl, hr, hl112, hz113, hn114⟩, hb⟩
      refine ⟨_, rfl, ?_⟩
      clear henv a; intro a henv
      replace hst := hst.freshRd hb hr hl112 (ap_N hr.2.1 ⟨nou_bk rfl, nou_bk rfl, nou_bk rfl, nou_bk rfl, trivial⟩)
      clear hr
      clear hb
      refine ⟨.inr ⟨hst.kn.pick [1, 2, 3] (rg 1 8), .inr (hst.kn.pick [] [])⟩, ?_⟩
      refine sAny_one (i := 4) (by kernel_rfl) rfl rfl (op_call henv rfl Tryd.call11 rfl (p_at (xs := (mulF es0 es1)) (hst.pat (k := 0) rfl) hz113 hpm hI (hkT1.mono (by decide)) (Nat.le_trans hlT1 (by decide))) ?_)
      rintro e w119 ⟨_, rfl, ⟨A116, c117, rfl, hz118⟩, hb⟩
      refine ⟨_, rfl, ?_⟩
      clear henv a; intro a henv
      replace hst := (hst.call hb).addZ hz118 ⟨nou_bk rfl, nou_bk rfl, nou_bk rfl, nou_bk rfl, trivial⟩
      clear hz118
      clear hb
      refine ⟨.inr ⟨hst.kn.pick [1, 2, 3] (rg 2 8), .inr (hst.kn.pick [] [])⟩, ?_⟩
      refine tM (i := 5) [6, 7, 9, 10] rfl (by kernel_rfl) (fun _ _ _ h => h) henv rfl rfl ?_
      clear henv a; intro a henv
      refine tA (i := 6) [9, 10] (v := .agg #[.bool (neg (hval pa pb (mulF es0 es1))), .slice A116 (zl (hval pa pb (mulF es0 es1))) c117]) rfl (by kernel_rfl) (fun _ _ _ h => h) henv rfl (fun _ => rn_extract henv rfl rfl) ?_
      clear henv a; intro a henv
      refine tA (i := 7) [10] (v := .int .i64 0) rfl (by kernel_rfl) (fun _ _ _ h => h) henv rfl (fun _ => rn_extract henv rfl rfl) ?_
      clear henv a; intro a henv
      refine sAny_one (i := 9) (by kernel_rfl) rfl rfl (op_store (k := 0) (c' := #[.bool (neg (hval pa pb (mulF es0 es1))), .slice A116 (zl (hval pa pb (mulF es0 es1))) c117]) henv hst (ty_anvil_integer_Int.size) rfl rfl rfl rfl (by simp) rfl rfl ?_)
      clear henv hst a; intro a w120 henv hst
      refine ⟨.inr ⟨hst.kn.pick [1, 2, 3] (rg 2 8), .inl rfl⟩, ?_⟩
      refine tA (i := 10) [] (v := .int .i64 0) rfl (by kernel_rfl) (fun _ _ _ h => h) henv rfl (fun _ => rn_assign henv rfl) ?_
      clear henv a; intro a henv
      refine sAny_done (by kernel_rfl) ?_ _
      exact th_n ⟨A109, c110, es111, A116, c117, g107, henv.sub ⟨rfl, rfl, rfl, rfl, rfl, rfl, rfl, rfl, rfl, rfl, rfl, rfl, rfl, rfl, rfl, rfl, rfl, rfl, rfl, rfl, rfl, rfl, rfl, rfl, rfl, rfl, rfl, rfl, rfl, rfl, rfl, rfl, rfl, rfl, rfl, rfl, rfl, rfl, rfl, rfl, rfl, rfl, rfl, rfl, rfl, rfl, rfl, rfl, rfl, rfl, rfl, rfl, rfl, rfl, rfl, rfl, rfl, rfl, rfl, rfl, rfl, rfl, rfl, trivial⟩, hst.pick [0, 1, 2, 3] [0, 1, 2, 3, 4, 5, 6, 7, 8, 9] (by decide)⟩
  clear henv hst a
  rintro a w121 ⟨A86, c87, es88, A93, c94, g97, henv, hst⟩
  refine wp_seq ?_
  refine region_seq ?_
  revert a
  refine mA rfl rfl ?_
  refine mA rfl rfl ?_
  intro a henv
  refine seq_step rfl (op_call henv rfl Tryd.call25 rfl (p_shift_ok (n := k) (hst.pat (k := 6) rfl) hz61 (by omega) (by omega) (by omega) (by omega)) ?_)
  rintro e w128 ⟨_, rfl, ⟨A122, c123, es124, rfl, hr, hl125, hz126, hn127⟩, hb⟩
  refine ⟨_, rfl, ?_⟩
  clear henv a; intro a henv
  replace hst := hst.freshRd hb hr hl125 (ap_N hr.2.1 ⟨nou_bk rfl, nou_bk rfl, nou_bk rfl, nou_bk rfl, trivial⟩)
  clear hr
  clear hb
  revert a
  refine mA rfl rfl ?_
  refine sA (v := .slice A122 (k + n0) c123) rfl (fun _ henv => rn_extract henv rfl rfl) ?_
  refine sA (v := .int .i64 0) rfl (fun _ henv => rn_extract henv rfl rfl) ?_
  refine aA rfl rfl ?_
  refine aA rfl rfl ?_
  intro a henv
  refine wpList_nil ?_
  refine th_n ?_
  refine wp_seq ?_
  refine region_seq ?_
  revert a
  refine mA rfl rfl ?_
  refine sA (v := .agg #[.int .i64 pa, .int .i64 pb]) rfl (fun _ henv => rn_load0 henv ty_anvil_api_Point rfl (hst.oat (k := 3) rfl) rfl) ?_
  intro a henv
  refine seq_step rfl (op_call henv rfl Tryd.call11 rfl (p_at (xs := (List.replicate k 0 ++ es0)) (hst.pat (k := 0) rfl) hz126 (by omega) hI (hkS.mono (by decide)) (by omega)) ?_)
  rintro e w132 ⟨_, rfl, ⟨A129, c130, rfl, hz131⟩, hb⟩
  refine ⟨_, rfl, ?_⟩
  clear henv a; intro a henv
  replace hst := (hst.call hb).addZ hz131 ⟨nou_bk rfl, nou_bk rfl, nou_bk rfl, nou_bk rfl, trivial⟩
  clear hz131
  clear hb
  revert a
  refine mA rfl rfl ?_
  refine sA (v := .agg #[.bool (neg (hval pa pb (List.replicate k 0 ++ es0))), .slice A129 (zl (hval pa pb (List.replicate k 0 ++ es0))) c130]) rfl (fun _ henv => rn_extract henv rfl rfl) ?_
  refine sA (v := .int .i64 0) rfl (fun _ henv => rn_extract henv rfl rfl) ?_
  intro a henv
  refine seq_step rfl (op_alloc (c := #[.bool (neg 0), .slice none (zl 0) 0]) henv hst rfl zero_anvil_integer_Int zcells ?_)
  clear henv hst a; intro a w134 g133 henv hst
  refine seq_step rfl (op_store (k := 0) (c' := #[.bool (neg (hval pa pb (List.replicate k 0 ++ es0))), .slice A129 (zl (hval pa pb (List.replicate k 0 ++ es0))) c130]) henv hst (ty_anvil_integer_Int.size) rfl rfl rfl rfl (by simp) rfl rfl ?_)
  clear henv hst a; intro a w135 henv hst
  refine sv (v := .int .i64 0) henv rfl (rn_assign henv rfl) ?_
  clear henv a; intro a henv
  refine wpList_nil ?_
  refine th_n ?_
  refine wp_seq ?_
  refine region_seq ?_
  revert a
  refine sA (v := .pointer (some ⟨g51, 0, none⟩)) rfl (fun _ henv => rn_fieldAddr henv fd_anvil_api_Point_0 (ty_int.size) (by decide) rfl) ?_
  refine sA (v := .int .i64 pa) rfl (fun _ henv => rn_load1 henv ty_int rfl (hst.oat (k := 4) rfl) rfl) ?_
  intro a henv
  refine seq_step rfl (op_call henv rfl Tryd.call34 rfl (of_z (n := pa) (by omega) (by omega)) ?_)
  rintro e w139 ⟨_, rfl, ⟨A136, c137, rfl, hz138⟩, hb⟩
  refine ⟨_, rfl, ?_⟩
  clear henv a; intro a henv
  replace hst := (hst.call hb).addZ hz138 ⟨nou_bk rfl, nou_bk rfl, nou_bk rfl, nou_bk rfl, nou_bk rfl, trivial⟩
  clear hz138
  clear hb
  refine sv (v := .int .i64 (k : Nat)) henv rfl (rn_move henv rfl) ?_
  clear henv a; intro a henv
  refine seq_step rfl (op_call henv rfl Tryd.call41 rfl (pow16 (n := k) (show ZIn _ A136 c137 pa from hst.pat (k := 0) rfl) hI.1 (by omega)) ?_)
  rintro e w143 ⟨_, rfl, ⟨A140, c141, rfl, hz142⟩, hb⟩
  refine ⟨_, rfl, ?_⟩
  clear henv a; intro a henv
  replace hst := (hst.call hb).addZ hz142 ⟨nou_bk rfl, nou_bk rfl, nou_bk rfl, nou_bk rfl, nou_bk rfl, trivial⟩
  clear hz142
  clear hb
  revert a
  refine mA rfl rfl ?_
  refine sA (v := .agg #[.bool (neg (pa ^ k)), .slice A140 (zl (pa ^ k)) c141]) rfl (fun _ henv => rn_extract henv rfl rfl) ?_
  refine sA (v := .int .i64 0) rfl (fun _ henv => rn_extract henv rfl rfl) ?_
  intro a henv
  refine seq_step rfl (op_alloc (c := #[.bool (neg 0), .slice none (zl 0) 0]) henv hst rfl zero_anvil_integer_Int zcells ?_)
  clear henv hst a; intro a w145 g144 henv hst
  refine seq_step rfl (op_store (k := 0) (c' := #[.bool (neg (pa ^ k)), .slice A140 (zl (pa ^ k)) c141]) henv hst (ty_anvil_integer_Int.size) rfl rfl rfl rfl (by simp) rfl rfl ?_)
  clear henv hst a; intro a w146 henv hst
  refine sv (v := .int .i64 0) henv rfl (rn_assign henv rfl) ?_
  clear henv a; intro a henv
  refine wpList_nil ?_
  refine th_n ?_
  refine wp_seq ?_
  refine region_any (n := 39) (Sk [bk g144 #[.bool (neg (pa ^ k)), .slice A140 (zl (pa ^ k)) c141] 28, bk g133 #[.bool (neg (hval pa pb (List.replicate k 0 ++ es0))), .slice A129 (zl (hval pa pb (List.replicate k 0 ++ es0))) c130] 28, bk g97 #[.bool (neg (hval pa pb (mulF es0 es1))), .slice A93 (zl (hval pa pb (mulF es0 es1))) c94] 28, bk g82 #[.bool (neg (hval pa pb es1)), .slice A78 (zl (hval pa pb es1)) c79] 28, bk g75 #[.bool (neg (hval pa pb es0)), .slice A71 (zl (hval pa pb es0)) c72] 28, bk g51 #[.int .i64 pa, .int .i64 pb] 24] [pfZ A140 c141 (pa ^ k), pfZ A136 c137 pa, pfZ A129 c130 (hval pa pb (List.replicate k 0 ++ es0)), pfRow fN FN 2 A122 (k + n0) c123 es124, pfZ A93 c94 (hval pa pb (mulF es0 es1)), pfRow fN FN 2 A86 ((mulF es0 es1).length) c87 es88, pfZ A78 c79 (hval pa pb es1), pfZ A71 c72 (hval pa pb es0), pfRow fN FN 2 (some ⟨g63, 0, none⟩) n1 (n1 + 2) es67, pfRow fN FN 2 (some ⟨g63, 0, none⟩) (n1 + 2) (n1 + 2) ps64, pfRow fN FN 2 (some ⟨g55, 0, none⟩) n0 (n0 + 2) es59, pfRow fN FN 2 (some ⟨g55, 0, none⟩) (n0 + 2) (n0 + 2) ps56, pfRow fI FI 1 A1 n1 c1 es1, pfRow fI FI 1 A0 n0 c0 es0] [] []) mixed rfl henv hst ?_
  clear henv hst; intro w147 henv hst
  refine tM (i := 0) (rg 1 38) rfl (by kernel_rfl) (fun _ _ _ h => h) henv rfl rfl ?_
  clear henv a; intro a henv
  refine tA (i := 1) (rg 2 37) (v := .bool true) rfl (by kernel_rfl) (fun _ _ _ h => h) henv rfl (fun _ => rn_bin henv rfl rfl rfl) ?_
  clear henv a; intro a henv
  refine tM (i := 2) (rg 3 36) rfl (by kernel_rfl) (fun _ _ _ h => h) henv rfl rfl ?_
  clear henv a; intro a henv
  refine tAg (i := 3) (rg 4 35) (v := .int .i64 0) rfl (by kernel_rfl) (fun _ _ _ h => h) henv rfl rfl rfl rfl (fun _ => rn_move henv rfl) ?_
  clear henv a; intro a henv
  refine tAg (i := 4) (rg 5 34) (v := .bool true) rfl (by kernel_rfl) (fun _ _ _ h => h) henv rfl rfl rfl rfl (fun _ => rn_bin henv rfl rfl rfl) ?_
  clear henv a; intro a henv
  refine tA (i := 5) (rg 6 33) (v := .bool true) rfl (by kernel_rfl) (fun _ _ _ h => h) henv rfl (fun _ => rn_pick henv rfl rfl) ?_
  clear henv a; intro a henv
  refine tM (i := 6) (rg 7 32) rfl (by kernel_rfl) (fun _ _ _ h => h) henv rfl rfl ?_
  clear henv a; intro a henv
  refine tAg (i := 7) (rg 8 31) (v := .int .i64 0) rfl (by kernel_rfl) (fun _ _ _ h => h) henv rfl rfl rfl rfl (fun _ => rn_move henv rfl) ?_
  clear henv a; intro a henv
  refine tAg (i := 8) (rg 9 30) (v := .bool true) rfl (by kernel_rfl) (fun _ _ _ h => h) henv rfl rfl rfl rfl (fun _ => rn_bin henv rfl rfl rfl) ?_
  clear henv a; intro a henv
  refine tA (i := 9) (rg 10 29) (v := .bool true) rfl (by kernel_rfl) (fun _ _ _ h => h) henv rfl (fun _ => rn_pick henv rfl rfl) ?_
  clear henv a; intro a henv
  refine tM (i := 10) (rg 11 28) rfl (by kernel_rfl) (fun _ _ _ h => h) henv rfl rfl ?_
  clear henv a; intro a henv
  refine tAg (i := 11) (rg 12 27) (v := .int .i64 0) rfl (by kernel_rfl) (fun _ _ _ h => h) henv rfl rfl rfl rfl (fun _ => rn_move henv rfl) ?_
  clear henv a; intro a henv
  refine tAg (i := 12) (rg 13 26) (v := .bool true) rfl (by kernel_rfl) (fun _ _ _ h => h) henv rfl rfl rfl rfl (fun _ => rn_bin henv rfl rfl rfl) ?_
  clear henv a; intro a henv
  refine tA (i := 13) (rg 14 25) (v := .bool true) rfl (by kernel_rfl) (fun _ _ _ h => h) henv rfl (fun _ => rn_pick henv rfl rfl) ?_
  clear henv a; intro a henv
  refine tM (i := 14) (rg 15 24) rfl (by kernel_rfl) (fun _ _ _ h => h) henv rfl rfl ?_
  clear henv a; intro a henv
  refine tAg (i := 15) (rg 16 23) (v := .int .i64 0) rfl (by kernel_rfl) (fun _ _ _ h => h) henv rfl rfl rfl rfl (fun _ => rn_move henv rfl) ?_
  clear henv a; intro a henv
  refine tAg (i := 16) (rg 17 22) (v := .bool true) rfl (by kernel_rfl) (fun _ _ _ h => h) henv rfl rfl rfl rfl (fun _ => rn_bin henv rfl rfl rfl) ?_
  clear henv a; intro a henv
  refine tA (i := 17) (rg 18 21) (v := .bool true) rfl (by kernel_rfl) (fun _ _ _ h => h) henv rfl (fun _ => rn_pick henv rfl rfl) ?_
  clear henv a; intro a henv
  refine tM (i := 18) (rg 19 20) rfl (by kernel_rfl) (fun _ _ _ h => h) henv rfl rfl ?_
  clear henv a; intro a henv
  refine tAg (i := 19) (rg 20 19) (v := .int .i64 0) rfl (by kernel_rfl) (fun _ _ _ h => h) henv rfl rfl rfl rfl (fun _ => rn_move henv rfl) ?_
  clear henv a; intro a henv
  refine tAg (i := 20) (rg 21 18) (v := .bool true) rfl (by kernel_rfl) (fun _ _ _ h => h) henv rfl rfl rfl rfl (fun _ => rn_bin henv rfl rfl rfl) ?_
  clear henv a; intro a henv
  refine tA (i := 21) (rg 22 17) (v := .bool true) rfl (by kernel_rfl) (fun _ _ _ h => h) henv rfl (fun _ => rn_pick henv rfl rfl) ?_
  clear henv a; intro a henv
  refine tM (i := 22) (rg 23 16) rfl (by kernel_rfl) (fun _ _ _ h => h) henv rfl rfl ?_
  clear henv a; intro a henv
  refine tLg (i := 23) 2 2 (rg 27 12) rfl (by kernel_rfl) (fun _ _ _ h => h) henv rfl rfl rfl rfl ty_anvil_integer_Int rfl hst rfl rfl rfl ?_
  clear henv a; intro a henv
  refine tLg (i := 24) 4 4 (rg 26 13) rfl (by kernel_rfl) (fun _ _ _ h => h) henv rfl rfl rfl rfl ty_anvil_integer_Int rfl hst rfl rfl rfl ?_
  clear henv a; intro a henv
  refine tLg (i := 25) 3 3 (rg 26 13) rfl (by kernel_rfl) (fun _ _ _ h => h) henv rfl rfl rfl rfl ty_anvil_integer_Int rfl hst rfl rfl rfl ?_
  clear henv a; intro a henv
  have hs148 := zl_mul (hval pa pb es0) (hval pa pb es1)
  refine sAny_oneg (i := 26) (by kernel_rfl) rfl rfl henv rfl rfl rfl (op_call henv rfl Tryd.call43 rfl (mul_z (x := (hval pa pb es0)) (y := (hval pa pb es1)) (show ZIn _ A71 c72 (hval pa pb es0) from hst.pat (k := 7) rfl) (show ZIn _ A78 c79 (hval pa pb es1) from hst.pat (k := 6) rfl) (by omega) (by omega)) ?_)
  rintro e w152 ⟨_, rfl, ⟨A149, c150, rfl, hz151⟩, hb⟩
  refine ⟨_, rfl, ?_⟩
  clear henv a; intro a henv
  replace hst := (hst.call hb).addZ hz151 ⟨nou_bk rfl, nou_bk rfl, nou_bk rfl, nou_bk rfl, nou_bk rfl, nou_bk rfl, trivial⟩
  clear hz151
  clear hb
  refine ⟨.inr ⟨hst.kn.pick (rg 0 6) (rg 1 14), .inr (hst.kn.pick [] [])⟩, ?_⟩
  refine sAny_oneg (i := 27) (by kernel_rfl) rfl rfl henv rfl rfl rfl (op_call henv rfl Tryd.call42 rfl (cmp_z (x := (hval pa pb (mulF es0 es1))) (y := (hval pa pb es0) * (hval pa pb es1)) (show ZIn _ A93 c94 (hval pa pb (mulF es0 es1)) from hst.pat (k := 5) rfl) (show ZIn _ A149 c150 ((hval pa pb es0) * (hval pa pb es1)) from hst.pat (k := 0) rfl)) ?_)
  rintro e w153 ⟨rfl, hb⟩
  refine ⟨_, rfl, ?_⟩
  clear henv a; intro a henv
  replace hst := hst.call hb
  clear hb
  refine ⟨.inr ⟨hst.kn.pick (rg 0 6) (rg 1 14), .inr (hst.kn.pick [] [])⟩, ?_⟩
  refine tAg (i := 28) (rg 29 10) (v := .bool (((hval pa pb (mulF es0 es1)) - ((hval pa pb es0) * (hval pa pb es1))).sign == (0 : Int))) rfl (by kernel_rfl) (fun _ _ _ h => h) henv rfl rfl rfl rfl (fun _ => rn_bin henv rfl rfl rfl) ?_
  clear henv a; intro a henv
  rw [show (((hval pa pb (mulF es0 es1)) - ((hval pa pb es0) * (hval pa pb es1))).sign == (0 : Int)) = true from (sub_sign0 (hv_mul pa pb (by omega) (by omega)))] at henv
  refine tA (i := 29) (rg 30 9) (v := .bool true) rfl (by kernel_rfl) (fun _ _ _ h => h) henv rfl (fun _ => rn_pick henv rfl rfl) ?_
  clear henv a; intro a henv
  refine tM (i := 30) (rg 31 8) rfl (by kernel_rfl) (fun _ _ _ h => h) henv rfl rfl ?_
  clear henv a; intro a henv
  refine tLg (i := 31) 1 1 (rg 35 4) rfl (by kernel_rfl) (fun _ _ _ h => h) henv rfl rfl rfl rfl ty_anvil_integer_Int rfl hst rfl rfl rfl ?_
  clear henv a; intro a henv
  refine tLg (i := 32) 4 4 (rg 34 5) rfl (by kernel_rfl) (fun _ _ _ h => h) henv rfl rfl rfl rfl ty_anvil_integer_Int rfl hst rfl rfl rfl ?_
  clear henv a; intro a henv
  refine tLg (i := 33) 0 0 (rg 34 5) rfl (by kernel_rfl) (fun _ _ _ h => h) henv rfl rfl rfl rfl ty_anvil_integer_Int rfl hst rfl rfl rfl ?_
  clear henv a; intro a henv
  have hs154 := zl_mul (hval pa pb es0) (pa ^ k)
  refine sAny_oneg (i := 34) (by kernel_rfl) rfl rfl henv rfl rfl rfl (op_call henv rfl Tryd.call43 rfl (mul_z (x := (hval pa pb es0)) (y := (pa ^ k)) (show ZIn _ A71 c72 (hval pa pb es0) from hst.pat (k := 8) rfl) (show ZIn _ A140 c141 (pa ^ k) from hst.pat (k := 1) rfl) (by omega) (by omega)) ?_)
  rintro e w158 ⟨_, rfl, ⟨A155, c156, rfl, hz157⟩, hb⟩
  refine ⟨_, rfl, ?_⟩
  clear henv a; intro a henv
  replace hst := (hst.call hb).addZ hz157 ⟨nou_bk rfl, nou_bk rfl, nou_bk rfl, nou_bk rfl, nou_bk rfl, nou_bk rfl, trivial⟩
  clear hz157
  clear hb
  refine ⟨.inr ⟨hst.kn.pick (rg 0 6) (rg 2 14), .inr (hst.kn.pick [] [])⟩, ?_⟩
  refine sAny_oneg (i := 35) (by kernel_rfl) rfl rfl henv rfl rfl rfl (op_call henv rfl Tryd.call42 rfl (cmp_z (x := (hval pa pb (List.replicate k 0 ++ es0))) (y := (hval pa pb es0) * (pa ^ k)) (show ZIn _ A129 c130 (hval pa pb (List.replicate k 0 ++ es0)) from hst.pat (k := 4) rfl) (show ZIn _ A155 c156 ((hval pa pb es0) * (pa ^ k)) from hst.pat (k := 0) rfl)) ?_)
  rintro e w159 ⟨rfl, hb⟩
  refine ⟨_, rfl, ?_⟩
  clear henv a; intro a henv
  replace hst := hst.call hb
  clear hb
  refine ⟨.inr ⟨hst.kn.pick (rg 0 6) (rg 2 14), .inr (hst.kn.pick [] [])⟩, ?_⟩
  refine tAg (i := 36) [37, 38] (v := .bool (((hval pa pb (List.replicate k 0 ++ es0)) - ((hval pa pb es0) * (pa ^ k))).sign == (0 : Int))) rfl (by kernel_rfl) (fun _ _ _ h => h) henv rfl rfl rfl rfl (fun _ => rn_bin henv rfl rfl rfl) ?_
  clear henv a; intro a henv
  rw [show (((hval pa pb (List.replicate k 0 ++ es0)) - ((hval pa pb es0) * (pa ^ k))).sign == (0 : Int)) = true from (sub_sign0 (hv_shift pa pb es0 k))] at henv
  refine tA (i := 37) [38] (v := .bool true) rfl (by kernel_rfl) (fun _ _ _ h => h) henv rfl (fun _ => rn_pick henv rfl rfl) ?_
  clear henv a; intro a henv
  refine tA (i := 38) [] (v := .bool true) rfl (by kernel_rfl) (fun _ _ _ h => h) henv rfl (fun _ => rn_assign henv rfl) ?_
  clear henv a; intro a henv
  refine sAny_done (by kernel_rfl) ?_ _
  refine th_n ?_
  refine wp_ret ?_
  refine leave henv (res1 Tryd.results6 (RV.tmp henv rfl)) ?_
  exact ⟨rfl, hst.below⟩
theorem pvalues_law {A0 A1 : Option Addr} {n0 c0 n1 c1 : Nat} {es0 es1 : List Int} {pa pb : Int} {n : Int} {w0 : World} (h0 : (pfRow fI FI 1 A0 n0 c0 es0).P w0) (hI0 : I64 es0) (h1 : (pfRow fI FI 1 A1 n1 c1 es1).P w0) (hI1 : I64 es1) :
    Calls Tryd.prog 6 #[.slice A0 n0 c0, .slice A1 n1 c1, .agg #[.int .i64 pa, .int .i64 pb], .int .i64 n] w0 fun e w' => e = .returned (.bool true) ∧ Below w0.heap.size w0 w' := by
  by_cases h : n0 < 1 ∨ n1 < 1 ∨ 40 < n0 ∨ 40 < n1 ∨ ¬ (I16 pa ∧ I16 pb) ∨ n < 0 ∨ 40 < n
  · exact pvalues_out h0 hI0 h1 hI1 h
  · have hI : I16 pa ∧ I16 pb := Decidable.of_not_not fun q => h (.inr (.inr (.inr (.inr (.inl q)))))
    obtain ⟨k, rfl⟩ := Int.eq_ofNat_of_zero_le (show 0 ≤ n by omega)
    exact pvalues_ok h0 hI0 h1 hI1 (by omega) (by omega) (by omega) (by omega) hI (by omega)
end Go.Proofs.YtghaenkacjgdnaaDoor.W
