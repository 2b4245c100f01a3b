/- row.Over, Content, Primitive; the reference's Over, Content, Zero, Primitive. Printed by pv/gen_row9.py. No condition. -/
import Derived.Test.YtghaenkacjgdnaaDoorM47
import Derived.Test.YtghaenkacjgdnaaDoorM15
import Derived.Test.YtghaenkacjgdnaaDoorM38
import Derived.Test.YtghaenkacjgdnaaDoorM49
import Derived.Test.YtghaenkacjgdnaaDoorM24
import Derived.Test.YtghaenkacjgdnaaDoorM36
import Derived.Test.YtghaenkacjgdnaaDoorM22
import Derived.Test.YtghaenkacjgdnaaDoorM6

namespace Go.Proofs.YtghaenkacjgdnaaDoor.W
open Go.RowKit Anv Go.Lib
def ovr (x y : Int) : Int := if x % y = 0 then x / y else 0
theorem divs_step {es : List NE} {xs : List Int} {j : Nat} {A : Option Addr} {c : Nat} {z m : Int} (hz : es.map zz = xs) (hd : divs m (xs.take j)) (he : es[j]? = some (A, c, z)) (h : z % m = 0) : divs m (xs.take (j + 1)) := by
  rw [ztake_snoc hz he]
  intro x hx
  rcases List.mem_append.1 hx with hx | hx
  · exact hd x hx
  · rw [List.mem_singleton.1 hx]; exact h
theorem es_zerosM (n : Nat) (w : World) : (pfEs FM (List.replicate n (none, 0, 0))).P w := fun e he => by
  rw [List.eq_of_mem_replicate he]
  exact rin_none w
end Go.Proofs.YtghaenkacjgdnaaDoor.W

/- RowSums: the law's walk. Printed by pv/gen_rowA.py. No condition. -/
namespace Go.Proofs.YtghaenkacjgdnaaDoor.W
open Go.RowKit Anv Go.Lib
theorem Zk.zb {k : Nat} {es : List NE} (h : Zk k (es.map zz)) : ZB k es := h.es rfl
end Go.Proofs.YtghaenkacjgdnaaDoor.W

/- RowTexts, RowReads: the laws' walks. Printed by pv/gen_rowE.py. No condition. -/
namespace Go.Proofs.YtghaenkacjgdnaaDoor.W
open Go.RowKit Anv Go.Lib
theorem row_text' {A0 : Option Addr} {n0 c0 : Nat} {es0 : List NE} {xs : List Int} {w0 : World} (h0 : (pfRow fN FN 2 A0 n0 c0 es0).P w0) (hz0 : es0.map zz = xs) (hk : Zk 90000 xs) (hn : n0 ≤ 1000000) :
    Calls Tryd.prog 79 #[.slice A0 n0 c0] w0 fun e w' => e = .returned (.string ⟨(textRow xs).toArray⟩) ∧ Below w0.heap.size w0 w' := by
  subst hz0
  exact row_text h0 hk.zb hn
end Go.Proofs.YtghaenkacjgdnaaDoor.W

/- anvillaw20's list, ref, is, works; slices.Clone, poly.Trim, Same, Text, Read. Printed by pv/gen_po1.py. No condition. -/
namespace Go.Proofs.YtghaenkacjgdnaaDoor.W
open Go.RowKit Anv Go.Lib
def LRowS (B : Nat) (w : World) (v : Value) (n : Nat) (zs : List Int) : Prop := ∃ g es, v = .slice (some ⟨g, 0, none⟩) n (n + 2) ∧ NewRow notU 28 2 fN FN B w (some ⟨g, 0, none⟩) (n + 2) (n + 2) es ∧ es.length = n + 2 ∧ es.map zz = zs ++ [0, 0]
def ZRowN (B : Nat) (w : World) (v : Value) (n : Nat) (zs : List Int) : Prop := ∃ A c es, v = .slice A n c ∧ NewRow notU 28 2 fN FN B w A n c es ∧ es.length = n ∧ es.map zz = zs ∧ (n = 0 → A = none)
def MRowN (B : Nat) (w : World) (v : Value) (n : Nat) (zs : List Int) : Prop := ∃ A c es, v = .slice A n c ∧ NewRow notU 39 2 fM FM B w A n c es ∧ es.length = n ∧ es.map zz = zs ∧ (n = 0 → A = none)
theorem zrown_nil {B n : Nat} {w : World} {zs : List Int} (hn : n = 0) (hz : zs = []) : ZRowN B w (.slice none 0 0) n zs := by
  subst hn hz
  exact ⟨none, 0, [], rfl, ⟨⟨World.ownsRow_nil w 0 _ 2, fun g hg => by simp [Value.ownBlock] at hg⟩, es_nil FN w, fun a h => by cases h⟩, rfl, rfl, fun _ => rfl⟩
theorem lst_step {ps : List NE} {es : List Int} {j m c : Nat} {A : Option Addr} {x : Int} (ho : ps.map zz = es.take j ++ List.replicate (m - j) 0) (he : es[j]? = some x) (hm : j < m) : (ps.set j (A, c, x)).map zz = es.take (j + 1) ++ List.replicate (m - (j + 1)) 0 := by
  have hl : (es.take j).length = j := by
    rw [List.length_take]
    have := (List.getElem?_eq_some_iff.1 he).1
    omega
  rw [List.map_set, ho, List.set_append_right _ _ (by omega), hl, Nat.sub_self, show m - j = (m - (j + 1)) + 1 by omega, List.replicate_succ, List.set_cons_zero, take_one he, List.append_assoc]
  rfl
theorem row_some {α : Type} {f : α → List Value} {F : α → PF} {z n c : Nat} {A : Option Addr} {es : List α} {w : World} (hn : 0 < n) (h : (pfRow f F z A n c es).P w) : A.isNone = false := by
  obtain ⟨b, off, rfl, _⟩ := h.1.cells hn
  rfl
theorem row_none {α : Type} {f : α → List Value} {F : α → PF} {z n c : Nat} {A : Option Addr} {es : List α} {w : World} (h : (pfRow f F z A n c es).P w) (hA : A = none) : n = 0 := by
  subst hA
  rcases Nat.eq_zero_or_pos n with h0 | h0
  · exact h0
  · obtain ⟨b, off, e, _⟩ := h.1.cells h0
    cases e
theorem nil_eq {A : Option Addr} {n : Nat} (h : n = 0 → A = none) (h' : A = none → n = 0) : (A.isNone == (((n : Nat) : Int) == (0 : Int))) = true := by
  rcases Nat.eq_zero_or_pos n with h0 | h0
  · rw [h h0, h0]; rfl
  · cases A with
    | none => exact absurd (h' rfl) (by omega)
    | some a =>
      rw [beq_eq_false_iff_ne.2 (show ((n : Nat) : Int) ≠ 0 by omega)]
      rfl
theorem St.listRow {w0 w : World} {own ps : List PF} {k n m c : Nat} {A : Option Addr} {es : List NE} {zs : List Int} (h : St w0 w own ps) (hk : ps[k]? = some (pfRow fN FN 2 A m c es)) (hz : es.map zz = zs ++ [0, 0]) (hl : zs.length = n) : ∃ es' : List NE, St w0 w own (pfRow fN FN 2 A n c es' :: ps) ∧ es'.length = n ∧ es'.map zz = zs := by
  have h1 : es.length = m := (h.pat hk).2.1
  have h2 := congrArg List.length hz
  rw [List.length_map, List.length_append] at h2
  simp only [List.length_cons, List.length_nil] at h2
  refine ⟨es.take n, h.preRow hk n fN_len (by omega), by rw [List.length_take]; omega, ?_⟩
  rw [List.map_take, hz, List.take_left' hl]
set_option maxRecDepth 100000 in
set_option maxHeartbeats 2000000 in
theorem p20_list {A0 : Option Addr} {n0 c0 : Nat} {es0 : List Int} {w0 : World} (h0 : (pfRow fI FI 1 A0 n0 c0 es0).P w0) (hI : I64 es0) (hn : n0 ≤ 10000000) :
    Calls Tryd.prog 12 #[.slice A0 n0 c0] w0 fun e w' => ∃ v, e = .returned v ∧ LRowS w0.heap.size w' v n0 es0 ∧ Below w0.heap.size w0 w' := by
  refine enter Tryd.func12 rfl Tryd.ntmps12 rfl ?_
  intro a henv hst
  have hlen0 := h0.2.1
  have hbig0 := Nat.le_trans h0.1.cap h0.1.big
  unfold maxLen at hbig0
  replace hst := hst.argRow h0
  clear h0
  refine wp_seq ?_
  refine region_seq ?_
  refine sv (v := .slice none 0 0) henv rfl (rn_assign henv rfl) ?_
  clear henv a; intro a henv
  refine wpList_nil ?_
  refine th_n ?_
  refine wp_seq ?_
  refine region_seq ?_
  revert a
  refine mA rfl rfl ?_
  refine sA (v := .int .i64 (n0 : Nat)) rfl (fun _ henv => rn_len henv Tryd.underlying22 rfl) ?_
  refine sA (v := .int .i64 (n0 + 2 : Nat)) rfl (fun _ henv => rn_add henv rfl rfl (by rw [IntWalk.i64_in _ (by omega)]; omega)) ?_
  intro a henv
  refine seq_step rfl (op_makeC (f := fN) (e0 := (none, 0, 0)) (q := notU) (n := 0) (m := n0 + 2) henv hst rfl Tryd.underlying32 inf_anvil_integer_Int rfl rfl fN_zero rfl rfl rfl (by omega) (by omega) (by unfold maxLen; omega) ?_)
  clear henv hst a; intro a w52 g51 henv hst
  have hzl : zl 0 = 0 := zl_zero
  replace hst := hst.addNs (es_zeros (n0 + 2) _) ⟨nou_rowS, trivial⟩
  refine sv (v := .slice (some ⟨g51, 0, none⟩) 0 (n0 + 2)) henv rfl (rn_assign henv rfl) ?_
  clear henv a; intro a henv
  refine wpList_nil ?_
  refine th_n ?_
  refine wp_seq ?_
  refine wp_seq ?_
  refine region_seq ?_
  revert a
  refine mA rfl rfl ?_
  refine sA (v := .int .i64 (n0 : Nat)) rfl (fun _ henv => rn_len henv Tryd.underlying22 rfl) ?_
  refine mA rfl rfl ?_
  intro a henv
  refine wpList_nil ?_
  refine th_n ?_
  refine wp_block ?_
  refine wp_loop_ghost (fun mz a w => ∃ j : Nat, ∃ ps : List NE, n0 - j = mz ∧ Env 23 a [(10, .slice A0 n0 c0), (11, .int .i64 (n0 : Nat)), (12, .int .i64 (j : Nat)), (3, .slice (some ⟨g51, 0, none⟩) j (n0 + 2))] ∧ St w0 w [rowS notU 28 2 (some ⟨g51, 0, none⟩) (n0 + 2) (n0 + 2) (fl fN ps)] [pfRow fI FI 1 A0 n0 c0 es0, pfEs FN ps] ∧ j ≤ n0 ∧ ps.map zz = es0.take j ++ List.replicate (n0 + 2 - j) 0) _ ⟨0, (List.replicate (n0 + 2) (none, 0, 0)), rfl, henv.sub ⟨rfl, rfl, rfl, rfl, trivial⟩, hst.pick [0] [1, 0] (by decide), (Nat.zero_le _), (by rw [List.map_replicate]; rfl)⟩ ?_
  clear henv hst a
  rintro mz a w53 ⟨j, ps, rfl, henv, hst, hj, ho⟩
  refine wp_seq ?_
  refine region_seq ?_
  refine sv (v := .bool (decide (((j : Nat) : Int) < ((n0 : Nat) : Int)))) henv rfl (rn_bin henv rfl rfl rfl) ?_
  clear henv a; intro a henv
  refine wpList_nil ?_
  refine th_n ?_
  refine wp_seq ?_
  refine if_split henv rfl (fun hc54 => ?_) (fun hc54 => ?_)
  · have hlt : j < n0 := by have := of_decide_eq_true hc54; omega
    obtain ⟨x, he0⟩ : ∃ x, es0[j]? = some x := ⟨_, List.getElem?_eq_getElem (by omega)⟩
    have hx := hI.at he0
    have hpl : ps.length = n0 + 2 := map_len ho (by simp; omega)
    refine wp_skip ?_
    refine th_n ?_
    refine wp_seq ?_
    refine wp_block ?_
    refine wp_seq ?_
    refine region_seq ?_
    revert a
    refine sA (v := .pointer (some ⟨ab A0, ao A0 + j * 1, none⟩)) rfl (fun _ henv => rn_idxR (i := j) henv Tryd.underlying22 (ty_int64.size) rfl rfl (by omega) rfl (show (pfRow fI FI 1 A0 n0 c0 es0).P _ from (hst.pat (k := 0) rfl)).1) ?_
    refine sA (v := .int .i64 x) rfl (fun _ henv => rn_loadE1 (i := j) (j := 0) (e := x) henv ty_int64 rfl rfl fI_len (by decide) (show (pfRow fI FI 1 A0 n0 c0 es0).P _ from (hst.pat (k := 0) rfl)).1 (by omega) he0 rfl) ?_
    refine aA rfl rfl ?_
    intro a henv
    refine wpList_nil ?_
    refine th_n ?_
    refine region_seq ?_
    revert a
    refine mA rfl rfl ?_
    refine mA rfl rfl ?_
    intro a henv
    refine seq_step rfl (op_call henv rfl Tryd.call34 rfl (of_z (n := x) (by omega) (by omega)) ?_)
    rintro e w58 ⟨_, rfl, ⟨A55, c56, rfl, hz57⟩, hb⟩
    refine ⟨_, rfl, ?_⟩
    clear henv a; intro a henv
    replace hst := (hst.call hb).addZ hz57 ⟨nou_rowS, trivial⟩
    clear hz57
    clear hb
    refine seq_step rfl (op_buildSlice (z := 2) (pv := #[(0, .agg #[.bool (neg x), .slice A55 (zl x) c56])]) (c := #[.bool (neg x), .slice A55 (zl x) c56]) henv hst rfl Tryd.underlying32 (ty_anvil_integer_Int.size) zero_anvil_integer_Int (by decide) (by decide) rfl (by kernel_rfl) ?_)
    clear henv hst a; intro a w60 g59 henv hst
    refine seq_step rfl (op_appendIn (f := fN) (e := (A55, c56, x)) (k := 1) (j := 0) henv hst rfl Tryd.underlying32 (ty_anvil_integer_Int.size) rfl rfl rfl rfl fN_len rfl (by omega) hpl rfl rfl ?_)
    clear henv hst a; intro a w61 henv hst
    replace hst := hst.setEs (e := (A55, c56, x)) (i := 2) (j := 0) rfl rfl j
    refine sv (v := .slice (some ⟨g51, 0, none⟩) (j + 1) (n0 + 2)) henv rfl (rn_assign henv rfl) ?_
    clear henv a; intro a henv
    refine wpList_nil ?_
    refine bl_n (th_n ?_)
    refine region_seq ?_
    revert a
    refine sA (v := .int .i64 (j + 1 : Nat)) rfl (fun _ henv => rn_add henv rfl rfl (by rw [IntWalk.i64_in _ (by omega)]; omega)) ?_
    refine mA rfl rfl ?_
    intro a henv
    refine wpList_nil ?_
    exact th_n ⟨_, (by omega), ⟨j + 1, (ps.set j (A55, c56, x)), rfl, henv.sub ⟨rfl, rfl, rfl, rfl, trivial⟩, hst.pick [1] [2, 0] (by decide), (by omega), (lst_step ho he0 (by omega))⟩⟩
  · obtain rfl : n0 = j := by have := of_decide_eq_false hc54; omega
    refine wp_exit ?_
    refine th_x (th_x (bl_x (th_n ?_)))
    refine wp_seq ?_
    refine region_seq ?_
    revert a
    refine mA rfl rfl ?_
    refine aA rfl rfl ?_
    intro a henv
    refine wpList_nil ?_
    refine th_n ?_
    refine wp_ret ?_
    refine leave henv (res1 Tryd.results12 (RV.tmp henv rfl)) ?_
    rw [List.take_of_length_le (by omega)] at ho
    exact ⟨_, rfl, ⟨_, ps, rfl, hst.newRow (k := 0) (j := 1) rfl rfl, map_len ho (by simp; omega), by rw [ho, show n0 + 2 - n0 = 2 by omega]; rfl⟩, hst.below⟩
set_option maxRecDepth 100000 in
set_option maxHeartbeats 2000000 in
theorem p20_ref {A0 : Option Addr} {n0 c0 : Nat} {es0 : List Int} {w0 : World} (h0 : (pfRow fI FI 1 A0 n0 c0 es0).P w0) (hI : I64 es0) (hn : n0 ≤ 10000000) :
    Calls Tryd.prog 18 #[.slice A0 n0 c0] w0 fun e w' => ∃ v, e = .returned v ∧ MRowN w0.heap.size w' v n0 es0 ∧ Below w0.heap.size w0 w' := by
  refine enter Tryd.func18 rfl Tryd.ntmps18 rfl ?_
  intro a henv hst
  have hlen0 := h0.2.1
  have hbig0 := Nat.le_trans h0.1.cap h0.1.big
  unfold maxLen at hbig0
  replace hst := hst.argRow h0
  clear h0
  refine wp_seq ?_
  refine region_seq ?_
  refine sv (v := .slice none 0 0) henv rfl (rn_assign henv rfl) ?_
  clear henv a; intro a henv
  refine wpList_nil ?_
  refine th_n ?_
  refine wp_seq ?_
  refine region_seq ?_
  refine sv (v := .slice none 0 0) henv rfl (rn_assign henv rfl) ?_
  clear henv a; intro a henv
  refine wpList_nil ?_
  refine th_n ?_
  refine wp_seq ?_
  refine wp_seq ?_
  refine region_seq ?_
  revert a
  refine mA rfl rfl ?_
  refine sA (v := .int .i64 (n0 : Nat)) rfl (fun _ henv => rn_len henv Tryd.underlying22 rfl) ?_
  refine mA rfl rfl ?_
  intro a henv
  refine wpList_nil ?_
  refine th_n ?_
  refine wp_block ?_
  replace hst := (hst.addRowS notU 39 2).nilEs FM
  replace hst : St w0 _ [rowS notU 39 2 none 0 0 (fl fM ([]))] [pfEs FM ([]), pfRow fI FI 1 A0 n0 c0 es0] := hst
  refine wp_loop_ghost (fun mz a w => ∃ j : Nat, ∃ B : Option Addr, ∃ d : Nat, ∃ os : List NE, n0 - j = mz ∧ Env 19 a [(6, .slice A0 n0 c0), (7, .int .i64 (n0 : Nat)), (8, .int .i64 (j : Nat)), (3, .slice B j d)] ∧ St w0 w [rowS notU 39 2 B j d (fl fM os)] [pfRow fI FI 1 A0 n0 c0 es0, pfEs FM os] ∧ j ≤ n0 ∧ os.map zz = es0.take j ∧ (j = 0 → B = none)) _ ⟨0, none, 0, [], rfl, henv.sub ⟨rfl, rfl, rfl, rfl, trivial⟩, hst.pick [0] [1, 0] (by decide), (Nat.zero_le _), rfl, (fun _ => rfl)⟩ ?_
  clear henv hst a
  rintro mz a w51 ⟨j, B, d, os, rfl, henv, hst, hj, ho, hB⟩
  refine wp_seq ?_
  refine region_seq ?_
  refine sv (v := .bool (decide (((j : Nat) : Int) < ((n0 : Nat) : Int)))) henv rfl (rn_bin henv rfl rfl rfl) ?_
  clear henv a; intro a henv
  refine wpList_nil ?_
  refine th_n ?_
  refine wp_seq ?_
  refine if_split henv rfl (fun hc52 => ?_) (fun hc52 => ?_)
  · have hlt : j < n0 := by have := of_decide_eq_true hc52; omega
    obtain ⟨x, he0⟩ : ∃ x, es0[j]? = some x := ⟨_, List.getElem?_eq_getElem (by omega)⟩
    have hx := hI.at he0
    refine wp_skip ?_
    refine th_n ?_
    refine wp_seq ?_
    refine wp_block ?_
    refine wp_seq ?_
    refine region_seq ?_
    revert a
    refine sA (v := .pointer (some ⟨ab A0, ao A0 + j * 1, none⟩)) rfl (fun _ henv => rn_idxR (i := j) henv Tryd.underlying22 (ty_int64.size) rfl rfl (by omega) rfl (show (pfRow fI FI 1 A0 n0 c0 es0).P _ from (hst.pat (k := 0) rfl)).1) ?_
    refine sA (v := .int .i64 x) rfl (fun _ henv => rn_loadE1 (i := j) (j := 0) (e := x) henv ty_int64 rfl rfl fI_len (by decide) (show (pfRow fI FI 1 A0 n0 c0 es0).P _ from (hst.pat (k := 0) rfl)).1 (by omega) he0 rfl) ?_
    refine aA rfl rfl ?_
    intro a henv
    refine wpList_nil ?_
    refine th_n ?_
    refine region_seq ?_
    revert a
    refine mA rfl rfl ?_
    refine mA rfl rfl ?_
    intro a henv
    refine seq_step rfl (op_call henv rfl Tryd.call36 rfl (of_r (n := x) (by omega) (by omega)) ?_)
    rintro e w56 ⟨_, rfl, ⟨A53, c54, rfl, hz55⟩, hb⟩
    refine ⟨_, rfl, ?_⟩
    clear henv a; intro a henv
    replace hst := (hst.call hb).addR hz55 ⟨nou_rowS, trivial⟩
    clear hz55
    clear hb
    refine seq_step rfl (op_buildSlice (z := 2) (pv := #[(0, .agg #[.bool (neg x), .slice A53 (dl x) c54])]) (c := #[.bool (neg x), .slice A53 (dl x) c54]) henv hst rfl Tryd.underlying42 (ty_anvil_anvilref02_Int.size) zero_anvil_anvilref02_Int (by decide) (by decide) rfl (by kernel_rfl) ?_)
    clear henv hst a; intro a w58 g57 henv hst
    refine seq_step rfl (op_appendS (k := 1) (j := 0) henv hst rfl Tryd.underlying42 inf_anvil_anvilref02_Int rfl rfl rfl rfl rfl rfl rfl rfl rfl rfl rfl (by unfold maxLen; omega) (by omega) ?_)
    clear henv hst a; intro a w61 g59 c60 henv hst
    rw [show fl fM os ++ (#[.bool (neg x), .slice A53 (dl x) c54] : Array Value).toList = fl fM (os ++ [(A53, c54, x)]) from fl_snoc (f := fM) os (A53, c54, x)] at hst
    replace hst := hst.snocEs (e := (A53, c54, x)) (i := 2) (j := 0) rfl rfl
    refine sv (v := .slice (some ⟨g59, 0, none⟩) (j + 1) c60) henv rfl (rn_assign henv rfl) ?_
    clear henv a; intro a henv
    refine wpList_nil ?_
    refine bl_n (th_n ?_)
    refine region_seq ?_
    revert a
    refine sA (v := .int .i64 (j + 1 : Nat)) rfl (fun _ henv => rn_add henv rfl rfl (by rw [IntWalk.i64_in _ (by omega)]; omega)) ?_
    refine mA rfl rfl ?_
    intro a henv
    refine wpList_nil ?_
    exact th_n ⟨_, (by omega), ⟨j + 1, (some ⟨g59, 0, none⟩), c60, (os ++ [(A53, c54, x)]), rfl, henv.sub ⟨rfl, rfl, rfl, rfl, trivial⟩, hst.pick [1] [2, 0] (by decide), (by omega), (step_ints ho he0), (fun h => absurd h (by omega))⟩⟩
  · obtain rfl : n0 = j := by have := of_decide_eq_false hc52; omega
    refine wp_exit ?_
    refine th_x (th_x (bl_x (th_n ?_)))
    refine wp_seq ?_
    refine region_seq ?_
    revert a
    refine mA rfl rfl ?_
    refine aA rfl rfl ?_
    intro a henv
    refine wpList_nil ?_
    refine th_n ?_
    refine wp_ret ?_
    refine leave henv (res1 Tryd.results18 (RV.tmp henv rfl)) ?_
    exact ⟨_, rfl, ⟨_, _, os, rfl, hst.newRow (k := 0) (j := 1) rfl rfl, map_len ho (by rw [List.length_take]; omega), (ho.trans (List.take_of_length_le (by omega))), hB⟩, hst.below⟩
set_option maxRecDepth 100000 in
set_option maxHeartbeats 2000000 in
theorem z_clone {A0 : Option Addr} {n0 c0 : Nat} {es0 : List NE} {xs : List Int} {w0 : World} (h0 : (pfRow fN FN 2 A0 n0 c0 es0).P w0) (hz0 : es0.map zz = xs) (hp : 0 < n0) (hn : n0 ≤ 10000000) :
    Calls Tryd.prog 61 #[.slice A0 n0 c0] w0 fun e w' => ∃ v, e = .returned v ∧ ZRow w0.heap.size w' v n0 xs ∧ Below w0.heap.size w0 w' := by
  have hnn := row_some hp h0
  refine enter Tryd.func61 rfl Tryd.ntmps61 rfl ?_
  intro a henv hst
  have hlen0 := h0.2.1
  have hbig0 := Nat.le_trans h0.1.cap h0.1.big
  unfold maxLen at hbig0
  replace hst := hst.argRow h0
  clear h0
  refine wp_seq ?_
  refine region_seq ?_
  refine sv (v := .slice none 0 0) henv rfl (rn_assign henv rfl) ?_
  clear henv a; intro a henv
  refine wpList_nil ?_
  refine th_n ?_
  refine wp_seq ?_
  refine wp_seq ?_
  refine region_seq ?_
  revert a
  refine mA rfl rfl ?_
  refine sA (v := .bool A0.isNone) rfl (fun _ henv => rn_nilS henv Tryd.underlying32 rfl) ?_
  intro a henv
  rw [show A0.isNone = false from hnn] at henv
  refine wpList_nil ?_
  refine th_n ?_
  refine if_f henv rfl (rfl) ?_
  refine wp_skip ?_
  refine th_n ?_
  refine wp_seq ?_
  refine region_seq ?_
  refine seq_step rfl (op_buildSlice0 henv hst rfl Tryd.underlying32 (ty_anvil_integer_Int.size) ?_)
  clear henv hst a; intro a w52 g51 henv hst
  replace hst := (hst.bkRow0 (k := 0) rfl 2).nilEs FN
  replace hst : St w0 _ [rowS notU 28 2 (some ⟨g51, 0, none⟩) 0 0 (fl fN ([]))] [pfEs FN ([]), pfRow fN FN 2 A0 n0 c0 es0] := hst
  refine sv (v := .slice A0 n0 c0) henv rfl (rn_move henv rfl) ?_
  clear henv a; intro a henv
  refine seq_step rfl (op_appendR (k := 0) henv hst rfl Tryd.underlying32 inf_anvil_integer_Int rfl rfl rfl rfl rfl (hst.pat (k := 1) rfl).1 (fl_all (fun _ => rfl) _) (fl_all (fun _ => rfl) _) rfl (by omega) (by unfold maxLen; omega) (by omega) ?_)
  clear henv hst a; intro a w55 g53 c54 henv hst
  rw [show fl fN ([]) ++ fl fN es0 = fl fN es0 from rfl] at hst
  replace hst := hst.rowEs (i := 1) rfl
  replace hst : St w0 _ [rowS notU 28 2 (some ⟨g53, 0, none⟩) (0 + n0) c54 (fl fN es0)] [pfEs FN es0, pfEs FN ([]), pfRow fN FN 2 A0 n0 c0 es0] := hst
  refine sv (v := .slice (some ⟨g53, 0, none⟩) (0 + n0) c54) henv rfl (rn_assign henv rfl) ?_
  clear henv a; intro a henv
  refine wpList_nil ?_
  refine th_n ?_
  refine wp_ret ?_
  refine leave henv (res1 Tryd.results61 (RV.tmp henv rfl)) ?_
  exact ⟨_, rfl, ⟨_, _, es0, congrArg (fun k => Value.slice _ k _) (Nat.zero_add _), (Nat.zero_add n0 ▸ hst.newRow (k := 0) (j := 0) rfl rfl), hlen0, hz0⟩, hst.below⟩
set_option maxRecDepth 100000 in
set_option maxHeartbeats 2000000 in
theorem p_trim {A0 : Option Addr} {n0 c0 : Nat} {es0 : List NE} {xs : List Int} {w0 : World} (h0 : (pfRow fN FN 2 A0 n0 c0 es0).P w0) (hz0 : es0.map zz = xs) (hn : n0 ≤ 10000000) :
    Calls Tryd.prog 27 #[.slice A0 n0 c0] w0 fun e w' => ∃ v, e = .returned v ∧ ZRowN w0.heap.size w' v (degN xs) (trimN xs) ∧ Below w0.heap.size w0 w' := by
  have hdl : degN xs ≤ n0 := by have := deg_len xs; rw [← hz0, List.length_map, h0.2.1] at this; rw [← hz0]; exact this
  have hcap0 := h0.1.cap
  refine enter Tryd.func27 rfl Tryd.ntmps27 rfl ?_
  intro a henv hst
  have hlen0 := h0.2.1
  have hbig0 := Nat.le_trans h0.1.cap h0.1.big
  unfold maxLen at hbig0
  replace hst := hst.argRow h0
  clear h0
  refine wp_seq ?_
  refine region_seq ?_
  refine sv (v := .slice none 0 0) henv rfl (rn_assign henv rfl) ?_
  clear henv a; intro a henv
  refine wpList_nil ?_
  refine th_n ?_
  refine wp_seq ?_
  refine region_seq ?_
  refine sv (v := .slice A0 n0 c0) henv rfl (rn_move henv rfl) ?_
  clear henv a; intro a henv
  refine seq_step rfl (op_call henv rfl Tryd.call23 rfl (p_deg (hst.pat (k := 0) rfl) hz0 (by omega)) ?_)
  rintro e w51 ⟨rfl, hb⟩
  refine ⟨_, rfl, ?_⟩
  clear henv a; intro a henv
  replace hst := hst.call hb
  clear hb
  revert a
  refine sA (v := .int .i64 (degN xs : Nat)) rfl (fun _ henv => rn_add henv rfl rfl (by rw [IntWalk.i64_in _ (by omega)]; omega)) ?_
  refine aA rfl rfl ?_
  intro a henv
  refine wpList_nil ?_
  refine th_n ?_
  refine wp_seq ?_
  refine wp_seq ?_
  refine region_seq ?_
  revert a
  refine mA rfl rfl ?_
  refine sA (v := .bool (((degN xs : Nat) : Int) == (0 : Int))) rfl (fun _ henv => rn_bin henv rfl rfl rfl) ?_
  intro a henv
  refine wpList_nil ?_
  refine th_n ?_
  refine if_split henv rfl (fun hc52 => ?_) (fun hc52 => ?_)
  · replace hc52 := eq_of_beq hc52
    have hd0 : degN xs = 0 := by omega
    refine wp_seq ?_
    refine region_seq ?_
    refine sv (v := .slice none 0 0) henv rfl (rn_assign henv rfl) ?_
    clear henv a; intro a henv
    refine wpList_nil ?_
    refine th_n ?_
    refine wp_ret ?_
    refine th_r ?_
    refine leave henv (res1 Tryd.results27 (RV.tmp henv rfl)) ?_
    exact ⟨_, rfl, zrown_nil hd0 (by rw [trimN, hd0]; rfl), hst.below⟩
  · replace hc52 := ne_of_beq_false hc52
    have hpos : 0 < degN xs := by omega
    refine wp_skip ?_
    refine th_n ?_
    refine wp_seq ?_
    refine region_seq ?_
    revert a
    refine mA rfl rfl ?_
    refine mA rfl rfl ?_
    refine sA (v := .slice A0 (degN xs) c0) rfl (fun _ henv => rn_sliceTo (m := degN xs) henv Tryd.underlying32 (ty_anvil_integer_Int.size) rfl rfl (by omega)) ?_
    intro a henv
    refine seq_step rfl (op_call henv rfl Tryd.call61 rfl (z_clone (xs := trimN xs) (row_pre fN_len (hst.pat (k := 0) rfl) hdl) (by rw [List.map_take, hz0]; rfl) hpos (by omega)) ?_)
    rintro e w59 ⟨_, rfl, ⟨A53, c54, es55, rfl, hr, hl56, hz57⟩, hb⟩
    refine ⟨_, rfl, ?_⟩
    clear henv a; intro a henv
    replace hst := hst.freshRow hb hr (ap_N hr.2.1 ⟨nou_rowS, trivial⟩)
    clear hr
    clear hb
    refine sv (v := .slice A53 (degN xs) c54) henv rfl (rn_assign henv rfl) ?_
    clear henv a; intro a henv
    refine wpList_nil ?_
    refine th_n ?_
    refine wp_ret ?_
    refine leave henv (res1 Tryd.results27 (RV.tmp henv rfl)) ?_
    exact ⟨_, rfl, ⟨_, _, _, rfl, hst.newRow (k := 0) (j := 0) rfl rfl, hl56, hz57, fun h => absurd h (by omega)⟩, hst.below⟩
set_option maxRecDepth 100000 in
set_option maxHeartbeats 2000000 in
theorem ps_one {A B : Option Addr} {c d : Nat} {x y : Int} {w0 : World} (hx : ZIn w0 A c x) (hy : ZIn w0 B d y) :
    Calls Tryd.prog 56 #[.agg #[.bool (neg x), .slice A (zl x) c], .agg #[.bool (neg y), .slice B (zl y) d]] w0 fun e w' => e = .returned (.bool (decide (x = y))) ∧ Below w0.heap.size w0 w' := by
  refine enter Tryd.func56 rfl Tryd.ntmps56 rfl ?_
  intro a henv hst
  replace hst := (hst.addZ hx trivial).addZ hy trivial
  clear hx hy
  refine wp_seq ?_
  refine region_seq ?_
  refine seq_step rfl (op_box (c := #[.bool (neg x), .slice A (zl x) c]) henv hst rfl rfl rfl ?_)
  clear henv hst a; intro a w52 g51 henv hst
  refine seq_step rfl (op_box (c := #[.bool (neg y), .slice B (zl y) d]) henv hst rfl rfl rfl ?_)
  clear henv hst a; intro a w54 g53 henv hst
  refine sv (v := .bool false) henv rfl (rn_assign henv rfl) ?_
  clear henv a; intro a henv
  refine wpList_nil ?_
  refine th_n ?_
  refine wp_seq ?_
  refine region_seq ?_
  revert a
  refine sA (v := .agg #[.bool (neg x), .slice A (zl x) c]) rfl (fun _ henv => rn_load0 henv ty_anvil_integer_Int rfl (hst.oat (k := 1) rfl) rfl) ?_
  refine sA (v := .agg #[.bool (neg y), .slice B (zl y) d]) rfl (fun _ henv => rn_load0 henv ty_anvil_integer_Int rfl (hst.oat (k := 0) rfl) rfl) ?_
  intro a henv
  refine seq_step rfl (op_call henv rfl Tryd.call42 rfl (cmp_z (x := x) (y := y) (show ZIn _ A c x from hst.pat (k := 1) rfl) (show ZIn _ B d y from hst.pat (k := 0) rfl)) ?_)
  rintro e w55 ⟨rfl, hb⟩
  refine ⟨_, rfl, ?_⟩
  clear henv a; intro a henv
  replace hst := hst.call hb
  clear hb
  revert a
  refine sA (v := .bool ((x - y).sign == (0 : Int))) rfl (fun _ henv => rn_bin henv rfl rfl rfl) ?_
  refine aA rfl rfl ?_
  intro a henv
  refine wpList_nil ?_
  refine th_n ?_
  refine wp_ret ?_
  refine leave henv (res1 Tryd.results56 (RV.tmp henv rfl)) ?_
  exact ⟨congrArg (fun b => Ending.returned (Value.bool b)) (sub_dec x y), hst.below⟩
set_option maxRecDepth 100000 in
set_option maxHeartbeats 2000000 in
theorem ps_func {A0 A1 : Option Addr} {n0 n1 c0 c1 : Nat} {es0 es1 : List NE} {xs ys : List Int} {w0 : World} (h0 : (pfRow fN FN 2 A0 n0 c0 es0).P w0) (hz0 : es0.map zz = xs) (h1 : (pfRow fN FN 2 A1 n1 c1 es1).P w0) (hz1 : es1.map zz = ys) :
    Calls Tryd.prog 55 #[.slice A0 n0 c0, .slice A1 n1 c1, .func (.func 56) #[] #[]] w0 fun e w' => e = .returned (.bool (decide (xs = ys))) ∧ Below w0.heap.size w0 w' := by
  refine enter Tryd.func55 rfl Tryd.ntmps55 rfl ?_
  intro a henv hst
  have hlen0 := h0.2.1
  have hlen1 := h1.2.1
  have hbig0 := Nat.le_trans h0.1.cap h0.1.big
  unfold maxLen at hbig0
  replace hst := (hst.argRow h1).argRow h0
  clear h0 h1
  refine wp_seq ?_
  refine region_seq ?_
  refine sv (v := .bool false) henv rfl (rn_assign henv rfl) ?_
  clear henv a; intro a henv
  refine wpList_nil ?_
  refine th_n ?_
  refine wp_seq ?_
  refine wp_seq ?_
  refine region_seq ?_
  revert a
  refine mA rfl rfl ?_
  refine sA (v := .int .i64 (n0 : Nat)) rfl (fun _ henv => rn_len henv Tryd.underlying32 rfl) ?_
  refine mA rfl rfl ?_
  refine sA (v := .int .i64 (n1 : Nat)) rfl (fun _ henv => rn_len henv Tryd.underlying32 rfl) ?_
  refine sA (v := .bool (((n0 : Nat) : Int) != ((n1 : Nat) : Int))) rfl (fun _ henv => rn_bin henv rfl rfl rfl) ?_
  intro a henv
  refine wpList_nil ?_
  refine th_n ?_
  refine if_split henv rfl (fun hc51 => ?_) (fun hc51 => ?_)
  · have hne : n0 ≠ n1 := by have := hc51; simp at this; omega
    refine wp_seq ?_
    refine region_seq ?_
    refine sv (v := .bool false) henv rfl (rn_assign henv rfl) ?_
    clear henv a; intro a henv
    refine wpList_nil ?_
    refine th_n ?_
    refine wp_ret ?_
    refine th_r ?_
    refine leave henv (res1 Tryd.results55 (RV.tmp henv rfl)) ?_
    first | exact ⟨by rw [decide_eq_false (eq_ne hz0 hlen0 hz1 hlen1 hne)], hst.below⟩ | exact ⟨by rw [decide_eq_false (eq_at hz0 hz1 he0 he1 hxy)], hst.below⟩
  · have hnn : n0 = n1 := by have := hc51; simp at this; omega
    refine wp_skip ?_
    refine th_n ?_
    refine wp_seq ?_
    refine wp_seq ?_
    refine region_seq ?_
    revert a
    refine mA rfl rfl ?_
    refine sA (v := .int .i64 (n0 : Nat)) rfl (fun _ henv => rn_len henv Tryd.underlying32 rfl) ?_
    refine mA rfl rfl ?_
    intro a henv
    refine wpList_nil ?_
    refine th_n ?_
    refine wp_block ?_
    refine wp_loop_ghost (fun mz a w => ∃ j : Nat, n0 - j = mz ∧ Env 32 a [(1, .slice A1 n1 c1), (2, .func (.func 56) #[] #[]), (15, .slice A0 n0 c0), (16, .int .i64 (n0 : Nat)), (17, .int .i64 (j : Nat))] ∧ St w0 w [] [pfRow fN FN 2 A0 n0 c0 es0, pfRow fN FN 2 A1 n1 c1 es1] ∧ j ≤ n0 ∧ xs.take j = ys.take j) _ ⟨0, rfl, henv.sub ⟨rfl, rfl, rfl, rfl, rfl, trivial⟩, hst.pick [] [0, 1] (by decide), (Nat.zero_le _), rfl⟩ ?_
    clear henv hst a
    rintro mz a w52 ⟨j, rfl, henv, hst, hj, he⟩
    refine wp_seq ?_
    refine region_seq ?_
    refine sv (v := .bool (decide (((j : Nat) : Int) < ((n0 : Nat) : Int)))) henv rfl (rn_bin henv rfl rfl rfl) ?_
    clear henv a; intro a henv
    refine wpList_nil ?_
    refine th_n ?_
    refine wp_seq ?_
    refine if_split henv rfl (fun hc53 => ?_) (fun hc53 => ?_)
    · have hlt : j < n0 := by have := of_decide_eq_true hc53; omega
      obtain ⟨⟨A, c, x⟩, he0⟩ : ∃ e, es0[j]? = some e := ⟨_, List.getElem?_eq_getElem (by omega)⟩
      replace hst := hst.elem (k := 0) rfl he0
      replace hst : St w0 _ [] [pfZ A c x, pfRow fN FN 2 A0 n0 c0 es0, pfRow fN FN 2 A1 n1 c1 es1] := hst
      obtain ⟨⟨C, d, y⟩, he1⟩ : ∃ e, es1[j]? = some e := ⟨_, List.getElem?_eq_getElem (by omega)⟩
      replace hst := hst.elem (k := 2) rfl he1
      replace hst : St w0 _ [] [pfZ C d y, pfZ A c x, pfRow fN FN 2 A0 n0 c0 es0, pfRow fN FN 2 A1 n1 c1 es1] := hst
      refine wp_skip ?_
      refine th_n ?_
      refine wp_seq ?_
      refine wp_block ?_
      refine wp_seq ?_
      refine region_seq ?_
      revert a
      refine mA rfl rfl ?_
      refine sA (v := .pointer (some ⟨ab A0, ao A0 + j * 2, none⟩)) rfl (fun _ henv => rn_idxR (i := j) henv Tryd.underlying32 (ty_anvil_integer_Int.size) rfl rfl (by omega) rfl (show (pfRow fN FN 2 A0 n0 c0 es0).P _ from (hst.pat (k := 2) rfl)).1) ?_
      refine sA (v := .agg #[.bool (neg x), .slice A (zl x) c]) rfl (fun _ henv => rn_loadE (i := j) (e := (A, c, x)) henv ty_anvil_integer_Int rfl rfl fN_len (show (pfRow fN FN 2 A0 n0 c0 es0).P _ from (hst.pat (k := 2) rfl)).1 (by omega) he0 rfl) ?_
      intro a henv
      refine seq_step rfl (op_alloc (c := #[.bool (neg 0), .slice none (zl 0) 0]) henv hst rfl zero_anvil_integer_Int zcells ?_)
      clear henv hst a; intro a w55 g54 henv hst
      refine sv (v := .int .i64 (j : Nat)) henv rfl (rn_assign henv rfl) ?_
      clear henv a; intro a henv
      refine seq_step rfl (op_store (k := 0) (c' := #[.bool (neg x), .slice A (zl x) c]) henv hst (ty_anvil_integer_Int.size) rfl rfl rfl rfl (by simp) rfl rfl ?_)
      clear henv hst a; intro a w56 henv hst
      refine wpList_nil ?_
      refine th_n ?_
      refine wp_seq ?_
      refine region_seq ?_
      revert a
      refine mA rfl rfl ?_
      refine mA rfl rfl ?_
      refine sA (v := .pointer (some ⟨ab A1, ao A1 + j * 2, none⟩)) rfl (fun _ henv => rn_idxR (i := j) henv Tryd.underlying32 (ty_anvil_integer_Int.size) rfl rfl (by omega) rfl (show (pfRow fN FN 2 A1 n1 c1 es1).P _ from (hst.pat (k := 3) rfl)).1) ?_
      refine sA (v := .agg #[.bool (neg y), .slice C (zl y) d]) rfl (fun _ henv => rn_loadE (i := j) (e := (C, d, y)) henv ty_anvil_integer_Int rfl rfl fN_len (show (pfRow fN FN 2 A1 n1 c1 es1).P _ from (hst.pat (k := 3) rfl)).1 (by omega) he1 rfl) ?_
      intro a henv
      refine seq_step rfl (op_alloc (c := #[.bool (neg 0), .slice none (zl 0) 0]) henv hst rfl zero_anvil_integer_Int zcells ?_)
      clear henv hst a; intro a w58 g57 henv hst
      refine seq_step rfl (op_store (k := 0) (c' := #[.bool (neg y), .slice C (zl y) d]) henv hst (ty_anvil_integer_Int.size) rfl rfl rfl rfl (by simp) rfl rfl ?_)
      clear henv hst a; intro a w59 henv hst
      refine wpList_nil ?_
      refine th_n ?_
      refine wp_seq ?_
      refine region_seq ?_
      revert a
      refine mA rfl rfl ?_
      refine sA (v := .agg #[.bool (neg x), .slice A (zl x) c]) rfl (fun _ henv => rn_load0 henv ty_anvil_integer_Int rfl (hst.oat (k := 1) rfl) rfl) ?_
      refine sA (v := .agg #[.bool (neg y), .slice C (zl y) d]) rfl (fun _ henv => rn_load0 henv ty_anvil_integer_Int rfl (hst.oat (k := 0) rfl) rfl) ?_
      intro a henv
      refine seq_step rfl (op_callc (vs := #[.agg #[.bool (neg x), .slice A (zl x) c], .agg #[.bool (neg y), .slice C (zl y) d]]) henv rfl Tryd.call56 rfl rfl (calls_app (by simp) (ps_one (x := x) (y := y) (show ZIn _ A c x from hst.pat (k := 1) rfl) (show ZIn _ C d y from hst.pat (k := 0) rfl))) ?_)
      rintro e w60 ⟨rfl, hb⟩
      refine ⟨_, rfl, ?_⟩
      clear henv a; intro a henv
      replace hst := hst.call hb
      clear hb
      refine sv (v := .bool (!(decide (x = y)))) henv rfl (rn_un henv rfl rfl) ?_
      clear henv a; intro a henv
      refine wpList_nil ?_
      refine th_n ?_
      refine if_split henv rfl (fun hc61 => ?_) (fun hc61 => ?_)
      · have hxy : ¬ x = y := by have := hc61; simpa using this
        refine wp_seq ?_
        refine region_seq ?_
        refine sv (v := .bool false) henv rfl (rn_assign henv rfl) ?_
        clear henv a; intro a henv
        refine wpList_nil ?_
        refine th_n ?_
        refine wp_ret ?_
        refine bl_r (th_r (th_r (bl_r (th_r ?_))))
        refine leave henv (res1 Tryd.results55 (RV.tmp henv rfl)) ?_
        first | exact ⟨by rw [decide_eq_false (eq_ne hz0 hlen0 hz1 hlen1 hne)], hst.below⟩ | exact ⟨by rw [decide_eq_false (eq_at hz0 hz1 he0 he1 hxy)], hst.below⟩
      · have hxy : x = y := by have := hc61; simpa using this
        refine wp_skip ?_
        refine bl_n (th_n ?_)
        refine region_seq ?_
        revert a
        refine sA (v := .int .i64 (j + 1 : Nat)) rfl (fun _ henv => rn_add henv rfl rfl (by rw [IntWalk.i64_in _ (by omega)]; omega)) ?_
        refine mA rfl rfl ?_
        intro a henv
        refine wpList_nil ?_
        exact th_n ⟨_, (by omega), ⟨j + 1, rfl, henv.sub ⟨rfl, rfl, rfl, rfl, rfl, trivial⟩, hst.pick [] [2, 3] (by decide), (by omega), (by rw [zts hz0 he0, zts hz1 he1, he, hxy])⟩⟩
    · have hjn : j = n0 := by have := of_decide_eq_false hc53; omega
      refine wp_exit ?_
      refine th_x (th_x (bl_x (th_n ?_)))
      refine wp_seq ?_
      refine region_seq ?_
      refine sv (v := .bool true) henv rfl (rn_assign henv rfl) ?_
      clear henv a; intro a henv
      refine wpList_nil ?_
      refine th_n ?_
      refine wp_ret ?_
      refine leave henv (res1 Tryd.results55 (RV.tmp henv rfl)) ?_
      have hall : xs = ys := eq_full hz0 hlen0 hz1 hlen1 (hnn ▸ rfl) (hjn ▸ he)
      exact ⟨by rw [decide_eq_true hall], hst.below⟩
set_option maxRecDepth 100000 in
set_option maxHeartbeats 2000000 in
theorem p_same {A0 A1 : Option Addr} {n0 n1 c0 c1 : Nat} {es0 es1 : List NE} {xs ys : List Int} {w0 : World} (h0 : (pfRow fN FN 2 A0 n0 c0 es0).P w0) (hz0 : es0.map zz = xs) (h1 : (pfRow fN FN 2 A1 n1 c1 es1).P w0) (hz1 : es1.map zz = ys) (hn0 : n0 ≤ 10000000) (hn1 : n1 ≤ 10000000) :
    Calls Tryd.prog 19 #[.slice A0 n0 c0, .slice A1 n1 c1] w0 fun e w' => e = .returned (.bool (decide (trimN xs = trimN ys))) ∧ Below w0.heap.size w0 w' := by
  refine enter Tryd.func19 rfl Tryd.ntmps19 rfl ?_
  intro a henv hst
  have hlen0 := h0.2.1
  have hlen1 := h1.2.1
  have hbig0 := Nat.le_trans h0.1.cap h0.1.big
  unfold maxLen at hbig0
  replace hst := (hst.argRow h1).argRow h0
  clear h0 h1
  refine wp_seq ?_
  refine region_seq ?_
  refine sv (v := .bool false) henv rfl (rn_assign henv rfl) ?_
  clear henv a; intro a henv
  refine wpList_nil ?_
  refine th_n ?_
  refine wp_seq ?_
  refine region_seq ?_
  refine sv (v := .slice A0 n0 c0) henv rfl (rn_move henv rfl) ?_
  clear henv a; intro a henv
  refine seq_step rfl (op_call henv rfl Tryd.call27 rfl (p_trim (hst.pat (k := 0) rfl) hz0 (by omega)) ?_)
  rintro e w57 ⟨_, rfl, ⟨A51, c52, es53, rfl, hr, hl54, hz55, hn56⟩, hb⟩
  refine ⟨_, rfl, ?_⟩
  clear henv a; intro a henv
  replace hst := hst.freshRd hb hr hl54 (ap_N hr.2.1 trivial)
  clear hr
  clear hb
  refine sv (v := .slice A1 n1 c1) henv rfl (rn_move henv rfl) ?_
  clear henv a; intro a henv
  refine seq_step rfl (op_call henv rfl Tryd.call27 rfl (p_trim (hst.pat (k := 2) rfl) hz1 (by omega)) ?_)
  rintro e w64 ⟨_, rfl, ⟨A58, c59, es60, rfl, hr, hl61, hz62, hn63⟩, hb⟩
  refine ⟨_, rfl, ?_⟩
  clear henv a; intro a henv
  replace hst := hst.freshRd hb hr hl61 (ap_N hr.2.1 trivial)
  clear hr
  clear hb
  refine seq_step rfl (op_call henv rfl Tryd.call55 rfl (ps_func (hst.pat (k := 1) rfl) hz55 (hst.pat (k := 0) rfl) hz62) ?_)
  rintro e w65 ⟨rfl, hb⟩
  refine ⟨_, rfl, ?_⟩
  clear henv a; intro a henv
  replace hst := hst.call hb
  clear hb
  refine sv (v := .bool (decide (trimN xs = trimN ys))) henv rfl (rn_assign henv rfl) ?_
  clear henv a; intro a henv
  refine wpList_nil ?_
  refine th_n ?_
  refine wp_ret ?_
  refine leave henv (res1 Tryd.results19 (RV.tmp henv rfl)) ?_
  exact ⟨rfl, hst.below⟩
set_option maxRecDepth 100000 in
set_option maxHeartbeats 2000000 in
theorem is20_one {A B : Option Addr} {c d : Nat} {x y : Int} {w0 : World} (hx : ZIn w0 A c x) (hy : RIn w0 B d y) (hn : zl x ≤ 20000) (hm : dl y ≤ 60000) :
    Calls Tryd.prog 60 #[.agg #[.bool (neg x), .slice A (zl x) c], .agg #[.bool (neg y), .slice B (dl y) d]] w0 fun e w' => e = .returned (.bool (decide (x = y))) ∧ Below w0.heap.size w0 w' := by
  refine enter Tryd.func60 rfl Tryd.ntmps60 rfl ?_
  intro a henv hst
  replace hst := (hst.addZ hx trivial).addR hy trivial
  clear hx hy
  refine wp_seq ?_
  refine region_seq ?_
  refine seq_step rfl (op_box (c := #[.bool (neg x), .slice A (zl x) c]) henv hst rfl rfl rfl ?_)
  clear henv hst a; intro a w52 g51 henv hst
  refine seq_step rfl (op_box (c := #[.bool (neg y), .slice B (dl y) d]) henv hst rfl rfl rfl ?_)
  clear henv hst a; intro a w54 g53 henv hst
  refine sv (v := .bool false) henv rfl (rn_assign henv rfl) ?_
  clear henv a; intro a henv
  refine wpList_nil ?_
  refine th_n ?_
  refine wp_seq ?_
  refine region_any (n := 6) (Sk [bk g53 #[.bool (neg y), .slice B (dl y) d] 39, bk g51 #[.bool (neg x), .slice A (zl x) c] 28] [pfR B d y, pfZ A c x] [] []) mixed rfl henv hst ?_
  clear henv hst; intro w55 henv hst
  refine tL (i := 0) 1 1 [1, 3, 4, 5] rfl (by kernel_rfl) (fun _ _ _ h => h) henv rfl ty_anvil_integer_Int rfl hst rfl rfl rfl ?_
  clear henv a; intro a henv
  refine tL (i := 2) 0 0 [3, 4, 5] rfl (by kernel_rfl) (fun _ _ _ h => h) henv rfl ty_anvil_anvilref02_Int rfl hst rfl rfl rfl ?_
  clear henv a; intro a henv
  refine sAny_one (i := 1) (by kernel_rfl) rfl rfl (op_call henv rfl Tryd.call15 rfl (text_z (z := x) (show ZIn _ A c x from hst.pat (k := 1) rfl) (by omega)) ?_)
  rintro e w56 ⟨rfl, hb⟩
  refine ⟨_, rfl, ?_⟩
  clear henv a; intro a henv
  replace hst := hst.call hb
  clear hb
  refine ⟨.inr ⟨hst.kn.pick [0, 1] [0, 1], .inr (hst.kn.pick [] [])⟩, ?_⟩
  refine sAny_one (i := 3) (by kernel_rfl) rfl rfl (op_call henv rfl Tryd.call16 rfl (text_r (z := y) (show RIn _ B d y from hst.pat (k := 0) rfl) (by omega)) ?_)
  rintro e w57 ⟨rfl, hb⟩
  refine ⟨_, rfl, ?_⟩
  clear henv a; intro a henv
  replace hst := hst.call hb
  clear hb
  refine ⟨.inr ⟨hst.kn.pick [0, 1] [0, 1], .inr (hst.kn.pick [] [])⟩, ?_⟩
  refine tA (i := 4) [5] (v := .bool (decide ((textZ x) = (textZ y)))) rfl (by kernel_rfl) (fun _ _ _ h => h) henv rfl (fun _ => rn_eqls (s := (textZ x)) (t := (textZ y)) henv rfl rfl) ?_
  clear henv a; intro a henv
  refine tA (i := 5) [] (v := .bool (decide ((textZ x) = (textZ y)))) rfl (by kernel_rfl) (fun _ _ _ h => h) henv rfl (fun _ => rn_assign henv rfl) ?_
  clear henv a; intro a henv
  refine sAny_done (by kernel_rfl) ?_ _
  refine th_n ?_
  refine wp_ret ?_
  refine leave henv (res1 Tryd.results60 (RV.tmp henv rfl)) ?_
  exact ⟨congrArg (fun b => Ending.returned (Value.bool b)) (decide_eq_decide.2 tz_iff), hst.below⟩
set_option maxRecDepth 100000 in
set_option maxHeartbeats 2000000 in
theorem eq20_func {A0 A1 : Option Addr} {n0 n1 c0 c1 : Nat} {es0 es1 : List NE} {xs ys : List Int} {w0 : World} (h0 : (pfRow fN FN 2 A0 n0 c0 es0).P w0) (hz0 : es0.map zz = xs) (h1 : (pfRow fM FM 2 A1 n1 c1 es1).P w0) (hz1 : es1.map zz = ys) (hk0 : Zk 20000 xs) (hk1 : Zk 20000 ys) :
    Calls Tryd.prog 59 #[.slice A0 n0 c0, .slice A1 n1 c1, .func (.func 60) #[] #[]] w0 fun e w' => e = .returned (.bool (decide (xs = ys))) ∧ Below w0.heap.size w0 w' := by
  have hb0 := hk0.es hz0
  have hb1 := hk1.es hz1
  refine enter Tryd.func59 rfl Tryd.ntmps59 rfl ?_
  intro a henv hst
  have hlen0 := h0.2.1
  have hlen1 := h1.2.1
  have hbig0 := Nat.le_trans h0.1.cap h0.1.big
  unfold maxLen at hbig0
  replace hst := (hst.argRow h1).argRow h0
  clear h0 h1
  refine wp_seq ?_
  refine region_seq ?_
  refine sv (v := .bool false) henv rfl (rn_assign henv rfl) ?_
  clear henv a; intro a henv
  refine wpList_nil ?_
  refine th_n ?_
  refine wp_seq ?_
  refine wp_seq ?_
  refine region_seq ?_
  revert a
  refine mA rfl rfl ?_
  refine sA (v := .int .i64 (n0 : Nat)) rfl (fun _ henv => rn_len henv Tryd.underlying32 rfl) ?_
  refine mA rfl rfl ?_
  refine sA (v := .int .i64 (n1 : Nat)) rfl (fun _ henv => rn_len henv Tryd.underlying42 rfl) ?_
  refine sA (v := .bool (((n0 : Nat) : Int) != ((n1 : Nat) : Int))) rfl (fun _ henv => rn_bin henv rfl rfl rfl) ?_
  intro a henv
  refine wpList_nil ?_
  refine th_n ?_
  refine if_split henv rfl (fun hc51 => ?_) (fun hc51 => ?_)
  · have hne : n0 ≠ n1 := by have := hc51; simp at this; omega
    refine wp_seq ?_
    refine region_seq ?_
    refine sv (v := .bool false) henv rfl (rn_assign henv rfl) ?_
    clear henv a; intro a henv
    refine wpList_nil ?_
    refine th_n ?_
    refine wp_ret ?_
    refine th_r ?_
    refine leave henv (res1 Tryd.results59 (RV.tmp henv rfl)) ?_
    first | exact ⟨by rw [decide_eq_false (eq_ne hz0 hlen0 hz1 hlen1 hne)], hst.below⟩ | exact ⟨by rw [decide_eq_false (eq_at hz0 hz1 he0 he1 hxy)], hst.below⟩
  · have hnn : n0 = n1 := by have := hc51; simp at this; omega
    refine wp_skip ?_
    refine th_n ?_
    refine wp_seq ?_
    refine wp_seq ?_
    refine region_seq ?_
    revert a
    refine mA rfl rfl ?_
    refine sA (v := .int .i64 (n0 : Nat)) rfl (fun _ henv => rn_len henv Tryd.underlying32 rfl) ?_
    refine mA rfl rfl ?_
    intro a henv
    refine wpList_nil ?_
    refine th_n ?_
    refine wp_block ?_
    refine wp_loop_ghost (fun mz a w => ∃ j : Nat, n0 - j = mz ∧ Env 32 a [(1, .slice A1 n1 c1), (2, .func (.func 60) #[] #[]), (15, .slice A0 n0 c0), (16, .int .i64 (n0 : Nat)), (17, .int .i64 (j : Nat))] ∧ St w0 w [] [pfRow fN FN 2 A0 n0 c0 es0, pfRow fM FM 2 A1 n1 c1 es1] ∧ j ≤ n0 ∧ xs.take j = ys.take j) _ ⟨0, rfl, henv.sub ⟨rfl, rfl, rfl, rfl, rfl, trivial⟩, hst.pick [] [0, 1] (by decide), (Nat.zero_le _), rfl⟩ ?_
    clear henv hst a
    rintro mz a w52 ⟨j, rfl, henv, hst, hj, he⟩
    refine wp_seq ?_
    refine region_seq ?_
    refine sv (v := .bool (decide (((j : Nat) : Int) < ((n0 : Nat) : Int)))) henv rfl (rn_bin henv rfl rfl rfl) ?_
    clear henv a; intro a henv
    refine wpList_nil ?_
    refine th_n ?_
    refine wp_seq ?_
    refine if_split henv rfl (fun hc53 => ?_) (fun hc53 => ?_)
    · have hlt : j < n0 := by have := of_decide_eq_true hc53; omega
      obtain ⟨⟨A, c, x⟩, he0⟩ : ∃ e, es0[j]? = some e := ⟨_, List.getElem?_eq_getElem (by omega)⟩
      replace hst := hst.elem (k := 0) rfl he0
      replace hst : St w0 _ [] [pfZ A c x, pfRow fN FN 2 A0 n0 c0 es0, pfRow fM FM 2 A1 n1 c1 es1] := hst
      obtain ⟨⟨C, d, y⟩, he1⟩ : ∃ e, es1[j]? = some e := ⟨_, List.getElem?_eq_getElem (by omega)⟩
      replace hst := hst.elem (k := 2) rfl he1
      replace hst : St w0 _ [] [pfR C d y, pfZ A c x, pfRow fN FN 2 A0 n0 c0 es0, pfRow fM FM 2 A1 n1 c1 es1] := hst
      have hx1 := hb0.at he0
      have hy1 := hb1.at he1
      have hdy := dl_zl y
      refine wp_skip ?_
      refine th_n ?_
      refine wp_seq ?_
      refine wp_block ?_
      refine wp_seq ?_
      refine region_seq ?_
      revert a
      refine mA rfl rfl ?_
      refine sA (v := .pointer (some ⟨ab A0, ao A0 + j * 2, none⟩)) rfl (fun _ henv => rn_idxR (i := j) henv Tryd.underlying32 (ty_anvil_integer_Int.size) rfl rfl (by omega) rfl (show (pfRow fN FN 2 A0 n0 c0 es0).P _ from (hst.pat (k := 2) rfl)).1) ?_
      refine sA (v := .agg #[.bool (neg x), .slice A (zl x) c]) rfl (fun _ henv => rn_loadE (i := j) (e := (A, c, x)) henv ty_anvil_integer_Int rfl rfl fN_len (show (pfRow fN FN 2 A0 n0 c0 es0).P _ from (hst.pat (k := 2) rfl)).1 (by omega) he0 rfl) ?_
      intro a henv
      refine seq_step rfl (op_alloc (c := #[.bool (neg 0), .slice none (zl 0) 0]) henv hst rfl zero_anvil_integer_Int zcells ?_)
      clear henv hst a; intro a w55 g54 henv hst
      refine sv (v := .int .i64 (j : Nat)) henv rfl (rn_assign henv rfl) ?_
      clear henv a; intro a henv
      refine seq_step rfl (op_store (k := 0) (c' := #[.bool (neg x), .slice A (zl x) c]) henv hst (ty_anvil_integer_Int.size) rfl rfl rfl rfl (by simp) rfl rfl ?_)
      clear henv hst a; intro a w56 henv hst
      refine wpList_nil ?_
      refine th_n ?_
      refine wp_seq ?_
      refine region_seq ?_
      revert a
      refine mA rfl rfl ?_
      refine mA rfl rfl ?_
      refine sA (v := .pointer (some ⟨ab A1, ao A1 + j * 2, none⟩)) rfl (fun _ henv => rn_idxR (i := j) henv Tryd.underlying42 (ty_anvil_anvilref02_Int.size) rfl rfl (by omega) rfl (show (pfRow fM FM 2 A1 n1 c1 es1).P _ from (hst.pat (k := 3) rfl)).1) ?_
      refine sA (v := .agg #[.bool (neg y), .slice C (dl y) d]) rfl (fun _ henv => rn_loadE (i := j) (e := (C, d, y)) henv ty_anvil_anvilref02_Int rfl rfl fM_len (show (pfRow fM FM 2 A1 n1 c1 es1).P _ from (hst.pat (k := 3) rfl)).1 (by omega) he1 rfl) ?_
      intro a henv
      refine seq_step rfl (op_alloc (c := #[.bool (neg 0), .slice none (dl 0) 0]) henv hst rfl zero_anvil_anvilref02_Int rcells ?_)
      clear henv hst a; intro a w58 g57 henv hst
      refine seq_step rfl (op_store (k := 0) (c' := #[.bool (neg y), .slice C (dl y) d]) henv hst (ty_anvil_anvilref02_Int.size) rfl rfl rfl rfl (by simp) rfl rfl ?_)
      clear henv hst a; intro a w59 henv hst
      refine wpList_nil ?_
      refine th_n ?_
      refine wp_seq ?_
      refine region_seq ?_
      revert a
      refine mA rfl rfl ?_
      refine sA (v := .agg #[.bool (neg x), .slice A (zl x) c]) rfl (fun _ henv => rn_load0 henv ty_anvil_integer_Int rfl (hst.oat (k := 1) rfl) rfl) ?_
      refine sA (v := .agg #[.bool (neg y), .slice C (dl y) d]) rfl (fun _ henv => rn_load0 henv ty_anvil_anvilref02_Int rfl (hst.oat (k := 0) rfl) rfl) ?_
      intro a henv
      refine seq_step rfl (op_callc (vs := #[.agg #[.bool (neg x), .slice A (zl x) c], .agg #[.bool (neg y), .slice C (dl y) d]]) henv rfl Tryd.call60 rfl rfl (calls_app (by simp) (is20_one (x := x) (y := y) (show ZIn _ A c x from hst.pat (k := 1) rfl) (show RIn _ C d y from hst.pat (k := 0) rfl) (by omega) (by omega))) ?_)
      rintro e w60 ⟨rfl, hb⟩
      refine ⟨_, rfl, ?_⟩
      clear henv a; intro a henv
      replace hst := hst.call hb
      clear hb
      refine sv (v := .bool (!(decide (x = y)))) henv rfl (rn_un henv rfl rfl) ?_
      clear henv a; intro a henv
      refine wpList_nil ?_
      refine th_n ?_
      refine if_split henv rfl (fun hc61 => ?_) (fun hc61 => ?_)
      · have hxy : ¬ x = y := by have := hc61; simpa using this
        refine wp_seq ?_
        refine region_seq ?_
        refine sv (v := .bool false) henv rfl (rn_assign henv rfl) ?_
        clear henv a; intro a henv
        refine wpList_nil ?_
        refine th_n ?_
        refine wp_ret ?_
        refine bl_r (th_r (th_r (bl_r (th_r ?_))))
        refine leave henv (res1 Tryd.results59 (RV.tmp henv rfl)) ?_
        first | exact ⟨by rw [decide_eq_false (eq_ne hz0 hlen0 hz1 hlen1 hne)], hst.below⟩ | exact ⟨by rw [decide_eq_false (eq_at hz0 hz1 he0 he1 hxy)], hst.below⟩
      · have hxy : x = y := by have := hc61; simpa using this
        refine wp_skip ?_
        refine bl_n (th_n ?_)
        refine region_seq ?_
        revert a
        refine sA (v := .int .i64 (j + 1 : Nat)) rfl (fun _ henv => rn_add henv rfl rfl (by rw [IntWalk.i64_in _ (by omega)]; omega)) ?_
        refine mA rfl rfl ?_
        intro a henv
        refine wpList_nil ?_
        exact th_n ⟨_, (by omega), ⟨j + 1, rfl, henv.sub ⟨rfl, rfl, rfl, rfl, rfl, trivial⟩, hst.pick [] [2, 3] (by decide), (by omega), (by rw [zts hz0 he0, zts hz1 he1, he, hxy])⟩⟩
    · have hjn : j = n0 := by have := of_decide_eq_false hc53; omega
      refine wp_exit ?_
      refine th_x (th_x (bl_x (th_n ?_)))
      refine wp_seq ?_
      refine region_seq ?_
      refine sv (v := .bool true) henv rfl (rn_assign henv rfl) ?_
      clear henv a; intro a henv
      refine wpList_nil ?_
      refine th_n ?_
      refine wp_ret ?_
      refine leave henv (res1 Tryd.results59 (RV.tmp henv rfl)) ?_
      have hall : xs = ys := eq_full hz0 hlen0 hz1 hlen1 (hnn ▸ rfl) (hjn ▸ he)
      exact ⟨by rw [decide_eq_true hall], hst.below⟩
set_option maxRecDepth 100000 in
set_option maxHeartbeats 2000000 in
theorem p20_is {A0 A1 : Option Addr} {n0 n1 c0 c1 : Nat} {es0 es1 : List NE} {xs ys : List Int} {w0 : World} (h0 : (pfRow fN FN 2 A0 n0 c0 es0).P w0) (hz0 : es0.map zz = xs) (h1 : (pfRow fM FM 2 A1 n1 c1 es1).P w0) (hz1 : es1.map zz = ys) (hk0 : Zk 20000 xs) (hk1 : Zk 20000 ys) (hnil : n0 = 0 → A0 = none) :
    Calls Tryd.prog 26 #[.slice A0 n0 c0, .slice A1 n1 c1] w0 fun e w' => e = .returned (.bool (decide (xs = ys))) ∧ Below w0.heap.size w0 w' := by
  refine enter Tryd.func26 rfl Tryd.ntmps26 rfl ?_
  intro a henv hst
  have hlen0 := h0.2.1
  have hlen1 := h1.2.1
  have hbig0 := Nat.le_trans h0.1.cap h0.1.big
  unfold maxLen at hbig0
  replace hst := (hst.argRow h1).argRow h0
  clear h0 h1
  refine wp_seq ?_
  refine region_seq ?_
  refine sv (v := .bool false) henv rfl (rn_assign henv rfl) ?_
  clear henv a; intro a henv
  refine wpList_nil ?_
  refine th_n ?_
  refine wp_seq ?_
  refine region_seq ?_
  revert a
  refine mA rfl rfl ?_
  refine mA rfl rfl ?_
  intro a henv
  refine seq_step rfl (op_call henv rfl Tryd.call59 rfl (eq20_func (hst.pat (k := 0) rfl) hz0 (hst.pat (k := 1) rfl) hz1 hk0 hk1) ?_)
  rintro e w51 ⟨rfl, hb⟩
  refine ⟨_, rfl, ?_⟩
  clear henv a; intro a henv
  replace hst := hst.call hb
  clear hb
  refine sv (v := .bool (decide (xs = ys))) henv rfl (rn_move henv rfl) ?_
  clear henv a; intro a henv
  rcases bool_em (decide (xs = ys)) with hg52 | hg52
  · rw [hg52] at henv
    revert a
    refine gA (v := .slice A0 n0 c0) rfl rfl rfl rfl (fun _ henv => rn_move henv rfl) ?_
    refine gA (v := .bool A0.isNone) rfl rfl rfl rfl (fun _ henv => rn_nilS henv Tryd.underlying32 rfl) ?_
    refine gA (v := .slice A0 n0 c0) rfl rfl rfl rfl (fun _ henv => rn_move henv rfl) ?_
    refine gA (v := .int .i64 (n0 : Nat)) rfl rfl rfl rfl (fun _ henv => rn_len henv Tryd.underlying32 rfl) ?_
    refine gA (v := .bool (((n0 : Nat) : Int) == (0 : Int))) rfl rfl rfl rfl (fun _ henv => rn_bin henv rfl rfl rfl) ?_
    refine gA (v := .bool (A0.isNone == (((n0 : Nat) : Int) == (0 : Int)))) rfl rfl rfl rfl (fun _ henv => rn_eqlb henv Tryd.underlying4 rfl rfl) ?_
    intro a henv
    rw [show (A0.isNone == (((n0 : Nat) : Int) == (0 : Int))) = true from (nil_eq hnil (row_none (hst.pat (k := 0) rfl)))] at henv
    revert a
    refine sA (v := .bool true) rfl (fun _ henv => rn_pick henv rfl rfl) ?_
    refine aA rfl rfl ?_
    intro a henv
    refine wpList_nil ?_
    refine th_n ?_
    refine wp_ret ?_
    refine leave henv (res1 Tryd.results26 (RV.tmp henv rfl)) ?_
    exact ⟨by rw [hg52], hst.below⟩
  · rw [hg52] at henv
    revert a
    refine kA rfl rfl rfl rfl rfl ?_
    refine kA rfl rfl rfl rfl rfl ?_
    refine kA rfl rfl rfl rfl rfl ?_
    refine kA rfl rfl rfl rfl rfl ?_
    refine kA rfl rfl rfl rfl rfl ?_
    refine kA rfl rfl rfl rfl rfl ?_
    refine sA (v := .bool false) rfl (fun _ henv => rn_pick henv rfl rfl) ?_
    refine aA rfl rfl ?_
    intro a henv
    refine wpList_nil ?_
    refine th_n ?_
    refine wp_ret ?_
    refine leave henv (res1 Tryd.results26 (RV.tmp henv rfl)) ?_
    exact ⟨by rw [hg52], hst.below⟩
set_option maxRecDepth 100000 in
set_option maxHeartbeats 2000000 in
theorem p_text {A0 : Option Addr} {n0 c0 : Nat} {es0 : List NE} {xs : List Int} {w0 : World} (h0 : (pfRow fN FN 2 A0 n0 c0 es0).P w0) (hz0 : es0.map zz = xs) (hk : Zk 90000 xs) (hn : n0 ≤ 1000000) :
    Calls Tryd.prog 45 #[.slice A0 n0 c0] w0 fun e w' => e = .returned (.string ⟨(textRow xs).toArray⟩) ∧ Below w0.heap.size w0 w' := by
  refine enter Tryd.func45 rfl Tryd.ntmps45 rfl ?_
  intro a henv hst
  have hlen0 := h0.2.1
  have hbig0 := Nat.le_trans h0.1.cap h0.1.big
  unfold maxLen at hbig0
  replace hst := hst.argRow h0
  clear h0
  refine wp_seq ?_
  refine region_seq ?_
  refine sv (v := .string ⟨#[]⟩) henv rfl (rn_assign henv rfl) ?_
  clear henv a; intro a henv
  refine wpList_nil ?_
  refine th_n ?_
  refine wp_seq ?_
  refine region_seq ?_
  refine sv (v := .slice A0 n0 c0) henv rfl (rn_move henv rfl) ?_
  clear henv a; intro a henv
  refine seq_step rfl (op_call henv rfl Tryd.call79 rfl (row_text' (hst.pat (k := 0) rfl) hz0 hk hn) ?_)
  rintro e w51 ⟨rfl, hb⟩
  refine ⟨_, rfl, ?_⟩
  clear henv a; intro a henv
  replace hst := hst.call hb
  clear hb
  refine sv (v := .string ⟨(textRow xs).toArray⟩) henv rfl (rn_assign henv rfl) ?_
  clear henv a; intro a henv
  refine wpList_nil ?_
  refine th_n ?_
  refine wp_ret ?_
  refine leave henv (res1 Tryd.results45 (RV.tmp henv rfl)) ?_
  exact ⟨rfl, hst.below⟩
set_option maxRecDepth 100000 in
set_option maxHeartbeats 4000000 in
theorem p20_works {w0 : World} :
    Calls Tryd.prog 10 #[] w0 fun e w' => e = .returned (.bool true) ∧ Below w0.heap.size w0 w' := by
  refine enter Tryd.func10 rfl Tryd.ntmps10 rfl ?_
  intro a henv hst
  refine wp_seq ?_
  refine region_seq ?_
  refine sv (v := .bool false) henv rfl (rn_assign henv rfl) ?_
  clear henv a; intro a henv
  refine wpList_nil ?_
  refine th_n ?_
  refine wp_seq ?_
  refine region_seq ?_
  refine seq_step rfl (op_buildSlice (z := 1) (pv := #[(0, .int .i64 1), (1, .int .i64 2)]) (c := #[.int .i64 1, .int .i64 2]) henv hst rfl Tryd.underlying22 (ty_int64.size) zero_int64 (by decide) (by decide) rfl (by kernel_rfl) ?_)
  clear henv hst a; intro a w52 g51 henv hst
  replace hst := hst.giveBk (f := fI) (F := FI) (k := 0) (n := 2) (es := [1, 2]) rfl rfl fI_len rfl (by decide) (esT_P (fun _ => rfl) _ _) (fun _ _ _ _ => esT_foot (fun _ => rfl))
  refine seq_step rfl (op_call henv rfl Tryd.call12 rfl (p20_list (es0 := [1, 2]) (hst.pat (k := 0) rfl) (by unfold I64; decide) (by omega)) ?_)
  rintro e w60 ⟨_, rfl, ⟨g53, ps54, rfl, hr, hl55, hz56⟩, hb⟩
  refine ⟨_, rfl, ?_⟩
  clear henv a; intro a henv
  replace hst := hst.freshRd hb hr hl55 (ap_N hr.2.1 trivial)
  clear hr
  obtain ⟨es57, hst, hl58, hz59⟩ := hst.listRow (k := 0) (n := 2) rfl hz56 (rfl)
  clear hb
  refine seq_step rfl (op_buildSlice (z := 1) (pv := #[(0, .int .i64 3), (1, .int .i64 4), (2, .int .i64 5)]) (c := #[.int .i64 3, .int .i64 4, .int .i64 5]) henv hst rfl Tryd.underlying22 (ty_int64.size) zero_int64 (by decide) (by decide) rfl (by kernel_rfl) ?_)
  clear henv hst a; intro a w62 g61 henv hst
  replace hst := hst.giveBk (f := fI) (F := FI) (k := 0) (n := 3) (es := [3, 4, 5]) rfl rfl fI_len rfl (by decide) (esT_P (fun _ => rfl) _ _) (fun _ _ _ _ => esT_foot (fun _ => rfl))
  refine seq_step rfl (op_call henv rfl Tryd.call12 rfl (p20_list (es0 := [3, 4, 5]) (hst.pat (k := 0) rfl) (by unfold I64; decide) (by omega)) ?_)
  rintro e w70 ⟨_, rfl, ⟨g63, ps64, rfl, hr, hl65, hz66⟩, hb⟩
  refine ⟨_, rfl, ?_⟩
  clear henv a; intro a henv
  replace hst := hst.freshRd hb hr hl65 (ap_N hr.2.1 trivial)
  clear hr
  obtain ⟨es67, hst, hl68, hz69⟩ := hst.listRow (k := 0) (n := 3) rfl hz66 (rfl)
  clear hb
  refine seq_step rfl (op_call henv rfl Tryd.call24 rfl (p_mul (xs := [1, 2]) (ys := [3, 4, 5]) (hst.pat (k := 4) rfl) hz59 (hst.pat (k := 0) rfl) hz69 (zk_small (by decide)) (zk_small (by decide)) (by decide) (by decide) (by decide) (by decide)) ?_)
  rintro e w76 ⟨_, rfl, ⟨A71, c72, es73, rfl, hr, hl74, hz75⟩, hb⟩
  refine ⟨_, rfl, ?_⟩
  clear henv a; intro a henv
  replace hst := hst.freshRd hb hr hl74 (ap_N hr.2.1 trivial)
  clear hr
  clear hb
  revert a
  refine mA rfl rfl ?_
  refine sA (v := .slice A71 4 c72) rfl (fun _ henv => rn_extract henv rfl rfl) ?_
  refine sA (v := .int .i64 6) rfl (fun _ henv => rn_extract henv rfl rfl) ?_
  refine aA rfl rfl ?_
  refine aA rfl rfl ?_
  intro a henv
  refine wpList_nil ?_
  refine th_n ?_
  refine wp_seq ?_
  refine region_seq ?_
  revert a
  refine mA rfl rfl ?_
  refine sA (v := .bool true) rfl (fun _ henv => rn_bin henv rfl rfl rfl) ?_
  refine mA rfl rfl ?_
  refine gA (v := .slice A71 4 c72) rfl rfl rfl rfl (fun _ henv => rn_move henv rfl) ?_
  intro a henv
  refine seq_g rfl henv rfl rfl (op_buildSlice (z := 1) (pv := #[(0, .int .i64 3), (1, .int .i64 10), (2, .int .i64 13), (3, .int .i64 10)]) (c := #[.int .i64 3, .int .i64 10, .int .i64 13, .int .i64 10]) henv hst rfl Tryd.underlying22 (ty_int64.size) zero_int64 (by decide) (by decide) rfl (by kernel_rfl) ?_)
  clear henv hst a; intro a w78 g77 henv hst
  replace hst := hst.giveBk (f := fI) (F := FI) (k := 0) (n := 4) (es := [3, 10, 13, 10]) rfl rfl fI_len rfl (by decide) (esT_P (fun _ => rfl) _ _) (fun _ _ _ _ => esT_foot (fun _ => rfl))
  refine seq_g rfl henv rfl rfl (op_call henv rfl Tryd.call18 rfl (p20_ref (es0 := [3, 10, 13, 10]) (hst.pat (k := 0) rfl) (by unfold I64; decide) (by omega)) ?_)
  rintro e w85 ⟨_, rfl, ⟨A79, c80, es81, rfl, hr, hl82, hz83, hn84⟩, hb⟩
  refine ⟨_, rfl, ?_⟩
  clear henv a; intro a henv
  replace hst := hst.freshRd hb hr hl82 (ap_M hr.2.1 trivial)
  clear hr
  clear hb
  refine seq_g rfl henv rfl rfl (op_call henv rfl Tryd.call26 rfl (p20_is (xs := [3, 10, 13, 10]) (ys := [3, 10, 13, 10]) (hst.pat (k := 3) rfl) (hz75.trans (show _ = [3, 10, 13, 10] by decide)) (hst.pat (k := 0) rfl) hz83 (zk_small (by decide)) (zk_small (by decide)) (fun h => absurd h (by decide))) ?_)
  rintro e w86 ⟨rfl, hb⟩
  refine ⟨_, rfl, ?_⟩
  clear henv a; intro a henv
  replace hst := hst.call hb
  clear hb
  rw [show (decide (([3, 10, 13, 10] : List Int) = [3, 10, 13, 10])) = true from (decide_eq_true rfl)] at henv
  revert a
  refine sA (v := .bool true) rfl (fun _ henv => rn_pick henv rfl rfl) ?_
  refine mA rfl rfl ?_
  refine gA (v := .slice A71 4 c72) rfl rfl rfl rfl (fun _ henv => rn_move henv rfl) ?_
  intro a henv
  refine seq_g rfl henv rfl rfl (op_call henv rfl Tryd.call45 rfl (p_text (xs := [3, 10, 13, 10]) (hst.pat (k := 3) rfl) (hz75.trans (show _ = [3, 10, 13, 10] by decide)) (zk_small (by decide)) (by omega)) ?_)
  rintro e w87 ⟨rfl, hb⟩
  refine ⟨_, rfl, ?_⟩
  clear henv a; intro a henv
  replace hst := hst.call hb
  clear hb
  refine seq_g rfl henv rfl rfl (op_val (v := .bool (decide ((textRow ([3, 10, 13, 10])) = [91, 51, 32, 49, 48, 32, 49, 51, 32, 49, 48, 93]))) henv rfl (rn_eqls (s := (textRow ([3, 10, 13, 10]))) (t := [91, 51, 32, 49, 48, 32, 49, 51, 32, 49, 48, 93]) henv rfl rfl) ?_)
  clear henv a; intro a henv
  rw [show (decide ((textRow ([3, 10, 13, 10])) = [91, 51, 32, 49, 48, 32, 49, 51, 32, 49, 48, 93])) = true from (decide_eq_true (by decide +kernel))] at henv
  revert a
  refine sA (v := .bool true) rfl (fun _ henv => rn_pick henv rfl rfl) ?_
  refine mA rfl rfl ?_
  refine gA (v := .slice A71 4 c72) rfl rfl rfl rfl (fun _ henv => rn_move henv rfl) ?_
  intro a henv
  refine seq_g rfl henv rfl rfl (op_call henv rfl Tryd.call23 rfl (p_deg (xs := [3, 10, 13, 10]) (hst.pat (k := 3) rfl) (hz75.trans (show _ = [3, 10, 13, 10] by decide)) (by omega)) ?_)
  rintro e w88 ⟨rfl, hb⟩
  refine ⟨_, rfl, ?_⟩
  clear henv a; intro a henv
  replace hst := hst.call hb
  clear hb
  revert a
  refine gA (v := .bool true) rfl rfl rfl rfl (fun _ henv => rn_bin henv rfl rfl rfl) ?_
  refine sA (v := .bool true) rfl (fun _ henv => rn_pick henv rfl rfl) ?_
  refine aA rfl rfl ?_
  intro a henv
  refine wpList_nil ?_
  refine th_n ?_
  refine wp_ret ?_
  refine leave henv (res1 Tryd.results10 (RV.tmp henv rfl)) ?_
  exact ⟨rfl, hst.below⟩
end Go.Proofs.YtghaenkacjgdnaaDoor.W

/- PolyTexts, PolyBack: the laws' walks. Printed by pv/gen_po2.py. No condition. -/
namespace Go.Proofs.YtghaenkacjgdnaaDoor.W
open Go.RowKit Anv Go.Lib
theorem i64_zk {xs : List Int} (h : I64 xs) : Zk 2 xs := fun z hz => nl_le_of_lt (by have := h z hz; show z.natAbs < _; omega)
end Go.Proofs.YtghaenkacjgdnaaDoor.W

/- point.In, poly.At, the reference's; PolyAts. Printed by pv/gen_po3.py. No condition. -/
namespace Go.Proofs.YtghaenkacjgdnaaDoor.W
open Go.RowKit Anv Go.Lib
theorem bnot_t {b : Bool} (h : (!b) = true) : b = false := by cases b <;> simp_all
theorem bnot_f {b : Bool} (h : (!b) = false) : b = true := by cases b <;> simp_all
theorem zl_16 {b : Int} (h : I16 b) : zl b ≤ 1 := nl_le_of_lt (by unfold I16 at h; show b.natAbs < _; omega)
theorem zl_p16 {b : Int} (h : I16 b) (n : Nat) : zl (b ^ n) ≤ n + 1 := by
  have h1 := zl_pow b n
  have h2 := Nat.mul_le_mul_left n (zl_16 h)
  omega
theorem Zk.drop {k : Nat} {zs : List Int} (h : Zk k zs) (j : Nat) : Zk k (zs.drop j) := fun z hz => h z (List.mem_of_mem_drop hz)
end Go.Proofs.YtghaenkacjgdnaaDoor.W

/- placed for any function, Add, Sub, Mul, Shift. Printed by pv/gen_po4.py. No condition. -/
namespace Go.Proofs.YtghaenkacjgdnaaDoor.W
open Go.RowKit Anv Go.Lib
def gF (g : Int → Int → Int) (xs ys : List Int) (i : Nat) : Int := g (xs.getD i 0) (ys.getD i 0)
theorem gF_step {g : Int → Int → Int} {os : List NE} {xs ys : List Int} {i c : Nat} {A : Option Addr} {z : Int} (ho : os.map zz = (List.range i).map (gF g xs ys)) (h : gF g xs ys i = z) : (os ++ [(A, c, z)]).map zz = (List.range (i + 1)).map (gF g xs ys) := by
  rw [List.map_append, ho, List.range_succ, List.map_append, ← h]
  rfl
set_option maxRecDepth 100000 in
set_option maxHeartbeats 4000000 in
theorem p_placedG {E : PF} {f : FuncId} {first caps : Array Value} {g : Int → Int → Int} {A0 A1 : Option Addr} {n0 n1 c0 c1 : Nat} {es0 es1 : List NE} {xs ys : List Int} {w0 : World} (h0 : (pfRow fN FN 2 A0 n0 c0 es0).P w0) (hz0 : es0.map zz = xs) (h1 : (pfRow fN FN 2 A1 n1 c1 es1).P w0) (hz1 : es1.map zz = ys) (hE : E.P w0) (hcf : ∀ args w, (callFunc f args).run Tryd.prog w = .ok (.enter f args) w) (hf : ∀ (z y : Int) (A : Option Addr) (c : Nat) (B : Option Addr) (d : Nat) (w : World), zl z ≤ 1000 → zl y ≤ 1000 → E.P w → ZIn w A c z → ZIn w B d y → Calls Tryd.prog f (first ++ #[.agg #[.bool (neg z), .slice A (zl z) c], .agg #[.bool (neg y), .slice B (zl y) d]] ++ caps) w fun e w' => ∃ v, e = .returned v ∧ ZAt w' v (g z y) ∧ Below w.heap.size w w') (hk0 : Zk 1000 xs) (hk1 : Zk 1000 ys) (hn0 : n0 ≤ 100000) (hn1 : n1 ≤ 100000) :
    Calls Tryd.prog 57 #[.slice A0 n0 c0, .slice A1 n1 c1, .func (.func f) first caps] w0 fun e w' => ∃ v, e = .returned v ∧ ZRowN w0.heap.size w' v (max n0 n1) ((List.range (max n0 n1)).map (gF g xs ys)) ∧ Below w0.heap.size w0 w' := by
  refine enter Tryd.func57 rfl Tryd.ntmps57 rfl ?_
  intro a henv hst
  replace hst := hst.argP E hE
  have hlen0 := h0.2.1
  have hlen1 := h1.2.1
  replace hst := (hst.argRow h1).argRow h0
  clear h0 h1
  refine wp_seq ?_
  refine region_seq ?_
  refine sv (v := .slice none 0 0) henv rfl (rn_assign henv rfl) ?_
  clear henv a; intro a henv
  refine wpList_nil ?_
  refine th_n ?_
  refine wp_seq ?_
  refine region_seq ?_
  refine sv (v := .slice none 0 0) henv rfl (rn_assign henv rfl) ?_
  clear henv a; intro a henv
  refine wpList_nil ?_
  refine th_n ?_
  refine wp_seq ?_
  refine wp_seq ?_
  refine region_seq ?_
  revert a
  refine mA rfl rfl ?_
  refine sA (v := .int .i64 (n0 : Nat)) rfl (fun _ henv => rn_len henv Tryd.underlying32 rfl) ?_
  refine mA rfl rfl ?_
  refine sA (v := .int .i64 (n1 : Nat)) rfl (fun _ henv => rn_len henv Tryd.underlying32 rfl) ?_
  refine sA (v := .int .i64 (max n0 n1 : Nat)) rfl (fun _ henv => rn_maxN (m := n0) (n := n1) henv rfl rfl) ?_
  refine mA rfl rfl ?_
  intro a henv
  refine wpList_nil ?_
  refine th_n ?_
  refine wp_block ?_
  replace hst := (hst.addRowS notU 28 2).nilEs FN
  replace hst : St w0 _ [rowS notU 28 2 none 0 0 (fl fN ([]))] [pfEs FN ([]), pfRow fN FN 2 A0 n0 c0 es0, pfRow fN FN 2 A1 n1 c1 es1, E] := hst
  refine wp_loop_ghost (fun mz a w => ∃ i : Nat, ∃ B : Option Addr, ∃ d : Nat, ∃ os : List NE, max n0 n1 - i = mz ∧ Env 44 a [(0, .slice A0 n0 c0), (1, .slice A1 n1 c1), (2, .func (.func f) first caps), (7, .slice B i d), (15, .int .i64 (max n0 n1 : Nat)), (16, .int .i64 (i : Nat))] ∧ St w0 w [rowS notU 28 2 B i d (fl fN os)] [pfRow fN FN 2 A0 n0 c0 es0, pfRow fN FN 2 A1 n1 c1 es1, E, pfEs FN os] ∧ i ≤ max n0 n1 ∧ os.map zz = (List.range i).map (gF g xs ys) ∧ (i = 0 → B = none)) _ ⟨0, none, 0, [], rfl, henv.sub ⟨rfl, rfl, rfl, rfl, rfl, rfl, trivial⟩, hst.pick [0] [1, 2, 3, 0] (by decide), (Nat.zero_le _), rfl, (fun _ => rfl)⟩ ?_
  clear henv hst a
  rintro mz a w51 ⟨i, B, d, os, rfl, henv, hst, hi, ho, hB⟩
  refine wp_seq ?_
  refine region_seq ?_
  refine sv (v := .bool (decide (((i : Nat) : Int) < ((max n0 n1 : Nat) : Int)))) henv rfl (rn_bin henv rfl rfl rfl) ?_
  clear henv a; intro a henv
  refine wpList_nil ?_
  refine th_n ?_
  refine wp_seq ?_
  refine if_split henv rfl (fun hc52 => ?_) (fun hc52 => ?_)
  · have hlt : i < max n0 n1 := by have := of_decide_eq_true hc52; omega
    refine wp_skip ?_
    refine th_n ?_
    refine wp_seq ?_
    refine wp_block ?_
    refine wp_seq ?_
    refine region_seq ?_
    revert a
    refine mA rfl rfl ?_
    refine aA rfl rfl ?_
    intro a henv
    refine wpList_nil ?_
    refine th_n ?_
    refine wp_seq ?_
    refine region_seq ?_
    refine seq_step rfl (op_alloc (c := #[.bool (neg 0), .slice none (zl 0) 0]) henv hst rfl zero_anvil_integer_Int zcells ?_)
    clear henv hst a; intro a w55 g54 henv hst
    refine seq_step rfl (op_alloc (c := #[.bool (neg 0), .slice none (zl 0) 0]) henv hst rfl zero_anvil_integer_Int zcells ?_)
    clear henv hst a; intro a w57 g56 henv hst
    refine wpList_nil ?_
    refine th_n ?_
    refine wp_seq ?_
    refine wp_seq ?_
    refine region_seq ?_
    revert a
    refine mA rfl rfl ?_
    refine mA rfl rfl ?_
    refine sA (v := .int .i64 (n0 : Nat)) rfl (fun _ henv => rn_len henv Tryd.underlying32 rfl) ?_
    refine sA (v := .bool (decide (((i : Nat) : Int) < ((n0 : Nat) : Int)))) rfl (fun _ henv => rn_bin henv rfl rfl rfl) ?_
    intro a henv
    refine wpList_nil ?_
    refine th_n ?_
    refine if_split henv rfl (fun hc58 => ?_) (fun hc58 => ?_)
    · have hl0 : i < n0 := by have := of_decide_eq_true hc58; omega
      obtain ⟨⟨A, c, x⟩, he0⟩ : ∃ e, es0[i]? = some e := ⟨_, List.getElem?_eq_getElem (by omega)⟩
      replace hst := hst.elem (k := 0) rfl he0
      replace hst : St w0 _ [bk g56 #[.bool (neg 0), .slice none (zl 0) 0] 28, bk g54 #[.bool (neg 0), .slice none (zl 0) 0] 28, rowS notU 28 2 B i d (fl fN os)] [pfZ A c x, pfRow fN FN 2 A0 n0 c0 es0, pfRow fN FN 2 A1 n1 c1 es1, E, pfEs FN os] := hst
      replace hst : St w0 _ [bk g56 #[.bool (neg 0), .slice none (zl 0) 0] 28, bk g54 #[.bool (neg 0), .slice none (zl 0) 0] 28, rowS notU 28 2 B i d (fl fN os)] [pfZ A c x, pfRow fN FN 2 A0 n0 c0 es0, pfRow fN FN 2 A1 n1 c1 es1, E, pfEs FN os] := hst
      have hg0 : xs.getD i 0 = x := by rw [List.getD_eq_getElem?_getD, ← hz0, List.getElem?_map, he0]; rfl
      have hs0 : zl x ≤ 1000 := hk0.es hz0 _ (List.mem_of_getElem? he0)
      refine region_seq ?_
      revert a
      refine mA rfl rfl ?_
      refine mA rfl rfl ?_
      refine sA (v := .pointer (some ⟨ab A0, ao A0 + i * 2, none⟩)) rfl (fun _ henv => rn_idxR (i := i) henv Tryd.underlying32 (ty_anvil_integer_Int.size) rfl rfl (by omega) rfl (show (pfRow fN FN 2 A0 n0 c0 es0).P _ from (hst.pat (k := 1) rfl)).1) ?_
      refine sA (v := .agg #[.bool (neg x), .slice A (zl x) c]) rfl (fun _ henv => rn_loadE (i := i) (e := (A, c, x)) henv ty_anvil_integer_Int rfl rfl fN_len (show (pfRow fN FN 2 A0 n0 c0 es0).P _ from (hst.pat (k := 1) rfl)).1 (by omega) he0 rfl) ?_
      intro a henv
      refine seq_step rfl (op_store (k := 1) (c' := #[.bool (neg x), .slice A (zl x) c]) henv hst (ty_anvil_integer_Int.size) rfl rfl rfl rfl (by simp) rfl rfl ?_)
      clear henv hst a; intro a w60 henv hst
      refine wpList_nil ?_
      refine th_n ?_
      refine wp_seq ?_
      refine wp_seq ?_
      refine region_seq ?_
      revert a
      refine mA rfl rfl ?_
      refine mA rfl rfl ?_
      refine sA (v := .int .i64 (n1 : Nat)) rfl (fun _ henv => rn_len henv Tryd.underlying32 rfl) ?_
      refine sA (v := .bool (decide (((i : Nat) : Int) < ((n1 : Nat) : Int)))) rfl (fun _ henv => rn_bin henv rfl rfl rfl) ?_
      intro a henv
      refine wpList_nil ?_
      refine th_n ?_
      refine if_split henv rfl (fun hc61 => ?_) (fun hc61 => ?_)
      · have hl1 : i < n1 := by have := of_decide_eq_true hc61; omega
        obtain ⟨⟨C, f, y⟩, he1⟩ : ∃ e, es1[i]? = some e := ⟨_, List.getElem?_eq_getElem (by omega)⟩
        replace hst := hst.elem (k := 2) rfl he1
        replace hst : St w0 _ [bk g56 #[.bool (neg 0), .slice none (zl 0) 0] 28, bk g54 #[.bool (neg x), .slice A (zl x) c] 28, rowS notU 28 2 B i d (fl fN os)] [pfZ C f y, pfZ A c x, pfRow fN FN 2 A0 n0 c0 es0, pfRow fN FN 2 A1 n1 c1 es1, E, pfEs FN os] := hst
        replace hst : St w0 _ [bk g56 #[.bool (neg 0), .slice none (zl 0) 0] 28, bk g54 #[.bool (neg x), .slice A (zl x) c] 28, rowS notU 28 2 B i d (fl fN os)] [pfZ C f y, pfZ A c x, pfRow fN FN 2 A0 n0 c0 es0, pfRow fN FN 2 A1 n1 c1 es1, E, pfEs FN os] := hst
        have hg1 : ys.getD i 0 = y := by rw [List.getD_eq_getElem?_getD, ← hz1, List.getElem?_map, he1]; rfl
        have hs1 : zl y ≤ 1000 := hk1.es hz1 _ (List.mem_of_getElem? he1)
        refine region_seq ?_
        revert a
        refine mA rfl rfl ?_
        refine mA rfl rfl ?_
        refine sA (v := .pointer (some ⟨ab A1, ao A1 + i * 2, none⟩)) rfl (fun _ henv => rn_idxR (i := i) henv Tryd.underlying32 (ty_anvil_integer_Int.size) rfl rfl (by omega) rfl (show (pfRow fN FN 2 A1 n1 c1 es1).P _ from (hst.pat (k := 3) rfl)).1) ?_
        refine sA (v := .agg #[.bool (neg y), .slice C (zl y) f]) rfl (fun _ henv => rn_loadE (i := i) (e := (C, f, y)) henv ty_anvil_integer_Int rfl rfl fN_len (show (pfRow fN FN 2 A1 n1 c1 es1).P _ from (hst.pat (k := 3) rfl)).1 (by omega) he1 rfl) ?_
        intro a henv
        refine seq_step rfl (op_store (k := 0) (c' := #[.bool (neg y), .slice C (zl y) f]) henv hst (ty_anvil_integer_Int.size) rfl rfl rfl rfl (by simp) rfl rfl ?_)
        clear henv hst a; intro a w63 henv hst
        refine wpList_nil ?_
        refine th_n ?_
        refine region_seq ?_
        revert a
        refine mA rfl rfl ?_
        refine mA rfl rfl ?_
        refine sA (v := .agg #[.bool (neg x), .slice A (zl x) c]) rfl (fun _ henv => rn_load0 henv ty_anvil_integer_Int rfl (hst.oat (k := 1) rfl) rfl) ?_
        refine sA (v := .agg #[.bool (neg y), .slice C (zl y) f]) rfl (fun _ henv => rn_load0 henv ty_anvil_integer_Int rfl (hst.oat (k := 0) rfl) rfl) ?_
        intro a henv
        refine seq_step rfl (op_callc (vs := #[.agg #[.bool (neg x), .slice A (zl x) c], .agg #[.bool (neg y), .slice C (zl y) f]]) henv rfl hcf rfl rfl (hf x y _ _ _ _ _ hs0 hs1 (hst.pat (k := 4) rfl) (show ZIn _ A c x from hst.pat (k := 1) rfl) (show ZIn _ C f y from hst.pat (k := 0) rfl)) ?_)
        rintro e w67 ⟨_, rfl, ⟨A64, c65, rfl, hz66⟩, hb⟩
        refine ⟨_, rfl, ?_⟩
        clear henv a; intro a henv
        replace hst := (hst.call hb).addZ hz66 ⟨nou_bk rfl, nou_bk rfl, nou_rowS, trivial⟩
        clear hz66
        clear hb
        refine seq_step rfl (op_buildSlice (z := 2) (pv := #[(0, .agg #[.bool (neg (g x y)), .slice A64 (zl (g x y)) c65])]) (c := #[.bool (neg (g x y)), .slice A64 (zl (g x y)) c65]) henv hst rfl Tryd.underlying32 (ty_anvil_integer_Int.size) zero_anvil_integer_Int (by decide) (by decide) rfl (by kernel_rfl) ?_)
        clear henv hst a; intro a w69 g68 henv hst
        refine seq_step rfl (op_appendS (k := 3) (j := 0) henv hst rfl Tryd.underlying32 inf_anvil_integer_Int rfl rfl rfl rfl rfl rfl rfl rfl rfl rfl rfl (by unfold maxLen; omega) (by omega) ?_)
        clear henv hst a; intro a w72 g70 c71 henv hst
        rw [show fl fN os ++ (#[.bool (neg (g x y)), .slice A64 (zl (g x y)) c65] : Array Value).toList = fl fN (os ++ [(A64, c65, (g x y))]) from fl_snoc (f := fN) os (A64, c65, (g x y))] at hst
        replace hst := hst.snocEs (e := (A64, c65, (g x y))) (i := 6) (j := 0) rfl rfl
        refine sv (v := .slice (some ⟨g70, 0, none⟩) (i + 1) c71) henv rfl (rn_assign henv rfl) ?_
        clear henv a; intro a henv
        refine wpList_nil ?_
        refine bl_n (th_n ?_)
        refine region_seq ?_
        revert a
        refine sA (v := .int .i64 (i + 1 : Nat)) rfl (fun _ henv => rn_add henv rfl rfl (by rw [IntWalk.i64_in _ (by omega)]; omega)) ?_
        refine mA rfl rfl ?_
        intro a henv
        refine wpList_nil ?_
        exact th_n ⟨_, (by omega), ⟨i + 1, (some ⟨g70, 0, none⟩), c71, (os ++ [(A64, c65, (g x y))]), rfl, henv.sub ⟨rfl, rfl, rfl, rfl, rfl, rfl, trivial⟩, hst.pick [3] [4, 5, 6, 0] (by decide), (by omega), (gF_step ho (by unfold gF; rw [hg0, hg1])), (fun h => absurd h (by omega))⟩⟩
      · have hl1 : n1 ≤ i := by have := of_decide_eq_false hc61; omega
        have hg1 : ys.getD i 0 = 0 := by rw [List.getD_eq_getElem?_getD, List.getElem?_eq_none (by rw [← hz1, List.length_map]; omega)]; rfl
        refine wp_skip ?_
        refine th_n ?_
        refine region_seq ?_
        revert a
        refine mA rfl rfl ?_
        refine mA rfl rfl ?_
        refine sA (v := .agg #[.bool (neg x), .slice A (zl x) c]) rfl (fun _ henv => rn_load0 henv ty_anvil_integer_Int rfl (hst.oat (k := 1) rfl) rfl) ?_
        refine sA (v := .agg #[.bool (neg 0), .slice none (zl 0) 0]) rfl (fun _ henv => rn_load0 henv ty_anvil_integer_Int rfl (hst.oat (k := 0) rfl) rfl) ?_
        intro a henv
        replace hst := hst.addZ (show ZIn _ none 0 0 from zin_none _) ⟨nou_bk rfl, nou_bk rfl, nou_rowS, trivial⟩
        refine seq_step rfl (op_callc (vs := #[.agg #[.bool (neg x), .slice A (zl x) c], .agg #[.bool (neg 0), .slice none (zl 0) 0]]) henv rfl hcf rfl rfl (hf x (0 : Int) _ _ _ _ _ hs0 (by rw [zl_zero]; omega) (hst.pat (k := 4) rfl) (show ZIn _ A c x from hst.pat (k := 1) rfl) (show ZIn _ none 0 (0 : Int) from hst.pat (k := 0) rfl)) ?_)
        rintro e w77 ⟨_, rfl, ⟨A74, c75, rfl, hz76⟩, hb⟩
        refine ⟨_, rfl, ?_⟩
        clear henv a; intro a henv
        replace hst := (hst.call hb).addZ hz76 ⟨nou_bk rfl, nou_bk rfl, nou_rowS, trivial⟩
        clear hz76
        clear hb
        refine seq_step rfl (op_buildSlice (z := 2) (pv := #[(0, .agg #[.bool (neg (g x (0 : Int))), .slice A74 (zl (g x (0 : Int))) c75])]) (c := #[.bool (neg (g x (0 : Int))), .slice A74 (zl (g x (0 : Int))) c75]) henv hst rfl Tryd.underlying32 (ty_anvil_integer_Int.size) zero_anvil_integer_Int (by decide) (by decide) rfl (by kernel_rfl) ?_)
        clear henv hst a; intro a w79 g78 henv hst
        refine seq_step rfl (op_appendS (k := 3) (j := 0) henv hst rfl Tryd.underlying32 inf_anvil_integer_Int rfl rfl rfl rfl rfl rfl rfl rfl rfl rfl rfl (by unfold maxLen; omega) (by omega) ?_)
        clear henv hst a; intro a w82 g80 c81 henv hst
        rw [show fl fN os ++ (#[.bool (neg (g x (0 : Int))), .slice A74 (zl (g x (0 : Int))) c75] : Array Value).toList = fl fN (os ++ [(A74, c75, (g x (0 : Int)))]) from fl_snoc (f := fN) os (A74, c75, (g x (0 : Int)))] at hst
        replace hst := hst.snocEs (e := (A74, c75, (g x (0 : Int)))) (i := 6) (j := 0) rfl rfl
        refine sv (v := .slice (some ⟨g80, 0, none⟩) (i + 1) c81) henv rfl (rn_assign henv rfl) ?_
        clear henv a; intro a henv
        refine wpList_nil ?_
        refine bl_n (th_n ?_)
        refine region_seq ?_
        revert a
        refine sA (v := .int .i64 (i + 1 : Nat)) rfl (fun _ henv => rn_add henv rfl rfl (by rw [IntWalk.i64_in _ (by omega)]; omega)) ?_
        refine mA rfl rfl ?_
        intro a henv
        refine wpList_nil ?_
        exact th_n ⟨_, (by omega), ⟨i + 1, (some ⟨g80, 0, none⟩), c81, (os ++ [(A74, c75, (g x (0 : Int)))]), rfl, henv.sub ⟨rfl, rfl, rfl, rfl, rfl, rfl, trivial⟩, hst.pick [3] [4, 5, 6, 0] (by decide), (by omega), (gF_step ho (by unfold gF; rw [hg0, hg1])), (fun h => absurd h (by omega))⟩⟩
    · have hl0 : n0 ≤ i := by have := of_decide_eq_false hc58; omega
      have hg0 : xs.getD i 0 = 0 := by rw [List.getD_eq_getElem?_getD, List.getElem?_eq_none (by rw [← hz0, List.length_map]; omega)]; rfl
      refine wp_skip ?_
      refine th_n ?_
      refine wp_seq ?_
      refine wp_seq ?_
      refine region_seq ?_
      revert a
      refine mA rfl rfl ?_
      refine mA rfl rfl ?_
      refine sA (v := .int .i64 (n1 : Nat)) rfl (fun _ henv => rn_len henv Tryd.underlying32 rfl) ?_
      refine sA (v := .bool (decide (((i : Nat) : Int) < ((n1 : Nat) : Int)))) rfl (fun _ henv => rn_bin henv rfl rfl rfl) ?_
      intro a henv
      refine wpList_nil ?_
      refine th_n ?_
      refine if_split henv rfl (fun hc84 => ?_) (fun hc84 => ?_)
      · have hl1 : i < n1 := by have := of_decide_eq_true hc84; omega
        obtain ⟨⟨C, f, y⟩, he1⟩ : ∃ e, es1[i]? = some e := ⟨_, List.getElem?_eq_getElem (by omega)⟩
        replace hst := hst.elem (k := 1) rfl he1
        replace hst : St w0 _ [bk g56 #[.bool (neg 0), .slice none (zl 0) 0] 28, bk g54 #[.bool (neg 0), .slice none (zl 0) 0] 28, rowS notU 28 2 B i d (fl fN os)] [pfZ C f y, pfRow fN FN 2 A0 n0 c0 es0, pfRow fN FN 2 A1 n1 c1 es1, E, pfEs FN os] := hst
        replace hst : St w0 _ [bk g56 #[.bool (neg 0), .slice none (zl 0) 0] 28, bk g54 #[.bool (neg 0), .slice none (zl 0) 0] 28, rowS notU 28 2 B i d (fl fN os)] [pfZ C f y, pfRow fN FN 2 A0 n0 c0 es0, pfRow fN FN 2 A1 n1 c1 es1, E, pfEs FN os] := hst
        have hg1 : ys.getD i 0 = y := by rw [List.getD_eq_getElem?_getD, ← hz1, List.getElem?_map, he1]; rfl
        have hs1 : zl y ≤ 1000 := hk1.es hz1 _ (List.mem_of_getElem? he1)
        refine region_seq ?_
        revert a
        refine mA rfl rfl ?_
        refine mA rfl rfl ?_
        refine sA (v := .pointer (some ⟨ab A1, ao A1 + i * 2, none⟩)) rfl (fun _ henv => rn_idxR (i := i) henv Tryd.underlying32 (ty_anvil_integer_Int.size) rfl rfl (by omega) rfl (show (pfRow fN FN 2 A1 n1 c1 es1).P _ from (hst.pat (k := 2) rfl)).1) ?_
        refine sA (v := .agg #[.bool (neg y), .slice C (zl y) f]) rfl (fun _ henv => rn_loadE (i := i) (e := (C, f, y)) henv ty_anvil_integer_Int rfl rfl fN_len (show (pfRow fN FN 2 A1 n1 c1 es1).P _ from (hst.pat (k := 2) rfl)).1 (by omega) he1 rfl) ?_
        intro a henv
        refine seq_step rfl (op_store (k := 0) (c' := #[.bool (neg y), .slice C (zl y) f]) henv hst (ty_anvil_integer_Int.size) rfl rfl rfl rfl (by simp) rfl rfl ?_)
        clear henv hst a; intro a w86 henv hst
        refine wpList_nil ?_
        refine th_n ?_
        refine region_seq ?_
        revert a
        refine mA rfl rfl ?_
        refine mA rfl rfl ?_
        refine sA (v := .agg #[.bool (neg 0), .slice none (zl 0) 0]) rfl (fun _ henv => rn_load0 henv ty_anvil_integer_Int rfl (hst.oat (k := 1) rfl) rfl) ?_
        refine sA (v := .agg #[.bool (neg y), .slice C (zl y) f]) rfl (fun _ henv => rn_load0 henv ty_anvil_integer_Int rfl (hst.oat (k := 0) rfl) rfl) ?_
        intro a henv
        replace hst := hst.addZ (show ZIn _ none 0 0 from zin_none _) ⟨nou_bk rfl, nou_bk rfl, nou_rowS, trivial⟩
        refine seq_step rfl (op_callc (vs := #[.agg #[.bool (neg 0), .slice none (zl 0) 0], .agg #[.bool (neg y), .slice C (zl y) f]]) henv rfl hcf rfl rfl (hf (0 : Int) y _ _ _ _ _ (by rw [zl_zero]; omega) hs1 (hst.pat (k := 4) rfl) (show ZIn _ none 0 (0 : Int) from hst.pat (k := 0) rfl) (show ZIn _ C f y from hst.pat (k := 1) rfl)) ?_)
        rintro e w90 ⟨_, rfl, ⟨A87, c88, rfl, hz89⟩, hb⟩
        refine ⟨_, rfl, ?_⟩
        clear henv a; intro a henv
        replace hst := (hst.call hb).addZ hz89 ⟨nou_bk rfl, nou_bk rfl, nou_rowS, trivial⟩
        clear hz89
        clear hb
        refine seq_step rfl (op_buildSlice (z := 2) (pv := #[(0, .agg #[.bool (neg (g (0 : Int) y)), .slice A87 (zl (g (0 : Int) y)) c88])]) (c := #[.bool (neg (g (0 : Int) y)), .slice A87 (zl (g (0 : Int) y)) c88]) henv hst rfl Tryd.underlying32 (ty_anvil_integer_Int.size) zero_anvil_integer_Int (by decide) (by decide) rfl (by kernel_rfl) ?_)
        clear henv hst a; intro a w92 g91 henv hst
        refine seq_step rfl (op_appendS (k := 3) (j := 0) henv hst rfl Tryd.underlying32 inf_anvil_integer_Int rfl rfl rfl rfl rfl rfl rfl rfl rfl rfl rfl (by unfold maxLen; omega) (by omega) ?_)
        clear henv hst a; intro a w95 g93 c94 henv hst
        rw [show fl fN os ++ (#[.bool (neg (g (0 : Int) y)), .slice A87 (zl (g (0 : Int) y)) c88] : Array Value).toList = fl fN (os ++ [(A87, c88, (g (0 : Int) y))]) from fl_snoc (f := fN) os (A87, c88, (g (0 : Int) y))] at hst
        replace hst := hst.snocEs (e := (A87, c88, (g (0 : Int) y))) (i := 6) (j := 0) rfl rfl
        refine sv (v := .slice (some ⟨g93, 0, none⟩) (i + 1) c94) henv rfl (rn_assign henv rfl) ?_
        clear henv a; intro a henv
        refine wpList_nil ?_
        refine bl_n (th_n ?_)
        refine region_seq ?_
        revert a
        refine sA (v := .int .i64 (i + 1 : Nat)) rfl (fun _ henv => rn_add henv rfl rfl (by rw [IntWalk.i64_in _ (by omega)]; omega)) ?_
        refine mA rfl rfl ?_
        intro a henv
        refine wpList_nil ?_
        exact th_n ⟨_, (by omega), ⟨i + 1, (some ⟨g93, 0, none⟩), c94, (os ++ [(A87, c88, (g (0 : Int) y))]), rfl, henv.sub ⟨rfl, rfl, rfl, rfl, rfl, rfl, trivial⟩, hst.pick [3] [4, 5, 6, 0] (by decide), (by omega), (gF_step ho (by unfold gF; rw [hg0, hg1])), (fun h => absurd h (by omega))⟩⟩
      · have hl1 : n1 ≤ i := by have := of_decide_eq_false hc84; omega
        have hg1 : ys.getD i 0 = 0 := by rw [List.getD_eq_getElem?_getD, List.getElem?_eq_none (by rw [← hz1, List.length_map]; omega)]; rfl
        refine wp_skip ?_
        refine th_n ?_
        refine region_seq ?_
        revert a
        refine mA rfl rfl ?_
        refine mA rfl rfl ?_
        refine sA (v := .agg #[.bool (neg 0), .slice none (zl 0) 0]) rfl (fun _ henv => rn_load0 henv ty_anvil_integer_Int rfl (hst.oat (k := 1) rfl) rfl) ?_
        refine sA (v := .agg #[.bool (neg 0), .slice none (zl 0) 0]) rfl (fun _ henv => rn_load0 henv ty_anvil_integer_Int rfl (hst.oat (k := 0) rfl) rfl) ?_
        intro a henv
        replace hst := hst.addZ (show ZIn _ none 0 0 from zin_none _) ⟨nou_bk rfl, nou_bk rfl, nou_rowS, trivial⟩
        replace hst := hst.addZ (show ZIn _ none 0 0 from zin_none _) ⟨nou_bk rfl, nou_bk rfl, nou_rowS, trivial⟩
        refine seq_step rfl (op_callc (vs := #[.agg #[.bool (neg 0), .slice none (zl 0) 0], .agg #[.bool (neg 0), .slice none (zl 0) 0]]) henv rfl hcf rfl rfl (hf (0 : Int) (0 : Int) _ _ _ _ _ (by rw [zl_zero]; omega) (by rw [zl_zero]; omega) (hst.pat (k := 4) rfl) (show ZIn _ none 0 (0 : Int) from hst.pat (k := 0) rfl) (show ZIn _ none 0 (0 : Int) from hst.pat (k := 0) rfl)) ?_)
        rintro e w100 ⟨_, rfl, ⟨A97, c98, rfl, hz99⟩, hb⟩
        refine ⟨_, rfl, ?_⟩
        clear henv a; intro a henv
        replace hst := (hst.call hb).addZ hz99 ⟨nou_bk rfl, nou_bk rfl, nou_rowS, trivial⟩
        clear hz99
        clear hb
        refine seq_step rfl (op_buildSlice (z := 2) (pv := #[(0, .agg #[.bool (neg (g (0 : Int) (0 : Int))), .slice A97 (zl (g (0 : Int) (0 : Int))) c98])]) (c := #[.bool (neg (g (0 : Int) (0 : Int))), .slice A97 (zl (g (0 : Int) (0 : Int))) c98]) henv hst rfl Tryd.underlying32 (ty_anvil_integer_Int.size) zero_anvil_integer_Int (by decide) (by decide) rfl (by kernel_rfl) ?_)
        clear henv hst a; intro a w102 g101 henv hst
        refine seq_step rfl (op_appendS (k := 3) (j := 0) henv hst rfl Tryd.underlying32 inf_anvil_integer_Int rfl rfl rfl rfl rfl rfl rfl rfl rfl rfl rfl (by unfold maxLen; omega) (by omega) ?_)
        clear henv hst a; intro a w105 g103 c104 henv hst
        rw [show fl fN os ++ (#[.bool (neg (g (0 : Int) (0 : Int))), .slice A97 (zl (g (0 : Int) (0 : Int))) c98] : Array Value).toList = fl fN (os ++ [(A97, c98, (g (0 : Int) (0 : Int)))]) from fl_snoc (f := fN) os (A97, c98, (g (0 : Int) (0 : Int)))] at hst
        replace hst := hst.snocEs (e := (A97, c98, (g (0 : Int) (0 : Int)))) (i := 6) (j := 0) rfl rfl
        refine sv (v := .slice (some ⟨g103, 0, none⟩) (i + 1) c104) henv rfl (rn_assign henv rfl) ?_
        clear henv a; intro a henv
        refine wpList_nil ?_
        refine bl_n (th_n ?_)
        refine region_seq ?_
        revert a
        refine sA (v := .int .i64 (i + 1 : Nat)) rfl (fun _ henv => rn_add henv rfl rfl (by rw [IntWalk.i64_in _ (by omega)]; omega)) ?_
        refine mA rfl rfl ?_
        intro a henv
        refine wpList_nil ?_
        exact th_n ⟨_, (by omega), ⟨i + 1, (some ⟨g103, 0, none⟩), c104, (os ++ [(A97, c98, (g (0 : Int) (0 : Int)))]), rfl, henv.sub ⟨rfl, rfl, rfl, rfl, rfl, rfl, trivial⟩, hst.pick [3] [4, 5, 6, 0] (by decide), (by omega), (gF_step ho (by unfold gF; rw [hg0, hg1])), (fun h => absurd h (by omega))⟩⟩
  · have hin : i = max n0 n1 := by have := of_decide_eq_false hc52; omega
    refine wp_exit ?_
    refine th_x (th_x (bl_x (th_n ?_)))
    refine wp_seq ?_
    refine region_seq ?_
    revert a
    refine mA rfl rfl ?_
    refine aA rfl rfl ?_
    intro a henv
    refine wpList_nil ?_
    refine th_n ?_
    refine wp_ret ?_
    refine leave henv (res1 Tryd.results57 (RV.tmp henv rfl)) ?_
    exact ⟨_, rfl, ⟨_, _, os, congrArg (fun k => Value.slice _ k _) hin, (hin ▸ hst.newRow (k := 0) (j := 3) rfl rfl), (by have := congrArg List.length ho; simp at this; omega), (by rw [ho, hin]), fun h => hB (hin.trans h)⟩, hst.below⟩
set_option maxRecDepth 100000 in
set_option maxHeartbeats 2000000 in
theorem p_addN {A0 A1 : Option Addr} {n0 n1 c0 c1 : Nat} {es0 es1 : List NE} {xs ys : List Int} {w0 : World} (h0 : (pfRow fN FN 2 A0 n0 c0 es0).P w0) (hz0 : es0.map zz = xs) (h1 : (pfRow fN FN 2 A1 n1 c1 es1).P w0) (hz1 : es1.map zz = ys) (hk0 : Zk 1000 xs) (hk1 : Zk 1000 ys) (hn0 : n0 ≤ 100000) (hn1 : n1 ≤ 100000) :
    Calls Tryd.prog 20 #[.slice A0 n0 c0, .slice A1 n1 c1] w0 fun e w' => ∃ v, e = .returned v ∧ ZRowN w0.heap.size w' v (addF xs ys).length (addF xs ys) ∧ Below w0.heap.size w0 w' := by
  refine enter Tryd.func20 rfl Tryd.ntmps20 rfl ?_
  intro a henv hst
  have hlx : xs.length = n0 := by rw [← hz0, List.length_map]; exact h0.2.1
  have hly : ys.length = n1 := by rw [← hz1, List.length_map]; exact h1.2.1
  replace hst := (hst.argRow h1).argRow h0
  clear h0 h1
  refine wp_seq ?_
  refine region_seq ?_
  refine sv (v := .slice none 0 0) henv rfl (rn_assign henv rfl) ?_
  clear henv a; intro a henv
  refine wpList_nil ?_
  refine th_n ?_
  refine wp_seq ?_
  refine region_seq ?_
  revert a
  refine mA rfl rfl ?_
  refine mA rfl rfl ?_
  intro a henv
  refine seq_step rfl (op_call henv rfl Tryd.call57 rfl (p_placedG (E := pfT0) (g := (· + ·)) (first := #[]) (caps := #[]) (hst.pat (k := 0) rfl) hz0 (hst.pat (k := 1) rfl) hz1 trivial Tryd.call49 (fun _ _ _ _ _ _ _ h1 h2 _ q1 q2 => calls_app (by simp) (add_z q1 q2 (by omega) (by omega))) hk0 hk1 hn0 hn1) ?_)
  rintro e w58 ⟨_, rfl, ⟨A51, c52, es53, rfl, hr, hl54, hz55, hn56⟩, hb⟩
  refine ⟨_, rfl, ?_⟩
  clear henv a; intro a henv
  replace hst := hst.freshRow hb hr (ap_N hr.2.1 ⟨nou_rowS, trivial⟩)
  clear hr
  clear hb
  refine sv (v := .slice A51 (max n0 n1) c52) henv rfl (rn_assign henv rfl) ?_
  clear henv a; intro a henv
  refine wpList_nil ?_
  refine th_n ?_
  refine wp_ret ?_
  refine leave henv (res1 Tryd.results20 (RV.tmp henv rfl)) ?_
  have heq := (show ((List.range (max n0 n1)).map (gF (· + ·) xs ys)) = addF xs ys by rw [addF, hlx, hly]; rfl)
  have hle : max n0 n1 = (addF xs ys).length := (by rw [← heq, List.length_map, List.length_range])
  exact ⟨_, rfl, ⟨_, _, _, congrArg (fun k => Value.slice _ k _) hle, (hle ▸ hst.newRow (k := 0) (j := 0) rfl rfl), hl54.trans hle, hz55.trans heq, fun h => hn56 (hle.trans h)⟩, hst.below⟩
set_option maxRecDepth 100000 in
set_option maxHeartbeats 2000000 in
theorem p_subN {A0 A1 : Option Addr} {n0 n1 c0 c1 : Nat} {es0 es1 : List NE} {xs ys : List Int} {w0 : World} (h0 : (pfRow fN FN 2 A0 n0 c0 es0).P w0) (hz0 : es0.map zz = xs) (h1 : (pfRow fN FN 2 A1 n1 c1 es1).P w0) (hz1 : es1.map zz = ys) (hk0 : Zk 1000 xs) (hk1 : Zk 1000 ys) (hn0 : n0 ≤ 100000) (hn1 : n1 ≤ 100000) :
    Calls Tryd.prog 22 #[.slice A0 n0 c0, .slice A1 n1 c1] w0 fun e w' => ∃ v, e = .returned v ∧ ZRowN w0.heap.size w' v (subF xs ys).length (subF xs ys) ∧ Below w0.heap.size w0 w' := by
  refine enter Tryd.func22 rfl Tryd.ntmps22 rfl ?_
  intro a henv hst
  have hlx : xs.length = n0 := by rw [← hz0, List.length_map]; exact h0.2.1
  have hly : ys.length = n1 := by rw [← hz1, List.length_map]; exact h1.2.1
  replace hst := (hst.argRow h1).argRow h0
  clear h0 h1
  refine wp_seq ?_
  refine region_seq ?_
  refine sv (v := .slice none 0 0) henv rfl (rn_assign henv rfl) ?_
  clear henv a; intro a henv
  refine wpList_nil ?_
  refine th_n ?_
  refine wp_seq ?_
  refine region_seq ?_
  revert a
  refine mA rfl rfl ?_
  refine mA rfl rfl ?_
  intro a henv
  refine seq_step rfl (op_call henv rfl Tryd.call57 rfl (p_placedG (E := pfT0) (g := (· - ·)) (first := #[]) (caps := #[]) (hst.pat (k := 0) rfl) hz0 (hst.pat (k := 1) rfl) hz1 trivial Tryd.call58 (fun _ _ _ _ _ _ _ h1 h2 _ q1 q2 => calls_app (by simp) (sub_z q1 q2 (by omega) (by omega))) hk0 hk1 hn0 hn1) ?_)
  rintro e w58 ⟨_, rfl, ⟨A51, c52, es53, rfl, hr, hl54, hz55, hn56⟩, hb⟩
  refine ⟨_, rfl, ?_⟩
  clear henv a; intro a henv
  replace hst := hst.freshRow hb hr (ap_N hr.2.1 ⟨nou_rowS, trivial⟩)
  clear hr
  clear hb
  refine sv (v := .slice A51 (max n0 n1) c52) henv rfl (rn_assign henv rfl) ?_
  clear henv a; intro a henv
  refine wpList_nil ?_
  refine th_n ?_
  refine wp_ret ?_
  refine leave henv (res1 Tryd.results22 (RV.tmp henv rfl)) ?_
  have heq := (show ((List.range (max n0 n1)).map (gF (· - ·) xs ys)) = subF xs ys by rw [subF, hlx, hly]; rfl)
  have hle : max n0 n1 = (subF xs ys).length := (by rw [← heq, List.length_map, List.length_range])
  exact ⟨_, rfl, ⟨_, _, _, congrArg (fun k => Value.slice _ k _) hle, (hle ▸ hst.newRow (k := 0) (j := 0) rfl rfl), hl54.trans hle, hz55.trans heq, fun h => hn56 (hle.trans h)⟩, hst.below⟩
set_option maxRecDepth 100000 in
set_option maxHeartbeats 2000000 in
theorem p_mul_nil {A0 A1 : Option Addr} {n0 n1 c0 c1 : Nat} {es0 es1 : List NE} {xs ys : List Int} {w0 : World} (h0 : (pfRow fN FN 2 A0 n0 c0 es0).P w0) (hz0 : es0.map zz = xs) (h1 : (pfRow fN FN 2 A1 n1 c1 es1).P w0) (hz1 : es1.map zz = ys) (h00 : n0 = 0 ∨ n1 = 0) :
    Calls Tryd.prog 24 #[.slice A0 n0 c0, .slice A1 n1 c1] w0 fun e w' => e = .returned (.tuple #[.slice none 0 0, .int .i64 0]) ∧ Below w0.heap.size w0 w' := by
  refine enter Tryd.func24 rfl Tryd.ntmps24 rfl ?_
  intro a henv hst
  have hlx : xs.length = n0 := by rw [← hz0, List.length_map]; exact h0.2.1
  have hly : ys.length = n1 := by rw [← hz1, List.length_map]; exact h1.2.1
  replace hst := (hst.argRow h1).argRow h0
  clear h0 h1
  refine wp_seq ?_
  refine region_seq ?_
  revert a
  refine aA rfl rfl ?_
  refine aA rfl rfl ?_
  intro a henv
  refine wpList_nil ?_
  refine th_n ?_
  refine wp_seq ?_
  refine wp_seq ?_
  refine region_seq ?_
  revert a
  refine mA rfl rfl ?_
  refine sA (v := .int .i64 (n0 : Nat)) rfl (fun _ henv => rn_len henv Tryd.underlying32 rfl) ?_
  refine sA (v := .bool (((n0 : Nat) : Int) == (0 : Int))) rfl (fun _ henv => rn_bin henv rfl rfl rfl) ?_
  refine mA rfl rfl ?_
  intro a henv
  rcases bool_em (((n0 : Nat) : Int) == (0 : Int)) with hg51 | hg51
  · rw [hg51] at henv
    have hq52 := eq_of_beq hg51
    revert a
    refine kA rfl rfl rfl rfl rfl ?_
    refine kA rfl rfl rfl rfl rfl ?_
    refine kA rfl rfl rfl rfl rfl ?_
    refine sA (v := .bool true) rfl (fun _ henv => rn_pick henv rfl rfl) ?_
    intro a henv
    refine wpList_nil ?_
    refine th_n ?_
    refine if_t henv rfl (rfl) ?_
    refine wp_seq ?_
    refine region_seq ?_
    revert a
    refine aA rfl rfl ?_
    refine aA rfl rfl ?_
    intro a henv
    refine wpList_nil ?_
    refine th_n ?_
    refine wp_ret ?_
    refine th_r ?_
    refine leave henv (res2 Tryd.results24 (RV.tmp henv rfl) (RV.tmp henv rfl)) ?_
    exact ⟨rfl, hst.below⟩
  · rw [hg51] at henv
    have hq53 := ne_of_beq_false hg51
    revert a
    refine gA (v := .slice A1 n1 c1) rfl rfl rfl rfl (fun _ henv => rn_move henv rfl) ?_
    refine gA (v := .int .i64 (n1 : Nat)) rfl rfl rfl rfl (fun _ henv => rn_len henv Tryd.underlying32 rfl) ?_
    refine gA (v := .bool (((n1 : Nat) : Int) == (0 : Int))) rfl rfl rfl rfl (fun _ henv => rn_bin henv rfl rfl rfl) ?_
    refine sA (v := .bool (((n1 : Nat) : Int) == (0 : Int))) rfl (fun _ henv => rn_pick henv rfl rfl) ?_
    intro a henv
    refine wpList_nil ?_
    refine th_n ?_
    refine if_split henv rfl (fun hc54 => ?_) (fun hc54 => ?_)
    · have hq55 := eq_of_beq hc54
      refine wp_seq ?_
      refine region_seq ?_
      revert a
      refine aA rfl rfl ?_
      refine aA rfl rfl ?_
      intro a henv
      refine wpList_nil ?_
      refine th_n ?_
      refine wp_ret ?_
      refine th_r ?_
      refine leave henv (res2 Tryd.results24 (RV.tmp henv rfl) (RV.tmp henv rfl)) ?_
      exact ⟨rfl, hst.below⟩
    · have hq56 := ne_of_beq_false hc54
      exfalso; omega
set_option maxRecDepth 100000 in
set_option maxHeartbeats 4000000 in
theorem p_shift_neg {A0 : Option Addr} {n0 c0 : Nat} {es0 : List NE} {xs : List Int} {n : Int} {w0 : World} (h0 : (pfRow fN FN 2 A0 n0 c0 es0).P w0) (hz0 : es0.map zz = xs) (hq : n < 0) :
    Calls Tryd.prog 25 #[.slice A0 n0 c0, .int .i64 n] w0 fun e w' => e = .returned (.tuple #[.slice none 0 0, .int .i64 2]) ∧ Below w0.heap.size w0 w' := by
  refine enter Tryd.func25 rfl Tryd.ntmps25 rfl ?_
  intro a henv hst
  have hlen0 := h0.2.1
  have hbig0 := Nat.le_trans h0.1.cap h0.1.big
  unfold maxLen at hbig0
  replace hst := hst.argRow h0
  clear h0
  have hlx : xs.length = n0 := by rw [← hz0, List.length_map]; exact hlen0
  refine wp_seq ?_
  refine region_seq ?_
  revert a
  refine aA rfl rfl ?_
  refine aA rfl rfl ?_
  intro a henv
  refine wpList_nil ?_
  refine th_n ?_
  refine wp_seq ?_
  refine wp_seq ?_
  refine region_seq ?_
  revert a
  refine mA rfl rfl ?_
  refine sA (v := .bool (decide (n < (0 : Int)))) rfl (fun _ henv => rn_bin henv rfl rfl rfl) ?_
  intro a henv
  rw [show (decide (n < (0 : Int))) = true from (decide_eq_true (by omega))] at henv
  refine wpList_nil ?_
  refine th_n ?_
  refine if_t henv rfl (rfl) ?_
  refine wp_seq ?_
  refine region_seq ?_
  revert a
  refine aA rfl rfl ?_
  refine aA rfl rfl ?_
  intro a henv
  refine wpList_nil ?_
  refine th_n ?_
  refine wp_ret ?_
  refine th_r ?_
  refine leave henv (res2 Tryd.results25 (RV.tmp henv rfl) (RV.tmp henv rfl)) ?_
  exact ⟨rfl, hst.below⟩
set_option maxRecDepth 100000 in
set_option maxHeartbeats 4000000 in
theorem p_shift_big {A0 : Option Addr} {n0 c0 : Nat} {es0 : List NE} {xs : List Int} {n : Int} {w0 : World} (h0 : (pfRow fN FN 2 A0 n0 c0 es0).P w0) (hz0 : es0.map zz = xs) (hq : 4096 < n) :
    Calls Tryd.prog 25 #[.slice A0 n0 c0, .int .i64 n] w0 fun e w' => e = .returned (.tuple #[.slice none 0 0, .int .i64 3]) ∧ Below w0.heap.size w0 w' := by
  refine enter Tryd.func25 rfl Tryd.ntmps25 rfl ?_
  intro a henv hst
  have hlen0 := h0.2.1
  have hbig0 := Nat.le_trans h0.1.cap h0.1.big
  unfold maxLen at hbig0
  replace hst := hst.argRow h0
  clear h0
  have hlx : xs.length = n0 := by rw [← hz0, List.length_map]; exact hlen0
  refine wp_seq ?_
  refine region_seq ?_
  revert a
  refine aA rfl rfl ?_
  refine aA rfl rfl ?_
  intro a henv
  refine wpList_nil ?_
  refine th_n ?_
  refine wp_seq ?_
  refine wp_seq ?_
  refine region_seq ?_
  revert a
  refine mA rfl rfl ?_
  refine sA (v := .bool (decide (n < (0 : Int)))) rfl (fun _ henv => rn_bin henv rfl rfl rfl) ?_
  intro a henv
  rw [show (decide (n < (0 : Int))) = false from (decide_eq_false (by omega))] at henv
  refine wpList_nil ?_
  refine th_n ?_
  refine if_f henv rfl (rfl) ?_
  refine wp_skip ?_
  refine th_n ?_
  refine wp_seq ?_
  refine wp_seq ?_
  refine region_seq ?_
  revert a
  refine mA rfl rfl ?_
  refine sA (v := .bool (decide (n > (4096 : Int)))) rfl (fun _ henv => rn_bin henv rfl rfl rfl) ?_
  intro a henv
  rw [show (decide (n > (4096 : Int))) = true from (decide_eq_true (by omega))] at henv
  refine wpList_nil ?_
  refine th_n ?_
  refine if_t henv rfl (rfl) ?_
  refine wp_seq ?_
  refine region_seq ?_
  revert a
  refine aA rfl rfl ?_
  refine aA rfl rfl ?_
  intro a henv
  refine wpList_nil ?_
  refine th_n ?_
  refine wp_ret ?_
  refine th_r ?_
  refine leave henv (res2 Tryd.results25 (RV.tmp henv rfl) (RV.tmp henv rfl)) ?_
  exact ⟨rfl, hst.below⟩
set_option maxRecDepth 100000 in
set_option maxHeartbeats 4000000 in
theorem p_shift_nil {A0 : Option Addr} {n0 c0 : Nat} {es0 : List NE} {xs : List Int} {n : Nat} {w0 : World} (h0 : (pfRow fN FN 2 A0 n0 c0 es0).P w0) (hz0 : es0.map zz = xs) (hq : n + n0 = 0) :
    Calls Tryd.prog 25 #[.slice A0 n0 c0, .int .i64 (n : Nat)] w0 fun e w' => ∃ v, e = .returned (.tuple #[v, .int .i64 0]) ∧ ZRowN w0.heap.size w' v (n + n0) (List.replicate n 0 ++ xs) ∧ Below w0.heap.size w0 w' := by
  refine enter Tryd.func25 rfl Tryd.ntmps25 rfl ?_
  intro a henv hst
  have hlen0 := h0.2.1
  have hbig0 := Nat.le_trans h0.1.cap h0.1.big
  unfold maxLen at hbig0
  replace hst := hst.argRow h0
  clear h0
  have hlx : xs.length = n0 := by rw [← hz0, List.length_map]; exact hlen0
  refine wp_seq ?_
  refine region_seq ?_
  revert a
  refine aA rfl rfl ?_
  refine aA rfl rfl ?_
  intro a henv
  refine wpList_nil ?_
  refine th_n ?_
  refine wp_seq ?_
  refine wp_seq ?_
  refine region_seq ?_
  revert a
  refine mA rfl rfl ?_
  refine sA (v := .bool (decide (((n : Nat) : Int) < (0 : Int)))) rfl (fun _ henv => rn_bin henv rfl rfl rfl) ?_
  intro a henv
  rw [show (decide (((n : Nat) : Int) < (0 : Int))) = false from (decide_eq_false (by omega))] at henv
  refine wpList_nil ?_
  refine th_n ?_
  refine if_f henv rfl (rfl) ?_
  refine wp_skip ?_
  refine th_n ?_
  refine wp_seq ?_
  refine wp_seq ?_
  refine region_seq ?_
  revert a
  refine mA rfl rfl ?_
  refine sA (v := .bool (decide (((n : Nat) : Int) > (4096 : Int)))) rfl (fun _ henv => rn_bin henv rfl rfl rfl) ?_
  intro a henv
  rw [show (decide (((n : Nat) : Int) > (4096 : Int))) = false from (decide_eq_false (by omega))] at henv
  refine wpList_nil ?_
  refine th_n ?_
  refine if_f henv rfl (rfl) ?_
  refine wp_skip ?_
  refine th_n ?_
  refine wp_seq ?_
  refine wp_seq ?_
  refine region_seq ?_
  revert a
  refine mA rfl rfl ?_
  refine mA rfl rfl ?_
  refine sA (v := .int .i64 (n0 : Nat)) rfl (fun _ henv => rn_len henv Tryd.underlying32 rfl) ?_
  refine sA (v := .int .i64 (n + n0 : Nat)) rfl (fun _ henv => rn_add henv rfl rfl (by rw [IntWalk.i64_in _ (by omega)]; omega)) ?_
  refine sA (v := .bool (((n + n0 : Nat) : Int) == (0 : Int))) rfl (fun _ henv => rn_bin henv rfl rfl rfl) ?_
  intro a henv
  rw [show (((n + n0 : Nat) : Int) == (0 : Int)) = true from (by have e1 : n + n0 = 0 := hq; rw [e1]; rfl)] at henv
  refine wpList_nil ?_
  refine th_n ?_
  refine if_t henv rfl (rfl) ?_
  refine wp_seq ?_
  refine region_seq ?_
  revert a
  refine aA rfl rfl ?_
  refine aA rfl rfl ?_
  intro a henv
  refine wpList_nil ?_
  refine th_n ?_
  refine wp_ret ?_
  refine th_r ?_
  refine leave henv (res2 Tryd.results25 (RV.tmp henv rfl) (RV.tmp henv rfl)) ?_
  exact ⟨_, rfl, zrown_nil hq (List.eq_nil_of_length_eq_zero (by rw [List.length_append, List.length_replicate, hlx]; exact hq)), hst.below⟩
set_option maxRecDepth 100000 in
set_option maxHeartbeats 4000000 in
theorem p_shift_e {A0 : Option Addr} {c0 : Nat} {es0 : List NE} {xs : List Int} {n : Nat} {w0 : World} (h0 : (pfRow fN FN 2 A0 0 c0 es0).P w0) (hz0 : es0.map zz = xs) (hn : n ≤ 4096) (hq : n ≠ 0) :
    Calls Tryd.prog 25 #[.slice A0 0 c0, .int .i64 (n : Nat)] w0 fun e w' => ∃ v, e = .returned (.tuple #[v, .int .i64 0]) ∧ ZRowN w0.heap.size w' v n (List.replicate n 0 ++ xs) ∧ Below w0.heap.size w0 w' := by
  refine enter Tryd.func25 rfl Tryd.ntmps25 rfl ?_
  intro a henv hst
  have hlen0 := h0.2.1
  replace hst := hst.argRow h0
  clear h0
  have hlx : xs.length = 0 := by rw [← hz0, List.length_map]; exact hlen0
  have hz := hlen0
  replace hz : 0 = 0 := rfl
  refine wp_seq ?_
  refine region_seq ?_
  revert a
  refine aA rfl rfl ?_
  refine aA rfl rfl ?_
  intro a henv
  refine wpList_nil ?_
  refine th_n ?_
  refine wp_seq ?_
  refine wp_seq ?_
  refine region_seq ?_
  revert a
  refine mA rfl rfl ?_
  refine sA (v := .bool (decide (((n : Nat) : Int) < (0 : Int)))) rfl (fun _ henv => rn_bin henv rfl rfl rfl) ?_
  intro a henv
  rw [show (decide (((n : Nat) : Int) < (0 : Int))) = false from (decide_eq_false (by omega))] at henv
  refine wpList_nil ?_
  refine th_n ?_
  refine if_f henv rfl (rfl) ?_
  refine wp_skip ?_
  refine th_n ?_
  refine wp_seq ?_
  refine wp_seq ?_
  refine region_seq ?_
  revert a
  refine mA rfl rfl ?_
  refine sA (v := .bool (decide (((n : Nat) : Int) > (4096 : Int)))) rfl (fun _ henv => rn_bin henv rfl rfl rfl) ?_
  intro a henv
  rw [show (decide (((n : Nat) : Int) > (4096 : Int))) = false from (decide_eq_false (by omega))] at henv
  refine wpList_nil ?_
  refine th_n ?_
  refine if_f henv rfl (rfl) ?_
  refine wp_skip ?_
  refine th_n ?_
  refine wp_seq ?_
  refine wp_seq ?_
  refine region_seq ?_
  revert a
  refine mA rfl rfl ?_
  refine mA rfl rfl ?_
  refine sA (v := .int .i64 0) rfl (fun _ henv => rn_len henv Tryd.underlying32 rfl) ?_
  refine sA (v := .int .i64 (n + 0 : Nat)) rfl (fun _ henv => rn_add henv rfl rfl (by rw [IntWalk.i64_in _ (by omega)]; omega)) ?_
  refine sA (v := .bool (((n + 0 : Nat) : Int) == (0 : Int))) rfl (fun _ henv => rn_bin henv rfl rfl rfl) ?_
  intro a henv
  rw [show (((n + 0 : Nat) : Int) == (0 : Int)) = false from (beq_eq_false_iff_ne.2 (by omega))] at henv
  refine wpList_nil ?_
  refine th_n ?_
  refine if_f henv rfl (rfl) ?_
  refine wp_skip ?_
  refine th_n ?_
  refine wp_seq ?_
  refine region_seq ?_
  revert a
  refine mA rfl rfl ?_
  refine mA rfl rfl ?_
  refine mA rfl rfl ?_
  refine sA (v := .int .i64 0) rfl (fun _ henv => rn_len henv Tryd.underlying32 rfl) ?_
  refine sA (v := .int .i64 (n + 0 : Nat)) rfl (fun _ henv => rn_add henv rfl rfl (by rw [IntWalk.i64_in _ (by omega)]; omega)) ?_
  intro a henv
  refine seq_step rfl (op_makeC (f := fN) (e0 := (none, 0, 0)) (q := notU) (n := n) (m := n + 0) henv hst rfl Tryd.underlying32 inf_anvil_integer_Int rfl rfl fN_zero rfl rfl rfl (by omega) (by omega) (by unfold maxLen; omega) ?_)
  clear henv hst a; intro a w52 g51 henv hst
  replace hst := hst.addNs (es_zeros (n + 0) _) ⟨nou_rowS, trivial⟩
  have hdone := trivial
  replace hst := hst.preOwn (k := 0) rfl List.length_replicate n fN_len (by omega)
  rw [List.take_replicate, Nat.min_eq_left (by omega)] at hst
  replace hst := hst.addNs (es_zeros n _) ⟨nou_rowS, trivial⟩
  replace hst : St w0 _ [rowS notU 28 2 (some ⟨g51, 0, none⟩) n (n + 0) (fl fN (List.replicate n (none, 0, 0)))] [pfEs FN (List.replicate n (none, 0, 0)), pfEs FN (List.replicate (n + 0) (none, 0, 0)), pfRow fN FN 2 A0 0 c0 es0] := hst
  refine sv (v := .slice A0 0 c0) henv rfl (rn_move henv rfl) ?_
  clear henv a; intro a henv
  refine seq_step rfl (op_appendR0 (k := 0) henv hst rfl Tryd.underlying32 (ty_anvil_integer_Int.size) rfl rfl rfl ?_)
  clear henv a; intro a henv
  revert a
  refine aA rfl rfl ?_
  refine aA rfl rfl ?_
  intro a henv
  refine wpList_nil ?_
  refine th_n ?_
  refine wp_ret ?_
  refine leave henv (res2 Tryd.results25 (RV.tmp henv rfl) (RV.tmp henv rfl)) ?_
  exact ⟨_, rfl, ⟨_, _, (List.replicate n (none, 0, 0)), rfl, hst.newRow (k := 0) (j := 0) rfl rfl, (by simp), (by rw [List.map_replicate, show xs = [] from List.eq_nil_of_length_eq_zero hlx, List.append_nil]), fun h => absurd h hq⟩, hst.below⟩
set_option maxRecDepth 100000 in
set_option maxHeartbeats 4000000 in
theorem p_shift_ok {A0 : Option Addr} {n0 c0 : Nat} {es0 : List NE} {xs : List Int} {n : Nat} {w0 : World} (h0 : (pfRow fN FN 2 A0 n0 c0 es0).P w0) (hz0 : es0.map zz = xs) (hn : n ≤ 4096) (hn0 : n0 ≤ 100000) (hz : 0 < n0) (hq : n + n0 ≠ 0) :
    Calls Tryd.prog 25 #[.slice A0 n0 c0, .int .i64 (n : Nat)] w0 fun e w' => ∃ v, e = .returned (.tuple #[v, .int .i64 0]) ∧ ZRowN w0.heap.size w' v (n + n0) (List.replicate n 0 ++ xs) ∧ Below w0.heap.size w0 w' := by
  refine enter Tryd.func25 rfl Tryd.ntmps25 rfl ?_
  intro a henv hst
  have hlen0 := h0.2.1
  have hbig0 := Nat.le_trans h0.1.cap h0.1.big
  unfold maxLen at hbig0
  replace hst := hst.argRow h0
  clear h0
  have hlx : xs.length = n0 := by rw [← hz0, List.length_map]; exact hlen0
  refine wp_seq ?_
  refine region_seq ?_
  revert a
  refine aA rfl rfl ?_
  refine aA rfl rfl ?_
  intro a henv
  refine wpList_nil ?_
  refine th_n ?_
  refine wp_seq ?_
  refine wp_seq ?_
  refine region_seq ?_
  revert a
  refine mA rfl rfl ?_
  refine sA (v := .bool (decide (((n : Nat) : Int) < (0 : Int)))) rfl (fun _ henv => rn_bin henv rfl rfl rfl) ?_
  intro a henv
  rw [show (decide (((n : Nat) : Int) < (0 : Int))) = false from (decide_eq_false (by omega))] at henv
  refine wpList_nil ?_
  refine th_n ?_
  refine if_f henv rfl (rfl) ?_
  refine wp_skip ?_
  refine th_n ?_
  refine wp_seq ?_
  refine wp_seq ?_
  refine region_seq ?_
  revert a
  refine mA rfl rfl ?_
  refine sA (v := .bool (decide (((n : Nat) : Int) > (4096 : Int)))) rfl (fun _ henv => rn_bin henv rfl rfl rfl) ?_
  intro a henv
  rw [show (decide (((n : Nat) : Int) > (4096 : Int))) = false from (decide_eq_false (by omega))] at henv
  refine wpList_nil ?_
  refine th_n ?_
  refine if_f henv rfl (rfl) ?_
  refine wp_skip ?_
  refine th_n ?_
  refine wp_seq ?_
  refine wp_seq ?_
  refine region_seq ?_
  revert a
  refine mA rfl rfl ?_
  refine mA rfl rfl ?_
  refine sA (v := .int .i64 (n0 : Nat)) rfl (fun _ henv => rn_len henv Tryd.underlying32 rfl) ?_
  refine sA (v := .int .i64 (n + n0 : Nat)) rfl (fun _ henv => rn_add henv rfl rfl (by rw [IntWalk.i64_in _ (by omega)]; omega)) ?_
  refine sA (v := .bool (((n + n0 : Nat) : Int) == (0 : Int))) rfl (fun _ henv => rn_bin henv rfl rfl rfl) ?_
  intro a henv
  rw [show (((n + n0 : Nat) : Int) == (0 : Int)) = false from (beq_eq_false_iff_ne.2 (by omega))] at henv
  refine wpList_nil ?_
  refine th_n ?_
  refine if_f henv rfl (rfl) ?_
  refine wp_skip ?_
  refine th_n ?_
  refine wp_seq ?_
  refine region_seq ?_
  revert a
  refine mA rfl rfl ?_
  refine mA rfl rfl ?_
  refine mA rfl rfl ?_
  refine sA (v := .int .i64 (n0 : Nat)) rfl (fun _ henv => rn_len henv Tryd.underlying32 rfl) ?_
  refine sA (v := .int .i64 (n + n0 : Nat)) rfl (fun _ henv => rn_add henv rfl rfl (by rw [IntWalk.i64_in _ (by omega)]; omega)) ?_
  intro a henv
  refine seq_step rfl (op_makeC (f := fN) (e0 := (none, 0, 0)) (q := notU) (n := n) (m := n + n0) henv hst rfl Tryd.underlying32 inf_anvil_integer_Int rfl rfl fN_zero rfl rfl rfl (by omega) (by omega) (by unfold maxLen; omega) ?_)
  clear henv hst a; intro a w52 g51 henv hst
  replace hst := hst.addNs (es_zeros (n + n0) _) ⟨nou_rowS, trivial⟩
  have hdone := trivial
  replace hst := hst.preOwn (k := 0) rfl List.length_replicate n fN_len (by omega)
  rw [List.take_replicate, Nat.min_eq_left (by omega)] at hst
  replace hst := hst.addNs (es_zeros n _) ⟨nou_rowS, trivial⟩
  replace hst : St w0 _ [rowS notU 28 2 (some ⟨g51, 0, none⟩) n (n + n0) (fl fN (List.replicate n (none, 0, 0)))] [pfEs FN (List.replicate n (none, 0, 0)), pfEs FN (List.replicate (n + n0) (none, 0, 0)), pfRow fN FN 2 A0 n0 c0 es0] := hst
  refine sv (v := .slice A0 n0 c0) henv rfl (rn_move henv rfl) ?_
  clear henv a; intro a henv
  refine seq_step rfl (op_appendR (k := 0) henv hst rfl Tryd.underlying32 inf_anvil_integer_Int rfl rfl rfl rfl rfl (hst.pat (k := 2) rfl).1 (fl_all (fun _ => rfl) _) (fl_all (fun _ => rfl) _) rfl (by omega) (by unfold maxLen; omega) (by omega) ?_)
  clear henv hst a; intro a w55 g53 c54 henv hst
  rw [show fl fN (List.replicate n (none, 0, 0)) ++ fl fN es0 = fl fN ((List.replicate n (none, 0, 0)) ++ es0) from (fl_app (f := fN) (List.replicate n (none, 0, 0)) es0).symm] at hst
  replace hst := hst.rowEs (i := 2) rfl
  replace hst := hst.appEs (i := 1) (j := 0) rfl rfl
  replace hst : St w0 _ [rowS notU 28 2 (some ⟨g53, 0, none⟩) (n + n0) c54 (fl fN ((List.replicate n (none, 0, 0)) ++ es0))] [pfEs FN ((List.replicate n (none, 0, 0)) ++ es0), pfEs FN es0, pfEs FN (List.replicate n (none, 0, 0)), pfEs FN (List.replicate (n + n0) (none, 0, 0)), pfRow fN FN 2 A0 n0 c0 es0] := hst
  revert a
  refine aA rfl rfl ?_
  refine aA rfl rfl ?_
  intro a henv
  refine wpList_nil ?_
  refine th_n ?_
  refine wp_ret ?_
  refine leave henv (res2 Tryd.results25 (RV.tmp henv rfl) (RV.tmp henv rfl)) ?_
  exact ⟨_, rfl, ⟨_, _, ((List.replicate n (none, 0, 0)) ++ es0), rfl, hst.newRow (k := 0) (j := 0) rfl rfl, (by simp; omega), (by rw [List.map_append, List.map_replicate, hz0]), fun h => absurd h hq⟩, hst.below⟩
end Go.Proofs.YtghaenkacjgdnaaDoor.W

/- PolyRing, PolyValues: the laws' walks. Printed by pv/gen_po5.py. No condition. -/
namespace Go.Proofs.YtghaenkacjgdnaaDoor.W
open Go.RowKit Anv Go.Lib
theorem zk_co {k : Nat} {xs : List Int} : Zk k xs ↔ ∀ i, zl (co xs i) ≤ k := by
  constructor
  · intro h i
    rcases Nat.lt_or_ge i xs.length with hi | hi
    · have e : co xs i = xs[i] := by rw [co, List.getD_eq_getElem?_getD, List.getElem?_eq_getElem hi]; rfl
      rw [e]
      exact h _ (List.getElem_mem hi)
    · rw [co_off hi, zl_zero]
      exact Nat.zero_le _
  · intro h z hz
    obtain ⟨i, hi, rfl⟩ := List.getElem_of_mem hz
    have := h i
    rwa [co, List.getD_eq_getElem?_getD, List.getElem?_eq_getElem hi] at this
theorem add_zk {a b c : Nat} {xs ys : List Int} (h : Zk a xs) (h' : Zk b ys) (ha : a ≤ c) (hb : b ≤ c) : Zk (c + 1) (addF xs ys) := zk_co.2 fun i => by
  rw [co_add]
  have := zl_addm (co xs i) (co ys i)
  have := zk_co.1 h i
  have := zk_co.1 h' i
  omega
theorem sub_zk {a b c : Nat} {xs ys : List Int} (h : Zk a xs) (h' : Zk b ys) (ha : a ≤ c) (hb : b ≤ c) : Zk (c + 1) (subF xs ys) := zk_co.2 fun i => by
  rw [co_sub]
  have h1 := zl_addm (co xs i) (-co ys i)
  rw [zl_neg] at h1
  have := zk_co.1 h i
  have := zk_co.1 h' i
  show zl (co xs i + -co ys i) ≤ c + 1
  omega
theorem sg_zl {f : Nat → Int} {d : Nat} (h : ∀ i, zl (f i) ≤ d) : ∀ n, zl (sg f n) ≤ d + n
  | 0 => by rw [sg, zl_zero]; exact Nat.zero_le _
  | n + 1 => by
    rw [sg]
    have := zl_addm (sg f n) (f n)
    have := sg_zl h n
    have := h n
    omega
theorem mul_zk {a b m : Nat} {xs ys : List Int} (h : Zk a xs) (h' : Zk b ys) (hl : xs.length ≤ m) : Zk (a + b + m) (mulF xs ys) := by
  unfold mulF
  by_cases h0 : xs.length = 0 ∨ ys.length = 0
  · rw [if_pos h0]; exact fun _ hz => by cases hz
  · rw [if_neg h0]
    refine zk_co.2 fun k => ?_
    rcases Nat.lt_or_ge k (xs.length + ys.length - 1) with hk | hk
    · rw [co_ml xs ys _ k hk]
      refine Nat.le_trans (sg_zl (d := a + b) (fun t => ?_) _) (by omega)
      by_cases ht : t ≤ k
      · rw [if_pos ht]
        have := zl_mul (co xs t) (co ys (k - t))
        have := zk_co.1 h t
        have := zk_co.1 h' (k - t)
        omega
      · rw [if_neg ht, zl_zero]; exact Nat.zero_le _
    · rw [co_off (by rw [mlN_len]; exact hk), zl_zero]
      exact Nat.zero_le _
theorem add_len {m : Nat} {xs ys : List Int} (h : xs.length ≤ m) (h' : ys.length ≤ m) : (addF xs ys).length ≤ m := by
  rw [addF, List.length_map, List.length_range]; omega
theorem sub_len {m : Nat} {xs ys : List Int} (h : xs.length ≤ m) (h' : ys.length ≤ m) : (subF xs ys).length ≤ m := by
  rw [subF, List.length_map, List.length_range]; omega
theorem mul_len {m k : Nat} {xs ys : List Int} (h : xs.length ≤ m) (h' : ys.length ≤ k) : (mulF xs ys).length ≤ m + k := by
  unfold mulF
  by_cases h0 : xs.length = 0 ∨ ys.length = 0
  · rw [if_pos h0]; exact Nat.zero_le _
  · rw [if_neg h0, mlN_len]; omega
theorem zk_zeros {k n : Nat} {xs : List Int} (h : Zk k xs) : Zk k (List.replicate n 0 ++ xs) := fun z hz => by
  rcases List.mem_append.1 hz with hz | hz
  · rw [List.eq_of_mem_replicate hz, zl_zero]; exact Nat.zero_le _
  · exact h z hz
theorem pow16 {A : Option Addr} {c n : Nat} {x : Int} {w : World} (hx : ZIn w A c x) (hI : I16 x) (hn : n ≤ 40) :
    Calls Tryd.prog 41 #[.agg #[.bool (neg x), .slice A (zl x) c], .int .i64 n] w fun r w' => ∃ v, r = .returned (.tuple #[v, .int .i64 0]) ∧ ZAt w' v (x ^ n) ∧ Below w.heap.size w w' := by
  have hl : zl x ≤ 1000 := Nat.le_trans (zl_16 hI) (by decide)
  have hI' : -16 ≤ x ∧ x ≤ 16 := hI
  have hb5 : blen x.natAbs ≤ 5 := blen_le (by omega)
  rcases Nat.eq_zero_or_pos (blen x.natAbs) with h0 | h0
  · have hx0 : x = 0 := by
      have := lt_blen x.natAbs
      rw [h0] at this
      omega
    rcases Nat.eq_zero_or_pos n with hn0 | hn0
    · exact pow_zero_a hx hl (by omega) h0 (by rw [hx0]; rfl) (by rw [hn0]; rfl) (by rw [hn0, Int.pow_zero])
    · exact pow_zero_d hx hl (by omega) h0 (by rw [hx0]; rfl) (beq_eq_false_iff_ne.2 (by omega)) (by rw [hx0]; rfl) (by rw [hx0, zero_pow (by omega)])
  rcases Nat.lt_or_ge 1 (blen x.natAbs) with h1 | h1
  · have hq : (n : Int) ≤ (65536 : Int) / ((blen x.natAbs : Nat) : Int) := by
      rw [Int.le_ediv_iff_mul_le (by omega)]
      have := Nat.mul_le_mul hn hb5
      rw [← Int.natCast_mul]
      omega
    exact pow_big hx hl (by omega) rfl h1 hq fun j hj => Nat.le_trans (zl_p16 hI j) (by omega)
  · have hb1 : blen x.natAbs = 1 := by omega
    have ht := tiny (x := x) (by omega)
    have hs : (x.sign == 0) = false := by
      rcases ht with rfl | rfl | rfl
      · simp [blen] at h0
      · rfl
      · rfl
    rcases Nat.eq_zero_or_pos n with hn0 | hn0
    · exact pow_one_a hx hl (by omega) hb1 hs (by rw [hn0]; rfl) (by rw [hn0, Int.pow_zero])
    · have hne : ((n : Int) == 0) = false := beq_eq_false_iff_ne.2 (by omega)
      rcases ht with rfl | rfl | rfl
      · simp at hs
      · exact pow_one_d hx hl (by omega) hb1 hs hne rfl (one_pow n)
      · rcases Nat.mod_two_eq_zero_or_one n with h2 | h2
        · exact pow_one_b hx hl (by omega) hb1 hs hne rfl (beq_iff_eq.2 (by omega)) (by rw [mone_pow, if_pos h2])
        · exact pow_one_c hx hl (by omega) hb1 hs hne rfl (beq_eq_false_iff_ne.2 (by omega)) (by rw [mone_pow, if_neg (by omega)])
end Go.Proofs.YtghaenkacjgdnaaDoor.W

/- The reference's polynomials; poly.Scale. Printed by pv/gen_po6.py. No condition. -/
namespace Go.Proofs.YtghaenkacjgdnaaDoor.W
open Go.RowKit Anv Go.Lib
theorem same_rbp {A B : Option Addr} {c d : Nat} {x y : Int} {w : World} (hx : RIn w A c x) (hy : RIn w B d y) :
    Calls Tryd.prog 91 #[.agg #[.bool (neg x), .slice A (dl x) c], .agg #[.bool (neg y), .slice B (dl y) d]] w fun e w' => e = .returned (.bool (decide (x = y))) ∧ Below w.heap.size w w' := by
  have h := same_r hx hy
  rw [show ((x - y).sign == 0) = decide (x = y) from ?_] at h
  · exact h
  · by_cases e : x = y
    · rw [e, Int.sub_self]; simp
    · rw [decide_eq_false e]
      exact beq_eq_false_iff_ne.2 fun h => e (by have := Int.sign_eq_zero_iff_zero.1 h; omega)
theorem fM_zp : fM (none, 0, 0) = (Value.agg #[.bool false, .slice none 0 0]).cells.toList := by
  show [Value.bool (neg 0), Value.slice none (dl 0) 0] = _
  rw [dl_zero]
  rfl
theorem scale_eq (xs : List Int) (m : Int) : (List.range xs.length).map (gF (fun x _ => x * m) xs []) = xs.map (· * m) := by
  refine co_ext (by simp) fun k => ?_
  rcases Nat.lt_or_ge k xs.length with h | h
  · rw [co_map h, gF, co, List.getD_eq_getElem?_getD, List.getD_eq_getElem?_getD, List.getElem?_map, List.getElem?_eq_getElem h]
    rfl
  · rw [co_off (by simpa using h), co_off (by simpa using h)]
theorem cv_step {os : List NE} {f g : Nat → Int} {k c : Nat} {A : Option Addr} {z : Int} (ho : os.map zz = (List.range k).map (cv f g)) (h : z = cv f g k) : (os ++ [(A, c, z)]).map zz = (List.range (k + 1)).map (cv f g) := by
  rw [List.map_append, ho, List.range_succ, List.map_append, h]
  rfl
theorem mul_eq {xs ys : List Int} (h : 0 < xs.length) (h' : 0 < ys.length) : (List.range (xs.length + ys.length - 1)).map (cv (co xs) (co ys)) = mulF xs ys := by
  refine co_ext (by rw [List.length_map, List.length_range, mulF_len h h']) fun k => ?_
  rw [co_mul]
  rcases Nat.lt_or_ge k (xs.length + ys.length - 1) with hk | hk
  · exact co_map hk
  · rw [co_off (by rw [List.length_map, List.length_range]; exact hk), cv_off (by omega)]
theorem mrow_nil0 {B : Nat} {w : World} : MRow B w (.slice none 0 0) 0 [] :=
  ⟨none, 0, [], rfl, ⟨⟨World.ownsRow_nil w 0 _ 2, fun g hg => by simp [Value.ownBlock] at hg⟩, es_nil FM w, fun a h => by cases h⟩, rfl, rfl⟩
set_option maxRecDepth 100000 in
set_option maxHeartbeats 2000000 in
theorem r20_deg {A0 : Option Addr} {n0 c0 : Nat} {es0 : List NE} {xs : List Int} {w0 : World} (h0 : (pfRow fM FM 2 A0 n0 c0 es0).P w0) (hz0 : es0.map zz = xs) (hn : n0 ≤ 100000000) :
    Calls Tryd.prog 29 #[.slice A0 n0 c0] w0 fun e w' => e = .returned (.int .i64 (((degN xs : Nat) : Int) - 1)) ∧ Below w0.heap.size w0 w' := by
  refine enter Tryd.func29 rfl Tryd.ntmps29 rfl ?_
  intro a henv hst
  have hlen0 := h0.2.1
  have hbig0 := Nat.le_trans h0.1.cap h0.1.big
  unfold maxLen at hbig0
  replace hst := hst.argRow h0
  clear h0
  have hlx : xs.length = n0 := by rw [← hz0, List.length_map]; exact hlen0
  refine wp_seq ?_
  refine region_seq ?_
  refine sv (v := .int .i64 0) henv rfl (rn_assign henv rfl) ?_
  clear henv a; intro a henv
  refine wpList_nil ?_
  refine th_n ?_
  refine wp_seq ?_
  refine region_seq ?_
  refine sv (v := .int .i64 (-1)) henv rfl (rn_assign henv rfl) ?_
  clear henv a; intro a henv
  refine wpList_nil ?_
  refine th_n ?_
  refine wp_seq ?_
  refine wp_seq ?_
  refine region_seq ?_
  refine sv (v := .int .i64 0) henv rfl (rn_assign henv rfl) ?_
  clear henv a; intro a henv
  refine wpList_nil ?_
  refine th_n ?_
  refine wp_block ?_
  refine wp_loop_ghost (fun mz a w => ∃ i : Nat, ∃ q : Nat, n0 - i = mz ∧ Env 19 a [(0, .slice A0 n0 c0), (3, .int .i64 (((q : Nat) : Int) - 1)), (4, .int .i64 (i : Nat))] ∧ St w0 w [] [pfRow fM FM 2 A0 n0 c0 es0] ∧ i ≤ n0 ∧ q = degN (xs.take i) ∧ q ≤ i) _ ⟨0, 0, rfl, henv.sub ⟨rfl, rfl, rfl, trivial⟩, hst.pick [] [0] (by decide), (Nat.zero_le _), rfl, (Nat.le_refl _)⟩ ?_
  clear henv hst a
  rintro mz a w51 ⟨i, q, rfl, henv, hst, hi, hq, hqi⟩
  refine wp_seq ?_
  refine wp_seq ?_
  refine region_seq ?_
  revert a
  refine mA rfl rfl ?_
  refine mA rfl rfl ?_
  refine sA (v := .int .i64 (n0 : Nat)) rfl (fun _ henv => rn_len henv Tryd.underlying42 rfl) ?_
  refine sA (v := .bool (decide (((i : Nat) : Int) < ((n0 : Nat) : Int)))) rfl (fun _ henv => rn_bin henv rfl rfl rfl) ?_
  intro a henv
  refine wpList_nil ?_
  refine th_n ?_
  refine if_split henv rfl (fun hc52 => ?_) (fun hc52 => ?_)
  · have hlt : i < n0 := by have := of_decide_eq_true hc52; omega
    obtain ⟨⟨A, c, x⟩, he0⟩ : ∃ e, es0[i]? = some e := ⟨_, List.getElem?_eq_getElem (by omega)⟩
    replace hst := hst.elem (k := 0) rfl he0
    replace hst : St w0 _ [] [pfR A c x, pfRow fM FM 2 A0 n0 c0 es0] := hst
    replace hst : St w0 _ [] [pfR A c x, pfRow fM FM 2 A0 n0 c0 es0] := hst
    have hg0 : xs[i]? = some x := by rw [← hz0, List.getElem?_map, he0]; rfl
    have hc0 : co xs i = x := by rw [co, List.getD_eq_getElem?_getD, hg0]; rfl
    refine wp_skip ?_
    refine th_n ?_
    refine wp_seq ?_
    refine wp_block ?_
    refine wp_seq ?_
    refine region_seq ?_
    revert a
    refine mA rfl rfl ?_
    refine mA rfl rfl ?_
    refine sA (v := .pointer (some ⟨ab A0, ao A0 + i * 2, none⟩)) rfl (fun _ henv => rn_idxR (i := i) henv Tryd.underlying42 (ty_anvil_anvilref02_Int.size) rfl rfl (by omega) rfl (show (pfRow fM FM 2 A0 n0 c0 es0).P _ from (hst.pat (k := 1) rfl)).1) ?_
    refine sA (v := .agg #[.bool (neg x), .slice A (dl x) c]) rfl (fun _ henv => rn_loadE (i := i) (e := (A, c, x)) henv ty_anvil_anvilref02_Int rfl rfl fM_len (show (pfRow fM FM 2 A0 n0 c0 es0).P _ from (hst.pat (k := 1) rfl)).1 (by omega) he0 rfl) ?_
    intro a henv
    refine seq_step rfl (op_call henv rfl Tryd.call62 rfl (sign_r (z := x)) ?_)
    rintro e w53 ⟨rfl, hb⟩
    refine ⟨_, rfl, ?_⟩
    clear henv a; intro a henv
    replace hst := hst.call hb
    clear hb
    refine sv (v := .bool (x.sign != (0 : Int))) henv rfl (rn_bin henv rfl rfl rfl) ?_
    clear henv a; intro a henv
    refine wpList_nil ?_
    refine th_n ?_
    refine if_split henv rfl (fun hc54 => ?_) (fun hc54 => ?_)
    · have hx0 : x ≠ 0 := fun h0 => by rw [h0] at hc54; simp at hc54
      refine region_seq ?_
      revert a
      refine mA rfl rfl ?_
      refine aA rfl rfl ?_
      intro a henv
      refine wpList_nil ?_
      refine bl_n (th_n ?_)
      refine region_seq ?_
      revert a
      refine mA rfl rfl ?_
      refine sA (v := .int .i64 (i + 1 : Nat)) rfl (fun _ henv => rn_add henv rfl rfl (by rw [IntWalk.i64_in _ (by omega)]; omega)) ?_
      refine aA rfl rfl ?_
      intro a henv
      refine wpList_nil ?_
      exact th_n ⟨_, (by omega), ⟨i + 1, (i + 1), rfl, henv.sub ⟨rfl, (congrArg (fun k => some (Value.int .i64 k)) (show ((i : Nat) : Int) = ((i + 1 : Nat) : Int) - 1 by omega)), rfl, trivial⟩, hst.pick [] [1] (by decide), (by omega), (by rw [take_one hg0, deg_snoc hx0, List.length_take, hlx]; omega), (Nat.le_refl _)⟩⟩
    · have hx0 : x = 0 := Int.sign_eq_zero_iff_zero.1 (by have := hc54; simpa using this)
      refine wp_skip ?_
      refine bl_n (th_n ?_)
      refine region_seq ?_
      revert a
      refine mA rfl rfl ?_
      refine sA (v := .int .i64 (i + 1 : Nat)) rfl (fun _ henv => rn_add henv rfl rfl (by rw [IntWalk.i64_in _ (by omega)]; omega)) ?_
      refine aA rfl rfl ?_
      intro a henv
      refine wpList_nil ?_
      exact th_n ⟨_, (by omega), ⟨i + 1, q, rfl, henv.sub ⟨rfl, rfl, rfl, trivial⟩, hst.pick [] [1] (by decide), (by omega), (by rw [take_one hg0, hx0, deg_snoc0, ← hq]), (by omega)⟩⟩
  · obtain rfl : n0 = i := by have := of_decide_eq_false hc52; omega
    refine wp_exit ?_
    refine th_x (th_x (bl_x (th_n ?_)))
    refine wp_seq ?_
    refine region_seq ?_
    revert a
    refine mA rfl rfl ?_
    refine aA rfl rfl ?_
    intro a henv
    refine wpList_nil ?_
    refine th_n ?_
    refine wp_ret ?_
    refine leave henv (res1 Tryd.results29 (RV.tmp henv rfl)) ?_
    exact ⟨by rw [hq, List.take_of_length_le (by omega)], hst.below⟩
set_option maxRecDepth 100000 in
set_option maxHeartbeats 2000000 in
theorem r20_trim {A0 : Option Addr} {n0 c0 : Nat} {es0 : List NE} {xs : List Int} {w0 : World} (h0 : (pfRow fM FM 2 A0 n0 c0 es0).P w0) (hz0 : es0.map zz = xs) (hn : n0 ≤ 10000000) :
    Calls Tryd.prog 28 #[.slice A0 n0 c0] w0 fun e w' => e = .returned (.slice A0 (degN xs) c0) ∧ Below w0.heap.size w0 w' := by
  have hcap0 := h0.1.cap
  have hdl := deg_len xs
  rw [← hz0, List.length_map, h0.2.1, hz0] at hdl
  refine enter Tryd.func28 rfl Tryd.ntmps28 rfl ?_
  intro a henv hst
  have hlen0 := h0.2.1
  have hbig0 := Nat.le_trans h0.1.cap h0.1.big
  unfold maxLen at hbig0
  replace hst := hst.argRow h0
  clear h0
  have hlx : xs.length = n0 := by rw [← hz0, List.length_map]; exact hlen0
  refine wp_seq ?_
  refine region_seq ?_
  refine sv (v := .slice none 0 0) henv rfl (rn_assign henv rfl) ?_
  clear henv a; intro a henv
  refine wpList_nil ?_
  refine th_n ?_
  refine wp_seq ?_
  refine region_seq ?_
  revert a
  refine mA rfl rfl ?_
  refine mA rfl rfl ?_
  intro a henv
  refine seq_step rfl (op_call henv rfl Tryd.call29 rfl (r20_deg (hst.pat (k := 0) rfl) hz0 (by omega)) ?_)
  rintro e w51 ⟨rfl, hb⟩
  refine ⟨_, rfl, ?_⟩
  clear henv a; intro a henv
  replace hst := hst.call hb
  clear hb
  revert a
  refine sA (v := .int .i64 (degN xs : Nat)) rfl (fun _ henv => rn_add henv rfl rfl (by rw [IntWalk.i64_in _ (by omega)]; omega)) ?_
  refine sA (v := .slice A0 (degN xs) c0) rfl (fun _ henv => rn_sliceTo (m := degN xs) henv Tryd.underlying42 (ty_anvil_anvilref02_Int.size) rfl rfl (by omega)) ?_
  refine aA rfl rfl ?_
  intro a henv
  refine wpList_nil ?_
  refine th_n ?_
  refine wp_ret ?_
  refine leave henv (res1 Tryd.results28 (RV.tmp henv rfl)) ?_
  exact ⟨rfl, hst.below⟩
set_option maxRecDepth 100000 in
set_option maxHeartbeats 2000000 in
theorem r20_alike {A0 A1 : Option Addr} {n0 n1 c0 c1 : Nat} {es0 es1 : List NE} {xs ys : List Int} {w0 : World} (h0 : (pfRow fM FM 2 A0 n0 c0 es0).P w0) (hz0 : es0.map zz = xs) (h1 : (pfRow fM FM 2 A1 n1 c1 es1).P w0) (hz1 : es1.map zz = ys) (_hn0 : n0 ≤ 10000000) (_hn1 : n1 ≤ 10000000) :
    Calls Tryd.prog 63 #[.slice A0 n0 c0, .slice A1 n1 c1] w0 fun e w' => e = .returned (.bool (decide (xs = ys))) ∧ Below w0.heap.size w0 w' := by
  refine enter Tryd.func63 rfl Tryd.ntmps63 rfl ?_
  intro a henv hst
  have hlen0 := h0.2.1
  have hbig0 := Nat.le_trans h0.1.cap h0.1.big
  unfold maxLen at hbig0
  have hlen1 := h1.2.1
  have hbig1 := Nat.le_trans h1.1.cap h1.1.big
  unfold maxLen at hbig1
  have hlx : xs.length = n0 := by rw [← hz0, List.length_map]; exact hlen0
  have hly : ys.length = n1 := by rw [← hz1, List.length_map]; exact hlen1
  replace hst := (hst.argRow h1).argRow h0
  clear h0 h1
  refine wp_seq ?_
  refine region_seq ?_
  refine sv (v := .bool false) henv rfl (rn_assign henv rfl) ?_
  clear henv a; intro a henv
  refine wpList_nil ?_
  refine th_n ?_
  refine wp_seq ?_
  refine wp_seq ?_
  refine region_seq ?_
  revert a
  refine mA rfl rfl ?_
  refine sA (v := .int .i64 (n0 : Nat)) rfl (fun _ henv => rn_len henv Tryd.underlying42 rfl) ?_
  refine mA rfl rfl ?_
  refine sA (v := .int .i64 (n1 : Nat)) rfl (fun _ henv => rn_len henv Tryd.underlying42 rfl) ?_
  refine sA (v := .bool (((n0 : Nat) : Int) != ((n1 : Nat) : Int))) rfl (fun _ henv => rn_bin henv rfl rfl rfl) ?_
  intro a henv
  refine wpList_nil ?_
  refine th_n ?_
  refine if_split henv rfl (fun hc51 => ?_) (fun hc51 => ?_)
  · have hne : n0 ≠ n1 := by have := hc51; simp at this; omega
    refine wp_seq ?_
    refine region_seq ?_
    refine sv (v := .bool false) henv rfl (rn_assign henv rfl) ?_
    clear henv a; intro a henv
    refine wpList_nil ?_
    refine th_n ?_
    refine wp_ret ?_
    refine th_r ?_
    refine leave henv (res1 Tryd.results63 (RV.tmp henv rfl)) ?_
    exact ⟨by rw [decide_eq_false (fun h => hne (by rw [← hlx, ← hly, h]))], hst.below⟩
  · have hnn : n0 = n1 := by have := hc51; simp at this; omega
    refine wp_skip ?_
    refine th_n ?_
    refine wp_seq ?_
    refine wp_seq ?_
    refine region_seq ?_
    refine sv (v := .int .i64 0) henv rfl (rn_assign henv rfl) ?_
    clear henv a; intro a henv
    refine wpList_nil ?_
    refine th_n ?_
    refine wp_block ?_
    refine wp_loop_ghost (fun mz a w => ∃ j : Nat, n0 - j = mz ∧ Env 27 a [(0, .slice A0 n0 c0), (1, .slice A1 n1 c1), (5, .int .i64 (j : Nat))] ∧ St w0 w [] [pfRow fM FM 2 A0 n0 c0 es0, pfRow fM FM 2 A1 n1 c1 es1] ∧ j ≤ n0 ∧ xs.take j = ys.take j) _ ⟨0, rfl, henv.sub ⟨rfl, rfl, rfl, trivial⟩, hst.pick [] [0, 1] (by decide), (Nat.zero_le _), rfl⟩ ?_
    clear henv hst a
    rintro mz a w52 ⟨j, rfl, henv, hst, hj, he⟩
    refine wp_seq ?_
    refine wp_seq ?_
    refine region_seq ?_
    revert a
    refine mA rfl rfl ?_
    refine mA rfl rfl ?_
    refine sA (v := .int .i64 (n0 : Nat)) rfl (fun _ henv => rn_len henv Tryd.underlying42 rfl) ?_
    refine sA (v := .bool (decide (((j : Nat) : Int) < ((n0 : Nat) : Int)))) rfl (fun _ henv => rn_bin henv rfl rfl rfl) ?_
    intro a henv
    refine wpList_nil ?_
    refine th_n ?_
    refine if_split henv rfl (fun hc53 => ?_) (fun hc53 => ?_)
    · have hlt : j < n0 := by have := of_decide_eq_true hc53; omega
      obtain ⟨⟨A, c, x⟩, he0⟩ : ∃ e, es0[j]? = some e := ⟨_, List.getElem?_eq_getElem (by omega)⟩
      replace hst := hst.elem (k := 0) rfl he0
      replace hst : St w0 _ [] [pfR A c x, pfRow fM FM 2 A0 n0 c0 es0, pfRow fM FM 2 A1 n1 c1 es1] := hst
      replace hst : St w0 _ [] [pfR A c x, pfRow fM FM 2 A0 n0 c0 es0, pfRow fM FM 2 A1 n1 c1 es1] := hst
      have hg0 : xs[j]? = some x := by rw [← hz0, List.getElem?_map, he0]; rfl
      have hc0 : co xs j = x := by rw [co, List.getD_eq_getElem?_getD, hg0]; rfl
      obtain ⟨⟨C, d, y⟩, he1⟩ : ∃ e, es1[j]? = some e := ⟨_, List.getElem?_eq_getElem (by omega)⟩
      replace hst := hst.elem (k := 2) rfl he1
      replace hst : St w0 _ [] [pfR C d y, pfR A c x, pfRow fM FM 2 A0 n0 c0 es0, pfRow fM FM 2 A1 n1 c1 es1] := hst
      replace hst : St w0 _ [] [pfR C d y, pfR A c x, pfRow fM FM 2 A0 n0 c0 es0, pfRow fM FM 2 A1 n1 c1 es1] := hst
      have hg1 : ys[j]? = some y := by rw [← hz1, List.getElem?_map, he1]; rfl
      have hc1 : co ys j = y := by rw [co, List.getD_eq_getElem?_getD, hg1]; rfl
      refine wp_skip ?_
      refine th_n ?_
      refine wp_seq ?_
      refine wp_block ?_
      refine wp_seq ?_
      refine region_any (n := 10) (Sk [] [pfR C d y, pfR A c x, pfRow fM FM 2 A0 n0 c0 es0, pfRow fM FM 2 A1 n1 c1 es1] [] []) mixed rfl henv hst ?_
      clear henv hst; intro w54 henv hst
      refine tM (i := 0) [2, 3, 8, 9] rfl (by kernel_rfl) (fun _ _ _ h => h) henv rfl rfl ?_
      clear henv a; intro a henv
      refine tM (i := 1) [2, 3, 8, 9] rfl (by kernel_rfl) (fun _ _ _ h => h) henv rfl rfl ?_
      clear henv a; intro a henv
      refine sAny_take (i := 2) [3, 8, 9] (fun w' => (pfRow fM FM 2 A0 n0 c0 es0).P w') (v := .pointer (some ⟨ab A0, ao A0 + j * 2, none⟩)) rfl (by kernel_rfl) (fun _ _ _ h => h) (fun _ _ _ hS => hS.1.pat (k := 2) rfl) henv rfl (hst.pat (k := 2) rfl) (fun w' hg => rn_idxR (i := j) henv Tryd.underlying42 (ty_anvil_anvilref02_Int.size) rfl rfl (by omega) rfl (show (pfRow fM FM 2 A0 n0 c0 es0).P _ from hg).1) ?_
      clear henv a; intro a henv
      refine sAny_take (i := 3) [8, 9] (fun w' => (pfRow fM FM 2 A0 n0 c0 es0).P w') (v := .agg #[.bool (neg x), .slice A (dl x) c]) rfl (by kernel_rfl) (fun _ _ _ h => h) (fun _ _ _ hS => hS.1.pat (k := 2) rfl) henv rfl (hst.pat (k := 2) rfl) (fun w' hg => rn_loadE (i := j) (e := (A, c, x)) henv ty_anvil_anvilref02_Int rfl rfl fM_len (show (pfRow fM FM 2 A0 n0 c0 es0).P _ from hg).1 (by omega) he0 rfl) ?_
      clear henv a; intro a henv
      refine tM (i := 4) (rg 6 4) rfl (by kernel_rfl) (fun _ _ _ h => h) henv rfl rfl ?_
      clear henv a; intro a henv
      refine tM (i := 5) (rg 6 4) rfl (by kernel_rfl) (fun _ _ _ h => h) henv rfl rfl ?_
      clear henv a; intro a henv
      refine sAny_take (i := 6) [7, 8, 9] (fun w' => (pfRow fM FM 2 A1 n1 c1 es1).P w') (v := .pointer (some ⟨ab A1, ao A1 + j * 2, none⟩)) rfl (by kernel_rfl) (fun _ _ _ h => h) (fun _ _ _ hS => hS.1.pat (k := 3) rfl) henv rfl (hst.pat (k := 3) rfl) (fun w' hg => rn_idxR (i := j) henv Tryd.underlying42 (ty_anvil_anvilref02_Int.size) rfl rfl (by omega) rfl (show (pfRow fM FM 2 A1 n1 c1 es1).P _ from hg).1) ?_
      clear henv a; intro a henv
      refine sAny_take (i := 7) [8, 9] (fun w' => (pfRow fM FM 2 A1 n1 c1 es1).P w') (v := .agg #[.bool (neg y), .slice C (dl y) d]) rfl (by kernel_rfl) (fun _ _ _ h => h) (fun _ _ _ hS => hS.1.pat (k := 3) rfl) henv rfl (hst.pat (k := 3) rfl) (fun w' hg => rn_loadE (i := j) (e := (C, d, y)) henv ty_anvil_anvilref02_Int rfl rfl fM_len (show (pfRow fM FM 2 A1 n1 c1 es1).P _ from hg).1 (by omega) he1 rfl) ?_
      clear henv a; intro a henv
      refine sAny_one (i := 8) (by kernel_rfl) rfl rfl (op_call henv rfl Tryd.call91 rfl (same_rbp (x := x) (y := y) (show RIn _ A c x from hst.pat (k := 1) rfl) (show RIn _ C d y from hst.pat (k := 0) rfl)) ?_)
      rintro e w55 ⟨rfl, hb⟩
      refine ⟨_, rfl, ?_⟩
      clear henv a; intro a henv
      replace hst := hst.call hb
      clear hb
      refine ⟨.inr ⟨hst.kn.pick [] (rg 0 4), .inr (hst.kn.pick [] [])⟩, ?_⟩
      refine tA (i := 9) [] (v := .bool (!(decide (x = y)))) rfl (by kernel_rfl) (fun _ _ _ h => h) henv rfl (fun _ => rn_un henv rfl rfl) ?_
      clear henv a; intro a henv
      refine sAny_done (by kernel_rfl) ?_ _
      refine th_n ?_
      refine if_split henv rfl (fun hc56 => ?_) (fun hc56 => ?_)
      · have hxy : ¬ x = y := of_decide_eq_false (bnot_t hc56)
        refine wp_seq ?_
        refine region_seq ?_
        refine sv (v := .bool false) henv rfl (rn_assign henv rfl) ?_
        clear henv a; intro a henv
        refine wpList_nil ?_
        refine th_n ?_
        refine wp_ret ?_
        refine bl_r (th_r (th_r (bl_r (th_r ?_))))
        refine leave henv (res1 Tryd.results63 (RV.tmp henv rfl)) ?_
        exact ⟨by rw [decide_eq_false (fun h => hxy (by rw [← hc0, ← hc1, h]))], hst.below⟩
      · have hxy : x = y := of_decide_eq_true (bnot_f hc56)
        refine wp_skip ?_
        refine bl_n (th_n ?_)
        refine region_seq ?_
        revert a
        refine mA rfl rfl ?_
        refine sA (v := .int .i64 (j + 1 : Nat)) rfl (fun _ henv => rn_add henv rfl rfl (by rw [IntWalk.i64_in _ (by omega)]; omega)) ?_
        refine aA rfl rfl ?_
        intro a henv
        refine wpList_nil ?_
        exact th_n ⟨_, (by omega), ⟨j + 1, rfl, henv.sub ⟨rfl, rfl, rfl, trivial⟩, hst.pick [] [2, 3] (by decide), (by omega), (by rw [take_one hg0, take_one hg1, he, hxy])⟩⟩
    · have hjn : j = n0 := by have := of_decide_eq_false hc53; omega
      refine wp_exit ?_
      refine th_x (th_x (bl_x (th_n ?_)))
      refine wp_seq ?_
      refine region_seq ?_
      refine sv (v := .bool true) henv rfl (rn_assign henv rfl) ?_
      clear henv a; intro a henv
      refine wpList_nil ?_
      refine th_n ?_
      refine wp_ret ?_
      refine leave henv (res1 Tryd.results63 (RV.tmp henv rfl)) ?_
      have hall : xs = ys := by rw [hjn, List.take_of_length_le (by omega), List.take_of_length_le (by omega)] at he; exact he
      exact ⟨by rw [decide_eq_true hall], hst.below⟩
set_option maxRecDepth 100000 in
set_option maxHeartbeats 2000000 in
theorem r20_same {A0 A1 : Option Addr} {n0 n1 c0 c1 : Nat} {es0 es1 : List NE} {xs ys : List Int} {w0 : World} (h0 : (pfRow fM FM 2 A0 n0 c0 es0).P w0) (hz0 : es0.map zz = xs) (h1 : (pfRow fM FM 2 A1 n1 c1 es1).P w0) (hz1 : es1.map zz = ys) (hn0 : n0 ≤ 10000000) (hn1 : n1 ≤ 10000000) :
    Calls Tryd.prog 30 #[.slice A0 n0 c0, .slice A1 n1 c1] w0 fun e w' => e = .returned (.bool (decide (trimN xs = trimN ys))) ∧ Below w0.heap.size w0 w' := by
  refine enter Tryd.func30 rfl Tryd.ntmps30 rfl ?_
  intro a henv hst
  have hlen0 := h0.2.1
  have hbig0 := Nat.le_trans h0.1.cap h0.1.big
  unfold maxLen at hbig0
  have hlen1 := h1.2.1
  have hbig1 := Nat.le_trans h1.1.cap h1.1.big
  unfold maxLen at hbig1
  have hlx : xs.length = n0 := by rw [← hz0, List.length_map]; exact hlen0
  have hly : ys.length = n1 := by rw [← hz1, List.length_map]; exact hlen1
  replace hst := (hst.argRow h1).argRow h0
  clear h0 h1
  refine wp_seq ?_
  refine region_seq ?_
  refine sv (v := .bool false) henv rfl (rn_assign henv rfl) ?_
  clear henv a; intro a henv
  refine wpList_nil ?_
  refine th_n ?_
  refine wp_seq ?_
  refine region_seq ?_
  refine sv (v := .slice A0 n0 c0) henv rfl (rn_move henv rfl) ?_
  clear henv a; intro a henv
  have hdl0 : degN xs ≤ n0 := by have := deg_len xs; omega
  refine seq_step rfl (op_call henv rfl Tryd.call28 rfl (r20_trim (hst.pat (k := 0) rfl) hz0 (by omega)) ?_)
  rintro e w51 ⟨rfl, hb⟩
  refine ⟨_, rfl, ?_⟩
  clear henv a; intro a henv
  replace hst := hst.call hb
  replace hst := hst.preRow (i := 0) rfl (degN xs) fM_len hdl0
  clear hb
  replace hst : St w0 _ [] [pfRow fM FM 2 A0 (degN xs) c0 (es0.take (degN xs)), pfRow fM FM 2 A0 n0 c0 es0, pfRow fM FM 2 A1 n1 c1 es1] := hst
  refine sv (v := .slice A1 n1 c1) henv rfl (rn_move henv rfl) ?_
  clear henv a; intro a henv
  have hdl1 : degN ys ≤ n1 := by have := deg_len ys; omega
  refine seq_step rfl (op_call henv rfl Tryd.call28 rfl (r20_trim (hst.pat (k := 2) rfl) hz1 (by omega)) ?_)
  rintro e w52 ⟨rfl, hb⟩
  refine ⟨_, rfl, ?_⟩
  clear henv a; intro a henv
  replace hst := hst.call hb
  replace hst := hst.preRow (i := 2) rfl (degN ys) fM_len hdl1
  clear hb
  replace hst : St w0 _ [] [pfRow fM FM 2 A1 (degN ys) c1 (es1.take (degN ys)), pfRow fM FM 2 A0 (degN xs) c0 (es0.take (degN xs)), pfRow fM FM 2 A0 n0 c0 es0, pfRow fM FM 2 A1 n1 c1 es1] := hst
  refine seq_step rfl (op_call henv rfl Tryd.call63 rfl (r20_alike (xs := trimN xs) (ys := trimN ys) (hst.pat (k := 1) rfl) (by rw [List.map_take, hz0]; rfl) (hst.pat (k := 0) rfl) (by rw [List.map_take, hz1]; rfl) (by omega) (by omega)) ?_)
  rintro e w53 ⟨rfl, hb⟩
  refine ⟨_, rfl, ?_⟩
  clear henv a; intro a henv
  replace hst := hst.call hb
  clear hb
  refine sv (v := .bool (decide (trimN xs = trimN ys))) henv rfl (rn_assign henv rfl) ?_
  clear henv a; intro a henv
  refine wpList_nil ?_
  refine th_n ?_
  refine wp_ret ?_
  refine leave henv (res1 Tryd.results30 (RV.tmp henv rfl)) ?_
  exact ⟨rfl, hst.below⟩
set_option maxRecDepth 100000 in
set_option maxHeartbeats 2000000 in
theorem r20_at {A0 : Option Addr} {n0 c0 : Nat} {es0 : List NE} {xs : List Int} {i : Nat} {w0 : World} (h0 : (pfRow fM FM 2 A0 n0 c0 es0).P w0) (hz0 : es0.map zz = xs) (_hi : i ≤ 100000000) :
    Calls Tryd.prog 64 #[.slice A0 n0 c0, .int .i64 (i : Nat)] w0 fun e w' => ∃ v, e = .returned v ∧ RAt w' v (co xs i) ∧ Below w0.heap.size w0 w' := by
  refine enter Tryd.func64 rfl Tryd.ntmps64 rfl ?_
  intro a henv hst
  have hlen0 := h0.2.1
  have hbig0 := Nat.le_trans h0.1.cap h0.1.big
  unfold maxLen at hbig0
  replace hst := hst.argRow h0
  clear h0
  have hlx : xs.length = n0 := by rw [← hz0, List.length_map]; exact hlen0
  refine wp_seq ?_
  refine region_seq ?_
  refine seq_step rfl (op_alloc (c := #[.bool (neg 0), .slice none (dl 0) 0]) henv hst rfl zero_anvil_anvilref02_Int rcells ?_)
  clear henv hst a; intro a w52 g51 henv hst
  refine wpList_nil ?_
  refine th_n ?_
  refine wp_seq ?_
  refine wp_seq ?_
  refine region_seq ?_
  revert a
  refine mA rfl rfl ?_
  refine mA rfl rfl ?_
  refine sA (v := .int .i64 (n0 : Nat)) rfl (fun _ henv => rn_len henv Tryd.underlying42 rfl) ?_
  refine sA (v := .bool (decide (((i : Nat) : Int) < ((n0 : Nat) : Int)))) rfl (fun _ henv => rn_bin henv rfl rfl rfl) ?_
  intro a henv
  refine wpList_nil ?_
  refine th_n ?_
  refine if_split henv rfl (fun hc53 => ?_) (fun hc53 => ?_)
  · have hlt : i < n0 := by have := of_decide_eq_true hc53; omega
    obtain ⟨⟨A, c, x⟩, he0⟩ : ∃ e, es0[i]? = some e := ⟨_, List.getElem?_eq_getElem (by omega)⟩
    replace hst := hst.elem (k := 0) rfl he0
    replace hst : St w0 _ [bk g51 #[.bool (neg 0), .slice none (dl 0) 0] 39] [pfR A c x, pfRow fM FM 2 A0 n0 c0 es0] := hst
    replace hst : St w0 _ [bk g51 #[.bool (neg 0), .slice none (dl 0) 0] 39] [pfR A c x, pfRow fM FM 2 A0 n0 c0 es0] := hst
    have hg0 : xs[i]? = some x := by rw [← hz0, List.getElem?_map, he0]; rfl
    have hc0 : co xs i = x := by rw [co, List.getD_eq_getElem?_getD, hg0]; rfl
    refine wp_seq ?_
    refine region_seq ?_
    revert a
    refine mA rfl rfl ?_
    refine mA rfl rfl ?_
    refine sA (v := .pointer (some ⟨ab A0, ao A0 + i * 2, none⟩)) rfl (fun _ henv => rn_idxR (i := i) henv Tryd.underlying42 (ty_anvil_anvilref02_Int.size) rfl rfl (by omega) rfl (show (pfRow fM FM 2 A0 n0 c0 es0).P _ from (hst.pat (k := 1) rfl)).1) ?_
    refine sA (v := .agg #[.bool (neg x), .slice A (dl x) c]) rfl (fun _ henv => rn_loadE (i := i) (e := (A, c, x)) henv ty_anvil_anvilref02_Int rfl rfl fM_len (show (pfRow fM FM 2 A0 n0 c0 es0).P _ from (hst.pat (k := 1) rfl)).1 (by omega) he0 rfl) ?_
    intro a henv
    refine seq_step rfl (op_store (k := 0) (c' := #[.bool (neg x), .slice A (dl x) c]) henv hst (ty_anvil_anvilref02_Int.size) rfl rfl rfl rfl (by simp) rfl rfl ?_)
    clear henv hst a; intro a w54 henv hst
    refine wpList_nil ?_
    refine th_n ?_
    refine wp_ret ?_
    refine th_r ?_
    refine leave henv (res1 Tryd.results64 (RV.cell henv ty_anvil_anvilref02_Int rfl (hst.oat (k := 0) rfl) rfl)) ?_
    exact ⟨_, rfl, (by rw [hc0]; exact ⟨_, _, rfl, hst.pat (k := 0) rfl⟩), hst.below⟩
  · have hge : n0 ≤ i := by have := of_decide_eq_false hc53; omega
    have hc0 : co xs i = 0 := co_off (by omega)
    replace hst := hst.addR (rin_none _) ⟨nou_bk rfl, trivial⟩
    replace hst : St w0 _ [bk g51 #[.bool (neg 0), .slice none (dl 0) 0] 39] [pfR none 0 0, pfRow fM FM 2 A0 n0 c0 es0] := hst
    refine wp_skip ?_
    refine th_n ?_
    refine wp_seq ?_
    refine region_seq ?_
    refine sv (v := .agg #[.bool (neg 0), .slice none (dl 0) 0]) henv rfl (rn_zref) ?_
    clear henv a; intro a henv
    refine seq_step rfl (op_store (k := 0) (c' := #[.bool (neg 0), .slice none (dl 0) 0]) henv hst (ty_anvil_anvilref02_Int.size) rfl rfl rfl rfl (by simp) rfl rfl ?_)
    clear henv hst a; intro a w55 henv hst
    refine wpList_nil ?_
    refine th_n ?_
    refine wp_ret ?_
    refine leave henv (res1 Tryd.results64 (RV.cell henv ty_anvil_anvilref02_Int rfl (hst.oat (k := 0) rfl) rfl)) ?_
    exact ⟨_, rfl, (by rw [hc0]; exact ⟨_, _, rfl, hst.pat (k := 0) rfl⟩), hst.below⟩
set_option maxRecDepth 100000 in
set_option maxHeartbeats 4000000 in
theorem r20_add {A0 A1 : Option Addr} {n0 n1 c0 c1 : Nat} {es0 es1 : List NE} {xs ys : List Int} {w0 : World} (h0 : (pfRow fM FM 2 A0 n0 c0 es0).P w0) (hz0 : es0.map zz = xs) (h1 : (pfRow fM FM 2 A1 n1 c1 es1).P w0) (hz1 : es1.map zz = ys) (hk0 : Zk 1000 xs) (hk1 : Zk 1000 ys) (hn0 : n0 ≤ 100000) (hn1 : n1 ≤ 100000) :
    Calls Tryd.prog 31 #[.slice A0 n0 c0, .slice A1 n1 c1] w0 fun e w' => ∃ v, e = .returned v ∧ MRow w0.heap.size w' v (addF xs ys).length (addF xs ys) ∧ Below w0.heap.size w0 w' := by
  refine enter Tryd.func31 rfl Tryd.ntmps31 rfl ?_
  intro a henv hst
  have hlen0 := h0.2.1
  have hbig0 := Nat.le_trans h0.1.cap h0.1.big
  unfold maxLen at hbig0
  have hlen1 := h1.2.1
  have hbig1 := Nat.le_trans h1.1.cap h1.1.big
  unfold maxLen at hbig1
  have hlx : xs.length = n0 := by rw [← hz0, List.length_map]; exact hlen0
  have hly : ys.length = n1 := by rw [← hz1, List.length_map]; exact hlen1
  replace hst := (hst.argRow h1).argRow h0
  clear h0 h1
  refine wp_seq ?_
  refine region_seq ?_
  refine sv (v := .slice none 0 0) henv rfl (rn_assign henv rfl) ?_
  clear henv a; intro a henv
  refine wpList_nil ?_
  refine th_n ?_
  refine wp_seq ?_
  refine region_seq ?_
  refine sv (v := .slice none 0 0) henv rfl (rn_assign henv rfl) ?_
  clear henv a; intro a henv
  refine wpList_nil ?_
  refine th_n ?_
  refine wp_seq ?_
  refine wp_seq ?_
  refine region_seq ?_
  refine sv (v := .int .i64 0) henv rfl (rn_assign henv rfl) ?_
  clear henv a; intro a henv
  refine wpList_nil ?_
  refine th_n ?_
  refine wp_block ?_
  replace hst := (hst.addRowS notU 39 2).nilEs FM
  replace hst : St w0 _ [rowS notU 39 2 none 0 0 (fl fM ([]))] [pfEs FM ([]), pfRow fM FM 2 A0 n0 c0 es0, pfRow fM FM 2 A1 n1 c1 es1] := hst
  refine wp_loop_ghost (fun mz a w => ∃ i : Nat, ∃ B : Option Addr, ∃ d : Nat, ∃ os : List NE, max n0 n1 - i = mz ∧ Env 30 a [(0, .slice A0 n0 c0), (1, .slice A1 n1 c1), (5, .slice B i d), (6, .int .i64 (i : Nat))] ∧ St w0 w [rowS notU 39 2 B i d (fl fM os)] [pfRow fM FM 2 A0 n0 c0 es0, pfRow fM FM 2 A1 n1 c1 es1, pfEs FM os] ∧ i ≤ max n0 n1 ∧ os.map zz = (List.range i).map (gF (· + ·) xs ys)) _ ⟨0, none, 0, [], rfl, henv.sub ⟨rfl, rfl, rfl, rfl, trivial⟩, hst.pick [0] [1, 2, 0] (by decide), (Nat.zero_le _), rfl⟩ ?_
  clear henv hst a
  rintro mz a w51 ⟨i, B, d, os, rfl, henv, hst, hi, ho⟩
  have hsx := zk_co.1 hk0 i
  have hsy := zk_co.1 hk1 i
  have hdx := dl_zl (co xs i)
  have hdy := dl_zl (co ys i)
  refine wp_seq ?_
  refine wp_seq ?_
  refine region_seq ?_
  revert a
  refine mA rfl rfl ?_
  refine mA rfl rfl ?_
  refine sA (v := .int .i64 (n0 : Nat)) rfl (fun _ henv => rn_len henv Tryd.underlying42 rfl) ?_
  refine sA (v := .bool (decide (((i : Nat) : Int) < ((n0 : Nat) : Int)))) rfl (fun _ henv => rn_bin henv rfl rfl rfl) ?_
  refine mA rfl rfl ?_
  intro a henv
  rcases bool_em (decide (((i : Nat) : Int) < ((n0 : Nat) : Int))) with hg52 | hg52
  · rw [hg52] at henv
    have hx53 := of_decide_eq_true hg52
    revert a
    refine kA rfl rfl rfl rfl rfl ?_
    refine kA rfl rfl rfl rfl rfl ?_
    refine kA rfl rfl rfl rfl rfl ?_
    refine kA rfl rfl rfl rfl rfl ?_
    refine sA (v := .bool true) rfl (fun _ henv => rn_pick henv rfl rfl) ?_
    intro a henv
    refine wpList_nil ?_
    refine th_n ?_
    refine if_t henv rfl (rfl) ?_
    refine wp_skip ?_
    refine th_n ?_
    refine wp_seq ?_
    refine wp_block ?_
    refine region_seq ?_
    revert a
    refine mA rfl rfl ?_
    refine mA rfl rfl ?_
    refine mA rfl rfl ?_
    intro a henv
    refine seq_step rfl (op_call henv rfl Tryd.call64 rfl (r20_at (i := i) (hst.pat (k := 0) rfl) hz0 (by omega)) ?_)
    rintro e w57 ⟨_, rfl, ⟨A54, c55, rfl, hz56⟩, hb⟩
    refine ⟨_, rfl, ?_⟩
    clear henv a; intro a henv
    replace hst := (hst.call hb).addR hz56 ⟨nou_rowS, trivial⟩
    clear hz56
    clear hb
    revert a
    refine mA rfl rfl ?_
    refine mA rfl rfl ?_
    intro a henv
    refine seq_step rfl (op_call henv rfl Tryd.call64 rfl (r20_at (i := i) (hst.pat (k := 2) rfl) hz1 (by omega)) ?_)
    rintro e w61 ⟨_, rfl, ⟨A58, c59, rfl, hz60⟩, hb⟩
    refine ⟨_, rfl, ?_⟩
    clear henv a; intro a henv
    replace hst := (hst.call hb).addR hz60 ⟨nou_rowS, trivial⟩
    clear hz60
    clear hb
    have hs62 := dl_add (co xs i) (co ys i)
    refine seq_step rfl (op_call henv rfl Tryd.call54 rfl (add_r (x := (co xs i)) (y := (co ys i)) (show RIn _ A54 c55 (co xs i) from hst.pat (k := 1) rfl) (show RIn _ A58 c59 (co ys i) from hst.pat (k := 0) rfl) (by omega) (by omega)) ?_)
    rintro e w66 ⟨_, rfl, ⟨A63, c64, rfl, hz65⟩, hb⟩
    refine ⟨_, rfl, ?_⟩
    clear henv a; intro a henv
    replace hst := (hst.call hb).addR hz65 ⟨nou_rowS, trivial⟩
    clear hz65
    clear hb
    refine seq_step rfl (op_buildSlice (z := 2) (pv := #[(0, .agg #[.bool (neg ((co xs i) + (co ys i))), .slice A63 (dl ((co xs i) + (co ys i))) c64])]) (c := #[.bool (neg ((co xs i) + (co ys i))), .slice A63 (dl ((co xs i) + (co ys i))) c64]) henv hst rfl Tryd.underlying42 (ty_anvil_anvilref02_Int.size) zero_anvil_anvilref02_Int (by decide) (by decide) rfl (by kernel_rfl) ?_)
    clear henv hst a; intro a w68 g67 henv hst
    refine seq_step rfl (op_appendS (k := 1) (j := 0) henv hst rfl Tryd.underlying42 inf_anvil_anvilref02_Int rfl rfl rfl rfl rfl rfl rfl rfl rfl rfl rfl (by unfold maxLen; omega) (by omega) ?_)
    clear henv hst a; intro a w71 g69 c70 henv hst
    rw [show fl fM os ++ (#[.bool (neg ((co xs i) + (co ys i))), .slice A63 (dl ((co xs i) + (co ys i))) c64] : Array Value).toList = fl fM (os ++ [(A63, c64, ((co xs i) + (co ys i)))]) from fl_snoc (f := fM) os (A63, c64, ((co xs i) + (co ys i)))] at hst
    replace hst := hst.snocEs (e := (A63, c64, ((co xs i) + (co ys i)))) (i := 5) (j := 0) rfl rfl
    refine sv (v := .slice (some ⟨g69, 0, none⟩) (i + 1) c70) henv rfl (rn_assign henv rfl) ?_
    clear henv a; intro a henv
    refine wpList_nil ?_
    refine bl_n (th_n ?_)
    refine region_seq ?_
    revert a
    refine mA rfl rfl ?_
    refine sA (v := .int .i64 (i + 1 : Nat)) rfl (fun _ henv => rn_add henv rfl rfl (by rw [IntWalk.i64_in _ (by omega)]; omega)) ?_
    refine aA rfl rfl ?_
    intro a henv
    refine wpList_nil ?_
    exact th_n ⟨_, (by omega), ⟨i + 1, (some ⟨g69, 0, none⟩), c70, (os ++ [(A63, c64, ((co xs i) + (co ys i)))]), rfl, henv.sub ⟨rfl, rfl, rfl, rfl, trivial⟩, hst.pick [1] [4, 5, 0] (by decide), (by omega), (gF_step ho rfl)⟩⟩
  · rw [hg52] at henv
    have hx72 := of_decide_eq_false hg52
    revert a
    refine gA (v := .int .i64 (i : Nat)) rfl rfl rfl rfl (fun _ henv => rn_move henv rfl) ?_
    refine gA (v := .slice A1 n1 c1) rfl rfl rfl rfl (fun _ henv => rn_move henv rfl) ?_
    refine gA (v := .int .i64 (n1 : Nat)) rfl rfl rfl rfl (fun _ henv => rn_len henv Tryd.underlying42 rfl) ?_
    refine gA (v := .bool (decide (((i : Nat) : Int) < ((n1 : Nat) : Int)))) rfl rfl rfl rfl (fun _ henv => rn_bin henv rfl rfl rfl) ?_
    refine sA (v := .bool (decide (((i : Nat) : Int) < ((n1 : Nat) : Int)))) rfl (fun _ henv => rn_pick henv rfl rfl) ?_
    intro a henv
    refine wpList_nil ?_
    refine th_n ?_
    refine if_split henv rfl (fun hc73 => ?_) (fun hc73 => ?_)
    · have hx74 := of_decide_eq_true hc73
      refine wp_skip ?_
      refine th_n ?_
      refine wp_seq ?_
      refine wp_block ?_
      refine region_seq ?_
      revert a
      refine mA rfl rfl ?_
      refine mA rfl rfl ?_
      refine mA rfl rfl ?_
      intro a henv
      refine seq_step rfl (op_call henv rfl Tryd.call64 rfl (r20_at (i := i) (hst.pat (k := 0) rfl) hz0 (by omega)) ?_)
      rintro e w78 ⟨_, rfl, ⟨A75, c76, rfl, hz77⟩, hb⟩
      refine ⟨_, rfl, ?_⟩
      clear henv a; intro a henv
      replace hst := (hst.call hb).addR hz77 ⟨nou_rowS, trivial⟩
      clear hz77
      clear hb
      revert a
      refine mA rfl rfl ?_
      refine mA rfl rfl ?_
      intro a henv
      refine seq_step rfl (op_call henv rfl Tryd.call64 rfl (r20_at (i := i) (hst.pat (k := 2) rfl) hz1 (by omega)) ?_)
      rintro e w82 ⟨_, rfl, ⟨A79, c80, rfl, hz81⟩, hb⟩
      refine ⟨_, rfl, ?_⟩
      clear henv a; intro a henv
      replace hst := (hst.call hb).addR hz81 ⟨nou_rowS, trivial⟩
      clear hz81
      clear hb
      have hs83 := dl_add (co xs i) (co ys i)
      refine seq_step rfl (op_call henv rfl Tryd.call54 rfl (add_r (x := (co xs i)) (y := (co ys i)) (show RIn _ A75 c76 (co xs i) from hst.pat (k := 1) rfl) (show RIn _ A79 c80 (co ys i) from hst.pat (k := 0) rfl) (by omega) (by omega)) ?_)
      rintro e w87 ⟨_, rfl, ⟨A84, c85, rfl, hz86⟩, hb⟩
      refine ⟨_, rfl, ?_⟩
      clear henv a; intro a henv
      replace hst := (hst.call hb).addR hz86 ⟨nou_rowS, trivial⟩
      clear hz86
      clear hb
      refine seq_step rfl (op_buildSlice (z := 2) (pv := #[(0, .agg #[.bool (neg ((co xs i) + (co ys i))), .slice A84 (dl ((co xs i) + (co ys i))) c85])]) (c := #[.bool (neg ((co xs i) + (co ys i))), .slice A84 (dl ((co xs i) + (co ys i))) c85]) henv hst rfl Tryd.underlying42 (ty_anvil_anvilref02_Int.size) zero_anvil_anvilref02_Int (by decide) (by decide) rfl (by kernel_rfl) ?_)
      clear henv hst a; intro a w89 g88 henv hst
      refine seq_step rfl (op_appendS (k := 1) (j := 0) henv hst rfl Tryd.underlying42 inf_anvil_anvilref02_Int rfl rfl rfl rfl rfl rfl rfl rfl rfl rfl rfl (by unfold maxLen; omega) (by omega) ?_)
      clear henv hst a; intro a w92 g90 c91 henv hst
      rw [show fl fM os ++ (#[.bool (neg ((co xs i) + (co ys i))), .slice A84 (dl ((co xs i) + (co ys i))) c85] : Array Value).toList = fl fM (os ++ [(A84, c85, ((co xs i) + (co ys i)))]) from fl_snoc (f := fM) os (A84, c85, ((co xs i) + (co ys i)))] at hst
      replace hst := hst.snocEs (e := (A84, c85, ((co xs i) + (co ys i)))) (i := 5) (j := 0) rfl rfl
      refine sv (v := .slice (some ⟨g90, 0, none⟩) (i + 1) c91) henv rfl (rn_assign henv rfl) ?_
      clear henv a; intro a henv
      refine wpList_nil ?_
      refine bl_n (th_n ?_)
      refine region_seq ?_
      revert a
      refine mA rfl rfl ?_
      refine sA (v := .int .i64 (i + 1 : Nat)) rfl (fun _ henv => rn_add henv rfl rfl (by rw [IntWalk.i64_in _ (by omega)]; omega)) ?_
      refine aA rfl rfl ?_
      intro a henv
      refine wpList_nil ?_
      exact th_n ⟨_, (by omega), ⟨i + 1, (some ⟨g90, 0, none⟩), c91, (os ++ [(A84, c85, ((co xs i) + (co ys i)))]), rfl, henv.sub ⟨rfl, rfl, rfl, rfl, trivial⟩, hst.pick [1] [4, 5, 0] (by decide), (by omega), (gF_step ho rfl)⟩⟩
    · have hx93 := of_decide_eq_false hc73
      refine wp_exit ?_
      refine th_x (th_x (bl_x (th_n ?_)))
      refine wp_seq ?_
      refine region_seq ?_
      revert a
      refine mA rfl rfl ?_
      refine aA rfl rfl ?_
      intro a henv
      refine wpList_nil ?_
      refine th_n ?_
      refine wp_ret ?_
      refine leave henv (res1 Tryd.results31 (RV.tmp henv rfl)) ?_
      have hin : i = max n0 n1 := by omega
      have heq : (List.range (max n0 n1)).map (gF (· + ·) xs ys) = addF xs ys := by rw [addF, hlx, hly]; rfl
      have hle : i = (addF xs ys).length := by rw [← heq, List.length_map, List.length_range]; exact hin
      exact ⟨_, rfl, ⟨_, _, os, congrArg (fun k => Value.slice _ k _) hle, (hle ▸ hst.newRow (k := 0) (j := 2) rfl rfl), (by have := congrArg List.length ho; simp at this; omega), (by rw [ho, hin, heq])⟩, hst.below⟩
set_option maxRecDepth 100000 in
set_option maxHeartbeats 4000000 in
theorem r20_sub {A0 A1 : Option Addr} {n0 n1 c0 c1 : Nat} {es0 es1 : List NE} {xs ys : List Int} {w0 : World} (h0 : (pfRow fM FM 2 A0 n0 c0 es0).P w0) (hz0 : es0.map zz = xs) (h1 : (pfRow fM FM 2 A1 n1 c1 es1).P w0) (hz1 : es1.map zz = ys) (hk0 : Zk 1000 xs) (hk1 : Zk 1000 ys) (hn0 : n0 ≤ 100000) (hn1 : n1 ≤ 100000) :
    Calls Tryd.prog 32 #[.slice A0 n0 c0, .slice A1 n1 c1] w0 fun e w' => ∃ v, e = .returned v ∧ MRow w0.heap.size w' v (subF xs ys).length (subF xs ys) ∧ Below w0.heap.size w0 w' := by
  refine enter Tryd.func32 rfl Tryd.ntmps32 rfl ?_
  intro a henv hst
  have hlen0 := h0.2.1
  have hbig0 := Nat.le_trans h0.1.cap h0.1.big
  unfold maxLen at hbig0
  have hlen1 := h1.2.1
  have hbig1 := Nat.le_trans h1.1.cap h1.1.big
  unfold maxLen at hbig1
  have hlx : xs.length = n0 := by rw [← hz0, List.length_map]; exact hlen0
  have hly : ys.length = n1 := by rw [← hz1, List.length_map]; exact hlen1
  replace hst := (hst.argRow h1).argRow h0
  clear h0 h1
  refine wp_seq ?_
  refine region_seq ?_
  refine sv (v := .slice none 0 0) henv rfl (rn_assign henv rfl) ?_
  clear henv a; intro a henv
  refine wpList_nil ?_
  refine th_n ?_
  refine wp_seq ?_
  refine region_seq ?_
  refine sv (v := .slice none 0 0) henv rfl (rn_assign henv rfl) ?_
  clear henv a; intro a henv
  refine wpList_nil ?_
  refine th_n ?_
  refine wp_seq ?_
  refine wp_seq ?_
  refine region_seq ?_
  refine sv (v := .int .i64 0) henv rfl (rn_assign henv rfl) ?_
  clear henv a; intro a henv
  refine wpList_nil ?_
  refine th_n ?_
  refine wp_block ?_
  replace hst := (hst.addRowS notU 39 2).nilEs FM
  replace hst : St w0 _ [rowS notU 39 2 none 0 0 (fl fM ([]))] [pfEs FM ([]), pfRow fM FM 2 A0 n0 c0 es0, pfRow fM FM 2 A1 n1 c1 es1] := hst
  refine wp_loop_ghost (fun mz a w => ∃ i : Nat, ∃ B : Option Addr, ∃ d : Nat, ∃ os : List NE, max n0 n1 - i = mz ∧ Env 30 a [(0, .slice A0 n0 c0), (1, .slice A1 n1 c1), (5, .slice B i d), (6, .int .i64 (i : Nat))] ∧ St w0 w [rowS notU 39 2 B i d (fl fM os)] [pfRow fM FM 2 A0 n0 c0 es0, pfRow fM FM 2 A1 n1 c1 es1, pfEs FM os] ∧ i ≤ max n0 n1 ∧ os.map zz = (List.range i).map (gF (· - ·) xs ys)) _ ⟨0, none, 0, [], rfl, henv.sub ⟨rfl, rfl, rfl, rfl, trivial⟩, hst.pick [0] [1, 2, 0] (by decide), (Nat.zero_le _), rfl⟩ ?_
  clear henv hst a
  rintro mz a w51 ⟨i, B, d, os, rfl, henv, hst, hi, ho⟩
  have hsx := zk_co.1 hk0 i
  have hsy := zk_co.1 hk1 i
  have hdx := dl_zl (co xs i)
  have hdy := dl_zl (co ys i)
  refine wp_seq ?_
  refine wp_seq ?_
  refine region_seq ?_
  revert a
  refine mA rfl rfl ?_
  refine mA rfl rfl ?_
  refine sA (v := .int .i64 (n0 : Nat)) rfl (fun _ henv => rn_len henv Tryd.underlying42 rfl) ?_
  refine sA (v := .bool (decide (((i : Nat) : Int) < ((n0 : Nat) : Int)))) rfl (fun _ henv => rn_bin henv rfl rfl rfl) ?_
  refine mA rfl rfl ?_
  intro a henv
  rcases bool_em (decide (((i : Nat) : Int) < ((n0 : Nat) : Int))) with hg52 | hg52
  · rw [hg52] at henv
    have hx53 := of_decide_eq_true hg52
    revert a
    refine kA rfl rfl rfl rfl rfl ?_
    refine kA rfl rfl rfl rfl rfl ?_
    refine kA rfl rfl rfl rfl rfl ?_
    refine kA rfl rfl rfl rfl rfl ?_
    refine sA (v := .bool true) rfl (fun _ henv => rn_pick henv rfl rfl) ?_
    intro a henv
    refine wpList_nil ?_
    refine th_n ?_
    refine if_t henv rfl (rfl) ?_
    refine wp_skip ?_
    refine th_n ?_
    refine wp_seq ?_
    refine wp_block ?_
    refine region_seq ?_
    revert a
    refine mA rfl rfl ?_
    refine mA rfl rfl ?_
    refine mA rfl rfl ?_
    intro a henv
    refine seq_step rfl (op_call henv rfl Tryd.call64 rfl (r20_at (i := i) (hst.pat (k := 0) rfl) hz0 (by omega)) ?_)
    rintro e w57 ⟨_, rfl, ⟨A54, c55, rfl, hz56⟩, hb⟩
    refine ⟨_, rfl, ?_⟩
    clear henv a; intro a henv
    replace hst := (hst.call hb).addR hz56 ⟨nou_rowS, trivial⟩
    clear hz56
    clear hb
    revert a
    refine mA rfl rfl ?_
    refine mA rfl rfl ?_
    intro a henv
    refine seq_step rfl (op_call henv rfl Tryd.call64 rfl (r20_at (i := i) (hst.pat (k := 2) rfl) hz1 (by omega)) ?_)
    rintro e w61 ⟨_, rfl, ⟨A58, c59, rfl, hz60⟩, hb⟩
    refine ⟨_, rfl, ?_⟩
    clear henv a; intro a henv
    replace hst := (hst.call hb).addR hz60 ⟨nou_rowS, trivial⟩
    clear hz60
    clear hb
    refine seq_step rfl (op_call henv rfl Tryd.call65 rfl (sub_r (x := (co xs i)) (y := (co ys i)) (show RIn _ A54 c55 (co xs i) from hst.pat (k := 1) rfl) (show RIn _ A58 c59 (co ys i) from hst.pat (k := 0) rfl) (by omega) (by omega)) ?_)
    rintro e w65 ⟨_, rfl, ⟨A62, c63, rfl, hz64⟩, hb⟩
    refine ⟨_, rfl, ?_⟩
    clear henv a; intro a henv
    replace hst := (hst.call hb).addR hz64 ⟨nou_rowS, trivial⟩
    clear hz64
    clear hb
    refine seq_step rfl (op_buildSlice (z := 2) (pv := #[(0, .agg #[.bool (neg ((co xs i) - (co ys i))), .slice A62 (dl ((co xs i) - (co ys i))) c63])]) (c := #[.bool (neg ((co xs i) - (co ys i))), .slice A62 (dl ((co xs i) - (co ys i))) c63]) henv hst rfl Tryd.underlying42 (ty_anvil_anvilref02_Int.size) zero_anvil_anvilref02_Int (by decide) (by decide) rfl (by kernel_rfl) ?_)
    clear henv hst a; intro a w67 g66 henv hst
    refine seq_step rfl (op_appendS (k := 1) (j := 0) henv hst rfl Tryd.underlying42 inf_anvil_anvilref02_Int rfl rfl rfl rfl rfl rfl rfl rfl rfl rfl rfl (by unfold maxLen; omega) (by omega) ?_)
    clear henv hst a; intro a w70 g68 c69 henv hst
    rw [show fl fM os ++ (#[.bool (neg ((co xs i) - (co ys i))), .slice A62 (dl ((co xs i) - (co ys i))) c63] : Array Value).toList = fl fM (os ++ [(A62, c63, ((co xs i) - (co ys i)))]) from fl_snoc (f := fM) os (A62, c63, ((co xs i) - (co ys i)))] at hst
    replace hst := hst.snocEs (e := (A62, c63, ((co xs i) - (co ys i)))) (i := 5) (j := 0) rfl rfl
    refine sv (v := .slice (some ⟨g68, 0, none⟩) (i + 1) c69) henv rfl (rn_assign henv rfl) ?_
    clear henv a; intro a henv
    refine wpList_nil ?_
    refine bl_n (th_n ?_)
    refine region_seq ?_
    revert a
    refine mA rfl rfl ?_
    refine sA (v := .int .i64 (i + 1 : Nat)) rfl (fun _ henv => rn_add henv rfl rfl (by rw [IntWalk.i64_in _ (by omega)]; omega)) ?_
    refine aA rfl rfl ?_
    intro a henv
    refine wpList_nil ?_
    exact th_n ⟨_, (by omega), ⟨i + 1, (some ⟨g68, 0, none⟩), c69, (os ++ [(A62, c63, ((co xs i) - (co ys i)))]), rfl, henv.sub ⟨rfl, rfl, rfl, rfl, trivial⟩, hst.pick [1] [4, 5, 0] (by decide), (by omega), (gF_step ho rfl)⟩⟩
  · rw [hg52] at henv
    have hx71 := of_decide_eq_false hg52
    revert a
    refine gA (v := .int .i64 (i : Nat)) rfl rfl rfl rfl (fun _ henv => rn_move henv rfl) ?_
    refine gA (v := .slice A1 n1 c1) rfl rfl rfl rfl (fun _ henv => rn_move henv rfl) ?_
    refine gA (v := .int .i64 (n1 : Nat)) rfl rfl rfl rfl (fun _ henv => rn_len henv Tryd.underlying42 rfl) ?_
    refine gA (v := .bool (decide (((i : Nat) : Int) < ((n1 : Nat) : Int)))) rfl rfl rfl rfl (fun _ henv => rn_bin henv rfl rfl rfl) ?_
    refine sA (v := .bool (decide (((i : Nat) : Int) < ((n1 : Nat) : Int)))) rfl (fun _ henv => rn_pick henv rfl rfl) ?_
    intro a henv
    refine wpList_nil ?_
    refine th_n ?_
    refine if_split henv rfl (fun hc72 => ?_) (fun hc72 => ?_)
    · have hx73 := of_decide_eq_true hc72
      refine wp_skip ?_
      refine th_n ?_
      refine wp_seq ?_
      refine wp_block ?_
      refine region_seq ?_
      revert a
      refine mA rfl rfl ?_
      refine mA rfl rfl ?_
      refine mA rfl rfl ?_
      intro a henv
      refine seq_step rfl (op_call henv rfl Tryd.call64 rfl (r20_at (i := i) (hst.pat (k := 0) rfl) hz0 (by omega)) ?_)
      rintro e w77 ⟨_, rfl, ⟨A74, c75, rfl, hz76⟩, hb⟩
      refine ⟨_, rfl, ?_⟩
      clear henv a; intro a henv
      replace hst := (hst.call hb).addR hz76 ⟨nou_rowS, trivial⟩
      clear hz76
      clear hb
      revert a
      refine mA rfl rfl ?_
      refine mA rfl rfl ?_
      intro a henv
      refine seq_step rfl (op_call henv rfl Tryd.call64 rfl (r20_at (i := i) (hst.pat (k := 2) rfl) hz1 (by omega)) ?_)
      rintro e w81 ⟨_, rfl, ⟨A78, c79, rfl, hz80⟩, hb⟩
      refine ⟨_, rfl, ?_⟩
      clear henv a; intro a henv
      replace hst := (hst.call hb).addR hz80 ⟨nou_rowS, trivial⟩
      clear hz80
      clear hb
      refine seq_step rfl (op_call henv rfl Tryd.call65 rfl (sub_r (x := (co xs i)) (y := (co ys i)) (show RIn _ A74 c75 (co xs i) from hst.pat (k := 1) rfl) (show RIn _ A78 c79 (co ys i) from hst.pat (k := 0) rfl) (by omega) (by omega)) ?_)
      rintro e w85 ⟨_, rfl, ⟨A82, c83, rfl, hz84⟩, hb⟩
      refine ⟨_, rfl, ?_⟩
      clear henv a; intro a henv
      replace hst := (hst.call hb).addR hz84 ⟨nou_rowS, trivial⟩
      clear hz84
      clear hb
      refine seq_step rfl (op_buildSlice (z := 2) (pv := #[(0, .agg #[.bool (neg ((co xs i) - (co ys i))), .slice A82 (dl ((co xs i) - (co ys i))) c83])]) (c := #[.bool (neg ((co xs i) - (co ys i))), .slice A82 (dl ((co xs i) - (co ys i))) c83]) henv hst rfl Tryd.underlying42 (ty_anvil_anvilref02_Int.size) zero_anvil_anvilref02_Int (by decide) (by decide) rfl (by kernel_rfl) ?_)
      clear henv hst a; intro a w87 g86 henv hst
      refine seq_step rfl (op_appendS (k := 1) (j := 0) henv hst rfl Tryd.underlying42 inf_anvil_anvilref02_Int rfl rfl rfl rfl rfl rfl rfl rfl rfl rfl rfl (by unfold maxLen; omega) (by omega) ?_)
      clear henv hst a; intro a w90 g88 c89 henv hst
      rw [show fl fM os ++ (#[.bool (neg ((co xs i) - (co ys i))), .slice A82 (dl ((co xs i) - (co ys i))) c83] : Array Value).toList = fl fM (os ++ [(A82, c83, ((co xs i) - (co ys i)))]) from fl_snoc (f := fM) os (A82, c83, ((co xs i) - (co ys i)))] at hst
      replace hst := hst.snocEs (e := (A82, c83, ((co xs i) - (co ys i)))) (i := 5) (j := 0) rfl rfl
      refine sv (v := .slice (some ⟨g88, 0, none⟩) (i + 1) c89) henv rfl (rn_assign henv rfl) ?_
      clear henv a; intro a henv
      refine wpList_nil ?_
      refine bl_n (th_n ?_)
      refine region_seq ?_
      revert a
      refine mA rfl rfl ?_
      refine sA (v := .int .i64 (i + 1 : Nat)) rfl (fun _ henv => rn_add henv rfl rfl (by rw [IntWalk.i64_in _ (by omega)]; omega)) ?_
      refine aA rfl rfl ?_
      intro a henv
      refine wpList_nil ?_
      exact th_n ⟨_, (by omega), ⟨i + 1, (some ⟨g88, 0, none⟩), c89, (os ++ [(A82, c83, ((co xs i) - (co ys i)))]), rfl, henv.sub ⟨rfl, rfl, rfl, rfl, trivial⟩, hst.pick [1] [4, 5, 0] (by decide), (by omega), (gF_step ho rfl)⟩⟩
    · have hx91 := of_decide_eq_false hc72
      refine wp_exit ?_
      refine th_x (th_x (bl_x (th_n ?_)))
      refine wp_seq ?_
      refine region_seq ?_
      revert a
      refine mA rfl rfl ?_
      refine aA rfl rfl ?_
      intro a henv
      refine wpList_nil ?_
      refine th_n ?_
      refine wp_ret ?_
      refine leave henv (res1 Tryd.results32 (RV.tmp henv rfl)) ?_
      have hin : i = max n0 n1 := by omega
      have heq : (List.range (max n0 n1)).map (gF (· - ·) xs ys) = subF xs ys := by rw [subF, hlx, hly]; rfl
      have hle : i = (subF xs ys).length := by rw [← heq, List.length_map, List.length_range]; exact hin
      exact ⟨_, rfl, ⟨_, _, os, congrArg (fun k => Value.slice _ k _) hle, (hle ▸ hst.newRow (k := 0) (j := 2) rfl rfl), (by have := congrArg List.length ho; simp at this; omega), (by rw [ho, hin, heq])⟩, hst.below⟩
set_option maxRecDepth 100000 in
set_option maxHeartbeats 4000000 in
theorem r20_scale {A0 : Option Addr} {n0 c0 : Nat} {es0 : List NE} {xs : List Int} {M : Option Addr} {d : Nat} {m : Int} {w0 : World} (h0 : (pfRow fM FM 2 A0 n0 c0 es0).P w0) (hz0 : es0.map zz = xs) (hM : RIn w0 M d m) (hm : zl m ≤ 1000) (hk0 : Zk 1000 xs) (hn0 : n0 ≤ 100000) :
    Calls Tryd.prog 35 #[.slice A0 n0 c0, .agg #[.bool (neg m), .slice M (dl m) d]] w0 fun e w' => ∃ v, e = .returned v ∧ MRow w0.heap.size w' v n0 (xs.map (· * m)) ∧ Below w0.heap.size w0 w' := by
  refine enter Tryd.func35 rfl Tryd.ntmps35 rfl ?_
  intro a henv hst
  replace hst := hst.addR hM trivial
  have hlen0 := h0.2.1
  have hbig0 := Nat.le_trans h0.1.cap h0.1.big
  unfold maxLen at hbig0
  replace hst := hst.argRow h0
  clear h0
  have hlx : xs.length = n0 := by rw [← hz0, List.length_map]; exact hlen0
  replace hst : St w0 _ [] [pfRow fM FM 2 A0 n0 c0 es0, pfR M d m] := hst
  refine wp_seq ?_
  refine region_seq ?_
  refine seq_step rfl (op_box (c := #[.bool (neg m), .slice M (dl m) d]) henv hst rfl rfl rfl ?_)
  clear henv hst a; intro a w52 g51 henv hst
  refine sv (v := .slice none 0 0) henv rfl (rn_assign henv rfl) ?_
  clear henv a; intro a henv
  refine wpList_nil ?_
  refine th_n ?_
  refine wp_seq ?_
  refine region_seq ?_
  refine sv (v := .slice none 0 0) henv rfl (rn_assign henv rfl) ?_
  clear henv a; intro a henv
  refine wpList_nil ?_
  refine th_n ?_
  refine wp_seq ?_
  refine wp_seq ?_
  refine region_seq ?_
  refine sv (v := .int .i64 0) henv rfl (rn_assign henv rfl) ?_
  clear henv a; intro a henv
  refine wpList_nil ?_
  refine th_n ?_
  refine wp_block ?_
  replace hst := (hst.addRowS notU 39 2).nilEs FM
  replace hst : St w0 _ [rowS notU 39 2 none 0 0 (fl fM ([])), bk g51 #[.bool (neg m), .slice M (dl m) d] 39] [pfEs FM ([]), pfRow fM FM 2 A0 n0 c0 es0, pfR M d m] := hst
  refine wp_loop_ghost (fun mz a w => ∃ i : Nat, ∃ B : Option Addr, ∃ e : Nat, ∃ os : List NE, n0 - i = mz ∧ Env 23 a [(0, .slice A0 n0 c0), (3, .pointer (some ⟨g51, 0, none⟩)), (5, .slice B i e), (6, .int .i64 (i : Nat))] ∧ St w0 w [rowS notU 39 2 B i e (fl fM os), bk g51 #[.bool (neg m), .slice M (dl m) d] 39] [pfRow fM FM 2 A0 n0 c0 es0, pfR M d m, pfEs FM os] ∧ i ≤ n0 ∧ os.map zz = (xs.take i).map (· * m)) _ ⟨0, none, 0, [], rfl, henv.sub ⟨rfl, rfl, rfl, rfl, trivial⟩, hst.pick [0, 1] [1, 2, 0] (by decide), (Nat.zero_le _), rfl⟩ ?_
  clear henv hst a
  rintro mz a w53 ⟨i, B, e, os, rfl, henv, hst, hi, ho⟩
  refine wp_seq ?_
  refine wp_seq ?_
  refine region_seq ?_
  revert a
  refine mA rfl rfl ?_
  refine mA rfl rfl ?_
  refine sA (v := .int .i64 (n0 : Nat)) rfl (fun _ henv => rn_len henv Tryd.underlying42 rfl) ?_
  refine sA (v := .bool (decide (((i : Nat) : Int) < ((n0 : Nat) : Int)))) rfl (fun _ henv => rn_bin henv rfl rfl rfl) ?_
  intro a henv
  refine wpList_nil ?_
  refine th_n ?_
  refine if_split henv rfl (fun hc54 => ?_) (fun hc54 => ?_)
  · have hlt : i < n0 := by have := of_decide_eq_true hc54; omega
    obtain ⟨⟨A, c, x⟩, he0⟩ : ∃ e, es0[i]? = some e := ⟨_, List.getElem?_eq_getElem (by omega)⟩
    replace hst := hst.elem (k := 0) rfl he0
    replace hst : St w0 _ [rowS notU 39 2 B i e (fl fM os), bk g51 #[.bool (neg m), .slice M (dl m) d] 39] [pfR A c x, pfRow fM FM 2 A0 n0 c0 es0, pfR M d m, pfEs FM os] := hst
    replace hst : St w0 _ [rowS notU 39 2 B i e (fl fM os), bk g51 #[.bool (neg m), .slice M (dl m) d] 39] [pfR A c x, pfRow fM FM 2 A0 n0 c0 es0, pfR M d m, pfEs FM os] := hst
    have hg0 : xs[i]? = some x := by rw [← hz0, List.getElem?_map, he0]; rfl
    have hc0 : co xs i = x := by rw [co, List.getD_eq_getElem?_getD, hg0]; rfl
    have hsx : zl x ≤ 1000 := hk0 x (List.mem_of_getElem? hg0)
    have hdx := dl_zl x
    have hdm := dl_zl m
    refine wp_skip ?_
    refine th_n ?_
    refine wp_seq ?_
    refine wp_block ?_
    refine region_any (n := 10) (Sk [bk g51 #[.bool (neg m), .slice M (dl m) d] 39] [pfR A c x, pfRow fM FM 2 A0 n0 c0 es0, pfR M d m, pfEs FM os] [] []) mixed rfl henv hst ?_
    clear henv hst; intro w55 henv hst
    refine tM (i := 0) [8, 9] rfl (by kernel_rfl) (fun _ _ _ h => h) henv rfl rfl ?_
    clear henv a; intro a henv
    refine tM (i := 1) [3, 4, 6, 7, 8, 9] rfl (by kernel_rfl) (fun _ _ _ h => h) henv rfl rfl ?_
    clear henv a; intro a henv
    refine tM (i := 2) [3, 4, 6, 7, 8, 9] rfl (by kernel_rfl) (fun _ _ _ h => h) henv rfl rfl ?_
    clear henv a; intro a henv
    refine sAny_take (i := 3) [4, 6, 7, 8, 9] (fun w' => (pfRow fM FM 2 A0 n0 c0 es0).P w') (v := .pointer (some ⟨ab A0, ao A0 + i * 2, none⟩)) rfl (by kernel_rfl) (fun _ _ _ h => h) (fun _ _ _ hS => hS.1.pat (k := 1) rfl) henv rfl (hst.pat (k := 1) rfl) (fun w' hg => rn_idxR (i := i) henv Tryd.underlying42 (ty_anvil_anvilref02_Int.size) rfl rfl (by omega) rfl (show (pfRow fM FM 2 A0 n0 c0 es0).P _ from hg).1) ?_
    clear henv a; intro a henv
    refine sAny_take (i := 4) [6, 7, 8, 9] (fun w' => (pfRow fM FM 2 A0 n0 c0 es0).P w') (v := .agg #[.bool (neg x), .slice A (dl x) c]) rfl (by kernel_rfl) (fun _ _ _ h => h) (fun _ _ _ hS => hS.1.pat (k := 1) rfl) henv rfl (hst.pat (k := 1) rfl) (fun w' hg => rn_loadE (i := i) (e := (A, c, x)) henv ty_anvil_anvilref02_Int rfl rfl fM_len (show (pfRow fM FM 2 A0 n0 c0 es0).P _ from hg).1 (by omega) he0 rfl) ?_
    clear henv a; intro a henv
    refine tL (i := 5) 0 1 (rg 6 4) rfl (by kernel_rfl) (fun _ _ _ h => h) henv rfl ty_anvil_anvilref02_Int rfl hst rfl rfl rfl ?_
    clear henv a; intro a henv
    have hs56 := dl_mul x m
    refine sAny_one (i := 6) (by kernel_rfl) rfl rfl (op_call henv rfl Tryd.call52 rfl (mul_r (x := x) (y := m) (show RIn _ A c x from hst.pat (k := 0) rfl) (show RIn _ M d m from hst.pat (k := 2) rfl) (by omega) (by omega)) ?_)
    rintro e w60 ⟨_, rfl, ⟨A57, c58, rfl, hz59⟩, hb⟩
    refine ⟨_, rfl, ?_⟩
    clear henv a; intro a henv
    replace hst := (hst.call hb).addR hz59 ⟨nou_rowS, nou_bk rfl, trivial⟩
    clear hz59
    clear hb
    refine ⟨.inr ⟨hst.kn.pick [1] (rg 1 4), .inr (hst.kn.pick [] [])⟩, ?_⟩
    refine sAny_one (i := 7) (by kernel_rfl) rfl rfl (op_buildSlice (z := 2) (pv := #[(0, .agg #[.bool (neg (x * m)), .slice A57 (dl (x * m)) c58])]) (c := #[.bool (neg (x * m)), .slice A57 (dl (x * m)) c58]) henv hst rfl Tryd.underlying42 (ty_anvil_anvilref02_Int.size) zero_anvil_anvilref02_Int (by decide) (by decide) rfl (by kernel_rfl) ?_)
    clear henv hst a; intro a w62 g61 henv hst
    refine ⟨.inr ⟨hst.kn.pick [2] (rg 1 4), .inr (hst.kn.pick [] [])⟩, ?_⟩
    refine sAny_one (i := 8) (by kernel_rfl) rfl rfl (op_appendS (k := 1) (j := 0) henv hst rfl Tryd.underlying42 inf_anvil_anvilref02_Int rfl rfl rfl rfl rfl rfl rfl rfl rfl rfl rfl (by unfold maxLen; omega) (by omega) ?_)
    clear henv hst a; intro a w65 g63 c64 henv hst
    rw [show fl fM os ++ (#[.bool (neg (x * m)), .slice A57 (dl (x * m)) c58] : Array Value).toList = fl fM (os ++ [(A57, c58, (x * m))]) from fl_snoc (f := fM) os (A57, c58, (x * m))] at hst
    replace hst := hst.snocEs (e := (A57, c58, (x * m))) (i := 4) (j := 0) rfl rfl
    refine ⟨.inr ⟨hst.kn.pick [2] (rg 2 4), .inr (hst.kn.pick [] [])⟩, ?_⟩
    refine tA (i := 9) [] (v := .slice (some ⟨g63, 0, none⟩) (i + 1) c64) rfl (by kernel_rfl) (fun _ _ _ h => h) henv rfl (fun _ => rn_assign henv rfl) ?_
    clear henv a; intro a henv
    refine sAny_done (by kernel_rfl) ?_ _
    refine bl_n (th_n ?_)
    refine region_seq ?_
    revert a
    refine mA rfl rfl ?_
    refine sA (v := .int .i64 (i + 1 : Nat)) rfl (fun _ henv => rn_add henv rfl rfl (by rw [IntWalk.i64_in _ (by omega)]; omega)) ?_
    refine aA rfl rfl ?_
    intro a henv
    refine wpList_nil ?_
    exact th_n ⟨_, (by omega), ⟨i + 1, (some ⟨g63, 0, none⟩), c64, (os ++ [(A57, c58, (x * m))]), rfl, henv.sub ⟨rfl, rfl, rfl, rfl, trivial⟩, hst.pick [1, 2] [3, 4, 0] (by decide), (by omega), (by rw [List.map_append, ho, take_one hg0, List.map_append]; rfl)⟩⟩
  · obtain rfl : n0 = i := by have := of_decide_eq_false hc54; omega
    refine wp_exit ?_
    refine th_x (th_x (bl_x (th_n ?_)))
    refine wp_seq ?_
    refine region_seq ?_
    revert a
    refine mA rfl rfl ?_
    refine aA rfl rfl ?_
    intro a henv
    refine wpList_nil ?_
    refine th_n ?_
    refine wp_ret ?_
    refine leave henv (res1 Tryd.results35 (RV.tmp henv rfl)) ?_
    rw [List.take_of_length_le (by omega)] at ho
    exact ⟨_, rfl, ⟨_, _, os, rfl, hst.newRow (k := 0) (j := 2) rfl rfl, (by have := congrArg List.length ho; simp at this; omega), ho⟩, hst.below⟩
set_option maxRecDepth 100000 in
set_option maxHeartbeats 2000000 in
theorem p_scale1 {g1 : Nat} {A B M : Option Addr} {c d e : Nat} {x y m : Int} {w0 : World} (hE : (pfAnd (bk g1 #[.bool (neg m), .slice M (zl m) d] 28) (pfZ M d m)).P w0) (hx : ZIn w0 A c x) (hy : ZIn w0 B e y) (hm : zl m ≤ 1000) (hx1 : zl x ≤ 1000) :
    Calls Tryd.prog 66 #[.agg #[.bool (neg x), .slice A (zl x) c], .agg #[.bool (neg y), .slice B (zl y) e], .pointer (some ⟨g1, 0, none⟩)] w0 fun e w' => ∃ v, e = .returned v ∧ ZAt w' v (x * m) ∧ Below w0.heap.size w0 w' := by
  refine enter Tryd.func66 rfl Tryd.ntmps66 rfl ?_
  intro a henv hst
  obtain ⟨hb1, hM⟩ := hE
  replace hst := hst.argP (bk g1 #[.bool (neg m), .slice M (zl m) d] 28) hb1
  replace hst := hst.addZ hM trivial
  replace hst := hst.addZ hx trivial
  replace hst := hst.addZ hy trivial
  replace hst : St w0 _ [] [pfZ B e y, pfZ A c x, pfZ M d m, bk g1 #[.bool (neg m), .slice M (zl m) d] 28] := hst
  refine wp_seq ?_
  refine region_seq ?_
  refine seq_step rfl (op_box (c := #[.bool (neg x), .slice A (zl x) c]) henv hst rfl rfl rfl ?_)
  clear henv hst a; intro a w52 g51 henv hst
  refine seq_step rfl (op_box (c := #[.bool (neg y), .slice B (zl y) e]) henv hst rfl rfl rfl ?_)
  clear henv hst a; intro a w54 g53 henv hst
  refine seq_step rfl (op_alloc (c := #[.bool (neg 0), .slice none (zl 0) 0]) henv hst rfl zero_anvil_integer_Int zcells ?_)
  clear henv hst a; intro a w56 g55 henv hst
  refine wpList_nil ?_
  refine th_n ?_
  refine wp_seq ?_
  refine region_seq ?_
  revert a
  refine sA (v := .agg #[.bool (neg x), .slice A (zl x) c]) rfl (fun _ henv => rn_load0 henv ty_anvil_integer_Int rfl (hst.oat (k := 2) rfl) rfl) ?_
  refine sA (v := .agg #[.bool (neg m), .slice M (zl m) d]) rfl (fun _ henv => rn_load0 henv ty_anvil_integer_Int rfl (bkP (hst.pat (k := 3) rfl)) rfl) ?_
  intro a henv
  have hs57 := zl_mul x m
  refine seq_step rfl (op_call henv rfl Tryd.call43 rfl (mul_z (x := x) (y := m) (show ZIn _ A c x from hst.pat (k := 1) rfl) (show ZIn _ M d m from hst.pat (k := 2) rfl) (by omega) (by omega)) ?_)
  rintro e w61 ⟨_, rfl, ⟨A58, c59, rfl, hz60⟩, hb⟩
  refine ⟨_, rfl, ?_⟩
  clear henv a; intro a henv
  replace hst := (hst.call hb).addZ hz60 ⟨nou_bk rfl, nou_bk rfl, nou_bk rfl, trivial⟩
  clear hz60
  clear hb
  refine seq_step rfl (op_store (k := 0) (c' := #[.bool (neg (x * m)), .slice A58 (zl (x * m)) c59]) henv hst (ty_anvil_integer_Int.size) rfl rfl rfl rfl (by simp) rfl rfl ?_)
  clear henv hst a; intro a w62 henv hst
  refine wpList_nil ?_
  refine th_n ?_
  refine wp_ret ?_
  refine leave henv (res1 Tryd.results66 (RV.cell henv ty_anvil_integer_Int rfl (hst.oat (k := 0) rfl) rfl)) ?_
  exact ⟨_, rfl, ⟨_, _, rfl, hst.pat (k := 0) rfl⟩, hst.below⟩
set_option maxRecDepth 100000 in
set_option maxHeartbeats 2000000 in
theorem p_scale {A0 : Option Addr} {n0 c0 : Nat} {es0 : List NE} {xs : List Int} {M : Option Addr} {d : Nat} {m : Int} {w0 : World} (h0 : (pfRow fN FN 2 A0 n0 c0 es0).P w0) (hz0 : es0.map zz = xs) (hM : ZIn w0 M d m) (hm : zl m ≤ 1000) (hk0 : Zk 1000 xs) (hn0 : n0 ≤ 100000) :
    Calls Tryd.prog 33 #[.slice A0 n0 c0, .agg #[.bool (neg m), .slice M (zl m) d]] w0 fun e w' => ∃ v, e = .returned v ∧ ZRowN w0.heap.size w' v n0 (xs.map (· * m)) ∧ Below w0.heap.size w0 w' := by
  refine enter Tryd.func33 rfl Tryd.ntmps33 rfl ?_
  intro a henv hst
  replace hst := hst.addZ hM trivial
  have hlen0 := h0.2.1
  have hbig0 := Nat.le_trans h0.1.cap h0.1.big
  unfold maxLen at hbig0
  replace hst := hst.argRow h0
  clear h0
  have hlx : xs.length = n0 := by rw [← hz0, List.length_map]; exact hlen0
  replace hst : St w0 _ [] [pfRow fN FN 2 A0 n0 c0 es0, pfZ M d m] := hst
  refine wp_seq ?_
  refine region_seq ?_
  refine seq_step rfl (op_box (c := #[.bool (neg m), .slice M (zl m) d]) henv hst rfl rfl rfl ?_)
  clear henv hst a; intro a w52 g51 henv hst
  refine sv (v := .slice none 0 0) henv rfl (rn_assign henv rfl) ?_
  clear henv a; intro a henv
  refine wpList_nil ?_
  refine th_n ?_
  refine wp_seq ?_
  replace hst := hst.giveB (k := 0) rfl
  replace hst : St w0 _ [] [bk g51 #[.bool (neg m), .slice M (zl m) d] 28, pfRow fN FN 2 A0 n0 c0 es0, pfZ M d m] := hst
  refine region_seq ?_
  revert a
  refine mA rfl rfl ?_
  refine sA (v := .func (.func 66) #[] #[.pointer (some ⟨g51, 0, none⟩)]) rfl (fun _ henv => rn_makeFuncB (us := #[]) (vs := #[.pointer (some ⟨g51, 0, none⟩)]) henv rfl rfl) ?_
  intro a henv
  refine seq_step rfl (op_call henv rfl Tryd.call57 rfl (p_placedG (E := (pfAnd (bk g51 #[.bool (neg m), .slice M (zl m) d] 28) (pfZ M d m))) (g := (fun x _ => x * m)) (first := #[]) (caps := #[.pointer (some ⟨g51, 0, none⟩)]) (hst.pat (k := 1) rfl) hz0 (row_nil fN FN 2 _) (es1 := []) (ys := []) rfl ⟨hst.pat (k := 0) rfl, hst.pat (k := 2) rfl⟩ Tryd.call66 (fun _ _ _ _ _ _ _ q1 _ q3 hx hy => calls_app (by simp) (p_scale1 q3 hx hy hm q1)) hk0 (fun _ h => by cases h) hn0 (Nat.zero_le _)) ?_)
  rintro e w60 ⟨_, rfl, ⟨A53, c54, es55, rfl, hr, hl56, hz57, hn58⟩, hb⟩
  refine ⟨_, rfl, ?_⟩
  clear henv a; intro a henv
  replace hst := hst.freshRow hb hr (ap_N hr.2.1 ⟨nou_rowS, trivial⟩)
  clear hr
  clear hb
  refine sv (v := .slice A53 (max n0 0) c54) henv rfl (rn_assign henv rfl) ?_
  clear henv a; intro a henv
  refine wpList_nil ?_
  refine th_n ?_
  refine wp_ret ?_
  refine leave henv (res1 Tryd.results33 (RV.tmp henv rfl)) ?_
  have hle : max n0 0 = n0 := by omega
  have heq : (List.range (max n0 0)).map (gF (fun x _ => x * m) xs []) = xs.map (· * m) := by rw [hle, ← hlx]; exact scale_eq xs m
  exact ⟨_, rfl, ⟨_, _, _, congrArg (fun k => Value.slice _ k _) hle, (hle ▸ hst.newRow (k := 0) (j := 0) rfl rfl), hl56.trans hle, hz57.trans heq, fun h => hn58 (hle.trans h)⟩, hst.below⟩
set_option maxRecDepth 100000 in
set_option maxHeartbeats 2000000 in
theorem r20_shift_e {A0 : Option Addr} {c0 : Nat} {es0 : List NE} {xs : List Int} {n : Nat} {w0 : World} (h0 : (pfRow fM FM 2 A0 0 c0 es0).P w0) (hz0 : es0.map zz = xs) (hn : n ≤ 4096) :
    Calls Tryd.prog 38 #[.slice A0 0 c0, .int .i64 (n : Nat)] w0 fun e w' => ∃ v, e = .returned v ∧ MRow w0.heap.size w' v n (List.replicate n 0 ++ xs) ∧ Below w0.heap.size w0 w' := by
  refine enter Tryd.func38 rfl Tryd.ntmps38 rfl ?_
  intro a henv hst
  have hlen0 := h0.2.1
  replace hst := hst.argRow h0
  clear h0
  have hlx : xs.length = 0 := by rw [← hz0, List.length_map]; exact hlen0
  refine wp_seq ?_
  refine region_seq ?_
  refine sv (v := .slice none 0 0) henv rfl (rn_assign henv rfl) ?_
  clear henv a; intro a henv
  refine wpList_nil ?_
  refine th_n ?_
  refine wp_seq ?_
  refine region_seq ?_
  refine sv (v := .int .i64 (n : Nat)) henv rfl (rn_move henv rfl) ?_
  clear henv a; intro a henv
  refine seq_step rfl (op_makeS (f := fM) (e0 := (none, 0, 0)) (q := notU) (n := n) henv hst rfl Tryd.underlying42 inf_anvil_anvilref02_Int rfl rfl fM_zp rfl rfl rfl (by omega) (by unfold maxLen; omega) ?_)
  clear henv hst a; intro a w52 g51 henv hst
  replace hst := hst.addMs (es_zerosM n _) ⟨nou_rowS, trivial⟩
  refine sv (v := .slice A0 0 c0) henv rfl (rn_move henv rfl) ?_
  clear henv a; intro a henv
  refine seq_step rfl (op_appendR0 (k := 0) henv hst rfl Tryd.underlying42 (ty_anvil_anvilref02_Int.size) rfl rfl rfl ?_)
  clear henv a; intro a henv
  refine sv (v := .slice (some ⟨g51, 0, none⟩) n n) henv rfl (rn_assign henv rfl) ?_
  clear henv a; intro a henv
  refine wpList_nil ?_
  refine th_n ?_
  refine wp_ret ?_
  refine leave henv (res1 Tryd.results38 (RV.tmp henv rfl)) ?_
  exact ⟨_, rfl, ⟨_, _, (List.replicate n (none, 0, 0)), rfl, hst.newRow (k := 0) (j := 0) rfl rfl, List.length_replicate, (by rw [List.map_replicate, show xs = [] from List.eq_nil_of_length_eq_zero hlx, List.append_nil])⟩, hst.below⟩
set_option maxRecDepth 100000 in
set_option maxHeartbeats 2000000 in
theorem r20_shift_ok {A0 : Option Addr} {n0 c0 : Nat} {es0 : List NE} {xs : List Int} {n : Nat} {w0 : World} (h0 : (pfRow fM FM 2 A0 n0 c0 es0).P w0) (hz0 : es0.map zz = xs) (hn : n ≤ 4096) (hn0 : n0 ≤ 100000) (hz : 0 < n0) :
    Calls Tryd.prog 38 #[.slice A0 n0 c0, .int .i64 (n : Nat)] w0 fun e w' => ∃ v, e = .returned v ∧ MRow w0.heap.size w' v (n + n0) (List.replicate n 0 ++ xs) ∧ Below w0.heap.size w0 w' := by
  refine enter Tryd.func38 rfl Tryd.ntmps38 rfl ?_
  intro a henv hst
  have hlen0 := h0.2.1
  have hbig0 := Nat.le_trans h0.1.cap h0.1.big
  unfold maxLen at hbig0
  replace hst := hst.argRow h0
  clear h0
  have hlx : xs.length = n0 := by rw [← hz0, List.length_map]; exact hlen0
  refine wp_seq ?_
  refine region_seq ?_
  refine sv (v := .slice none 0 0) henv rfl (rn_assign henv rfl) ?_
  clear henv a; intro a henv
  refine wpList_nil ?_
  refine th_n ?_
  refine wp_seq ?_
  refine region_seq ?_
  refine sv (v := .int .i64 (n : Nat)) henv rfl (rn_move henv rfl) ?_
  clear henv a; intro a henv
  refine seq_step rfl (op_makeS (f := fM) (e0 := (none, 0, 0)) (q := notU) (n := n) henv hst rfl Tryd.underlying42 inf_anvil_anvilref02_Int rfl rfl fM_zp rfl rfl rfl (by omega) (by unfold maxLen; omega) ?_)
  clear henv hst a; intro a w52 g51 henv hst
  replace hst := hst.addMs (es_zerosM n _) ⟨nou_rowS, trivial⟩
  refine sv (v := .slice A0 n0 c0) henv rfl (rn_move henv rfl) ?_
  clear henv a; intro a henv
  refine seq_step rfl (op_appendR (k := 0) henv hst rfl Tryd.underlying42 inf_anvil_anvilref02_Int rfl rfl rfl rfl rfl (hst.pat (k := 1) rfl).1 (fl_all (fun _ => rfl) _) (fl_all (fun _ => rfl) _) rfl (by omega) (by unfold maxLen; omega) (by omega) ?_)
  clear henv hst a; intro a w55 g53 c54 henv hst
  rw [show fl fM (List.replicate n (none, 0, 0)) ++ fl fM es0 = fl fM ((List.replicate n (none, 0, 0)) ++ es0) from (fl_app (f := fM) (List.replicate n (none, 0, 0)) es0).symm] at hst
  replace hst := hst.rowEs (i := 1) rfl
  replace hst := hst.appEs (i := 1) (j := 0) rfl rfl
  replace hst : St w0 _ [rowS notU 39 2 (some ⟨g53, 0, none⟩) (n + n0) c54 (fl fM ((List.replicate n (none, 0, 0)) ++ es0))] [pfEs FM ((List.replicate n (none, 0, 0)) ++ es0), pfEs FM es0, pfEs FM (List.replicate n (none, 0, 0)), pfRow fM FM 2 A0 n0 c0 es0] := hst
  refine sv (v := .slice (some ⟨g53, 0, none⟩) (n + n0) c54) henv rfl (rn_assign henv rfl) ?_
  clear henv a; intro a henv
  refine wpList_nil ?_
  refine th_n ?_
  refine wp_ret ?_
  refine leave henv (res1 Tryd.results38 (RV.tmp henv rfl)) ?_
  exact ⟨_, rfl, ⟨_, _, ((List.replicate n (none, 0, 0)) ++ es0), rfl, hst.newRow (k := 0) (j := 0) rfl rfl, (by simp; omega), (by rw [List.map_append, List.map_replicate, hz0])⟩, hst.below⟩
theorem r20_shift {A0 : Option Addr} {n0 c0 : Nat} {es0 : List NE} {xs : List Int} {n : Nat} {w0 : World} (h0 : (pfRow fM FM 2 A0 n0 c0 es0).P w0) (hz0 : es0.map zz = xs) (hn : n ≤ 4096) (hn0 : n0 ≤ 100000) :
    Calls Tryd.prog 38 #[.slice A0 n0 c0, .int .i64 (n : Nat)] w0 fun e w' => ∃ v, e = .returned v ∧ MRow w0.heap.size w' v (n + n0) (List.replicate n 0 ++ xs) ∧ Below w0.heap.size w0 w' := by
  rcases Nat.eq_zero_or_pos n0 with h | h
  · subst h
    exact r20_shift_e h0 hz0 hn
  · exact r20_shift_ok h0 hz0 hn hn0 h
theorem p_shift {A0 : Option Addr} {n0 c0 : Nat} {es0 : List NE} {xs : List Int} {n : Nat} {w0 : World} (h0 : (pfRow fN FN 2 A0 n0 c0 es0).P w0) (hz0 : es0.map zz = xs) (hn : n ≤ 4096) (hn0 : n0 ≤ 100000) :
    Calls Tryd.prog 25 #[.slice A0 n0 c0, .int .i64 (n : Nat)] w0 fun e w' => ∃ v, e = .returned (.tuple #[v, .int .i64 0]) ∧ ZRowN w0.heap.size w' v (n + n0) (List.replicate n 0 ++ xs) ∧ Below w0.heap.size w0 w' := by
  by_cases hq : n + n0 = 0
  · exact p_shift_nil h0 hz0 hq
  rcases Nat.eq_zero_or_pos n0 with h | h
  · subst h
    exact p_shift_e h0 hz0 hn hq
  · exact p_shift_ok h0 hz0 hn hn0 h hq
set_option maxRecDepth 100000 in
set_option maxHeartbeats 8000000 in
theorem r20_mul {A0 A1 : Option Addr} {n0 n1 c0 c1 : Nat} {es0 es1 : List NE} {xs ys : List Int} {w0 : World} (h0 : (pfRow fM FM 2 A0 n0 c0 es0).P w0) (hz0 : es0.map zz = xs) (h1 : (pfRow fM FM 2 A1 n1 c1 es1).P w0) (hz1 : es1.map zz = ys) (hk0 : Zk 1000 xs) (hk1 : Zk 1000 ys) (hn0 : n0 ≤ 300) (hn1 : n1 ≤ 300) :
    Calls Tryd.prog 37 #[.slice A0 n0 c0, .slice A1 n1 c1] w0 fun e w' => ∃ v, e = .returned v ∧ MRow w0.heap.size w' v (mulF xs ys).length (mulF xs ys) ∧ Below w0.heap.size w0 w' := by
  refine enter Tryd.func37 rfl Tryd.ntmps37 rfl ?_
  intro a henv hst
  have hlen0 := h0.2.1
  have hbig0 := Nat.le_trans h0.1.cap h0.1.big
  unfold maxLen at hbig0
  have hlen1 := h1.2.1
  have hbig1 := Nat.le_trans h1.1.cap h1.1.big
  unfold maxLen at hbig1
  have hlx : xs.length = n0 := by rw [← hz0, List.length_map]; exact hlen0
  have hly : ys.length = n1 := by rw [← hz1, List.length_map]; exact hlen1
  replace hst := (hst.argRow h1).argRow h0
  clear h0 h1
  refine wp_seq ?_
  refine region_seq ?_
  refine sv (v := .slice none 0 0) henv rfl (rn_assign henv rfl) ?_
  clear henv a; intro a henv
  refine wpList_nil ?_
  refine th_n ?_
  refine wp_seq ?_
  refine wp_seq ?_
  refine region_seq ?_
  revert a
  refine mA rfl rfl ?_
  refine sA (v := .int .i64 (n0 : Nat)) rfl (fun _ henv => rn_len henv Tryd.underlying42 rfl) ?_
  refine sA (v := .bool (((n0 : Nat) : Int) == (0 : Int))) rfl (fun _ henv => rn_bin henv rfl rfl rfl) ?_
  refine mA rfl rfl ?_
  intro a henv
  rcases bool_em (((n0 : Nat) : Int) == (0 : Int)) with hg51 | hg51
  · rw [hg51] at henv
    have hq52 := eq_of_beq hg51
    revert a
    refine kA rfl rfl rfl rfl rfl ?_
    refine kA rfl rfl rfl rfl rfl ?_
    refine kA rfl rfl rfl rfl rfl ?_
    refine sA (v := .bool true) rfl (fun _ henv => rn_pick henv rfl rfl) ?_
    intro a henv
    refine wpList_nil ?_
    refine th_n ?_
    refine if_t henv rfl (rfl) ?_
    refine wp_seq ?_
    refine region_seq ?_
    refine sv (v := .slice none 0 0) henv rfl (rn_assign henv rfl) ?_
    clear henv a; intro a henv
    refine wpList_nil ?_
    refine th_n ?_
    refine wp_ret ?_
    refine th_r ?_
    refine leave henv (res1 Tryd.results37 (RV.tmp henv rfl)) ?_
    have hmu : mulF xs ys = [] := by rw [mulF, if_pos (by omega)]
    rw [hmu]
    exact ⟨_, rfl, mrow_nil0, hst.below⟩
  · rw [hg51] at henv
    have hq53 := ne_of_beq_false hg51
    revert a
    refine gA (v := .slice A1 n1 c1) rfl rfl rfl rfl (fun _ henv => rn_move henv rfl) ?_
    refine gA (v := .int .i64 (n1 : Nat)) rfl rfl rfl rfl (fun _ henv => rn_len henv Tryd.underlying42 rfl) ?_
    refine gA (v := .bool (((n1 : Nat) : Int) == (0 : Int))) rfl rfl rfl rfl (fun _ henv => rn_bin henv rfl rfl rfl) ?_
    refine sA (v := .bool (((n1 : Nat) : Int) == (0 : Int))) rfl (fun _ henv => rn_pick henv rfl rfl) ?_
    intro a henv
    refine wpList_nil ?_
    refine th_n ?_
    refine if_split henv rfl (fun hc54 => ?_) (fun hc54 => ?_)
    · have hq55 := eq_of_beq hc54
      refine wp_seq ?_
      refine region_seq ?_
      refine sv (v := .slice none 0 0) henv rfl (rn_assign henv rfl) ?_
      clear henv a; intro a henv
      refine wpList_nil ?_
      refine th_n ?_
      refine wp_ret ?_
      refine th_r ?_
      refine leave henv (res1 Tryd.results37 (RV.tmp henv rfl)) ?_
      have hmu : mulF xs ys = [] := by rw [mulF, if_pos (by omega)]
      rw [hmu]
      exact ⟨_, rfl, mrow_nil0, hst.below⟩
    · have hq56 := ne_of_beq_false hc54
      refine wp_skip ?_
      refine th_n ?_
      refine wp_seq ?_
      refine region_seq ?_
      refine sv (v := .slice none 0 0) henv rfl (rn_assign henv rfl) ?_
      clear henv a; intro a henv
      refine wpList_nil ?_
      refine th_n ?_
      refine wp_seq ?_
      refine wp_seq ?_
      refine region_seq ?_
      refine sv (v := .int .i64 0) henv rfl (rn_assign henv rfl) ?_
      clear henv a; intro a henv
      refine wpList_nil ?_
      refine th_n ?_
      refine wp_block ?_
      replace hst := (hst.addRowS notU 39 2).nilEs FM
      replace hst : St w0 _ [rowS notU 39 2 none 0 0 (fl fM ([]))] [pfEs FM ([]), pfRow fM FM 2 A0 n0 c0 es0, pfRow fM FM 2 A1 n1 c1 es1] := hst
      refine wp_loop_ghost (fun mz a w => ∃ k : Nat, ∃ B : Option Addr, ∃ d : Nat, ∃ os : List NE, n0 + n1 - 1 - k = mz ∧ Env 63 a [(0, .slice A0 n0 c0), (1, .slice A1 n1 c1), (5, .slice B k d), (6, .int .i64 (k : Nat))] ∧ St w0 w [rowS notU 39 2 B k d (fl fM os)] [pfRow fM FM 2 A0 n0 c0 es0, pfRow fM FM 2 A1 n1 c1 es1, pfEs FM os] ∧ k ≤ n0 + n1 - 1 ∧ os.map zz = (List.range k).map (cv (co xs) (co ys))) _ ⟨0, none, 0, [], rfl, henv.sub ⟨rfl, rfl, rfl, rfl, trivial⟩, hst.pick [0] [1, 2, 0] (by decide), (Nat.zero_le _), rfl⟩ ?_
      clear henv hst a
      rintro mz a w57 ⟨k, B, d, os, rfl, henv, hst, hk, ho⟩
      refine wp_seq ?_
      refine wp_seq ?_
      refine region_seq ?_
      revert a
      refine mA rfl rfl ?_
      refine mA rfl rfl ?_
      refine sA (v := .int .i64 (n0 : Nat)) rfl (fun _ henv => rn_len henv Tryd.underlying42 rfl) ?_
      refine mA rfl rfl ?_
      refine sA (v := .int .i64 (n1 : Nat)) rfl (fun _ henv => rn_len henv Tryd.underlying42 rfl) ?_
      refine sA (v := .int .i64 (n0 + n1 : Nat)) rfl (fun _ henv => rn_add henv rfl rfl (by rw [IntWalk.i64_in _ (by omega)]; omega)) ?_
      refine sA (v := .int .i64 ((n0 + n1) - 1 : Nat)) rfl (fun _ henv => rn_sub henv rfl rfl (by rw [IntWalk.i64_in _ (by omega)]; omega)) ?_
      refine sA (v := .bool (decide (((k : Nat) : Int) < (((n0 + n1) - 1 : Nat) : Int)))) rfl (fun _ henv => rn_bin henv rfl rfl rfl) ?_
      intro a henv
      refine wpList_nil ?_
      refine th_n ?_
      refine if_split henv rfl (fun hc58 => ?_) (fun hc58 => ?_)
      · have hx59 := of_decide_eq_true hc58
        refine wp_skip ?_
        refine th_n ?_
        refine wp_seq ?_
        refine wp_block ?_
        refine wp_seq ?_
        refine region_seq ?_
        refine sv (v := .agg #[.bool (neg 0), .slice none (dl 0) 0]) henv rfl (rn_zref) ?_
        clear henv a; intro a henv
        refine seq_step rfl (op_alloc (c := #[.bool (neg 0), .slice none (dl 0) 0]) henv hst rfl zero_anvil_anvilref02_Int rcells ?_)
        clear henv hst a; intro a w61 g60 henv hst
        refine seq_step rfl (op_store (k := 0) (c' := #[.bool (neg 0), .slice none (dl 0) 0]) henv hst (ty_anvil_anvilref02_Int.size) rfl rfl rfl rfl (by simp) rfl rfl ?_)
        clear henv hst a; intro a w62 henv hst
        refine wpList_nil ?_
        refine th_n ?_
        refine wp_seq ?_
        refine wp_seq ?_
        refine region_seq ?_
        refine sv (v := .int .i64 0) henv rfl (rn_assign henv rfl) ?_
        clear henv a; intro a henv
        refine wpList_nil ?_
        refine th_n ?_
        refine wp_block ?_
        replace hst := hst.addR (rin_none _) ⟨nou_bk rfl, nou_rowS, trivial⟩
        refine wp_loop_ghost (fun mz a w => ∃ i : Nat, ∃ s : Int, ∃ As : Option Addr, ∃ cs : Nat, k + 1 - i = mz ∧ Env 63 a [(0, .slice A0 n0 c0), (1, .slice A1 n1 c1), (5, .slice B k d), (6, .int .i64 (k : Nat)), (7, .pointer (some ⟨g60, 0, none⟩)), (8, .int .i64 (i : Nat))] ∧ St w0 w [bk g60 #[.bool (neg s), .slice As (dl s) cs] 39, rowS notU 39 2 B k d (fl fM os)] [pfR As cs s, pfRow fM FM 2 A0 n0 c0 es0, pfRow fM FM 2 A1 n1 c1 es1, pfEs FM os] ∧ i ≤ k + 1 ∧ s = sg (fun t => co xs t * co ys (k - t)) i ∧ zl s ≤ 2000 + i) _ ⟨0, 0, none, 0, rfl, henv.sub ⟨rfl, rfl, rfl, rfl, rfl, rfl, trivial⟩, hst.pick [0, 1] [0, 1, 2, 3] (by decide), (Nat.zero_le _), rfl, (by rw [zl_zero]; omega)⟩ ?_
        clear henv hst a
        rintro mz a w63 ⟨i, s, As, cs, rfl, henv, hst, hi, hs, hss⟩
        have hds := dl_zl s
        refine wp_seq ?_
        refine wp_seq ?_
        refine region_seq ?_
        revert a
        refine mA rfl rfl ?_
        refine mA rfl rfl ?_
        refine sA (v := .bool (decide (((i : Nat) : Int) ≤ ((k : Nat) : Int)))) rfl (fun _ henv => rn_bin henv rfl rfl rfl) ?_
        intro a henv
        refine wpList_nil ?_
        refine th_n ?_
        refine if_split henv rfl (fun hc64 => ?_) (fun hc64 => ?_)
        · have hx65 := of_decide_eq_true hc64
          refine wp_skip ?_
          refine th_n ?_
          refine wp_seq ?_
          refine wp_block ?_
          refine wp_seq ?_
          refine region_seq ?_
          revert a
          refine mA rfl rfl ?_
          refine mA rfl rfl ?_
          refine sA (v := .int .i64 (n0 : Nat)) rfl (fun _ henv => rn_len henv Tryd.underlying42 rfl) ?_
          refine sA (v := .bool (decide (((i : Nat) : Int) < ((n0 : Nat) : Int)))) rfl (fun _ henv => rn_bin henv rfl rfl rfl) ?_
          refine mA rfl rfl ?_
          intro a henv
          rcases bool_em (decide (((i : Nat) : Int) < ((n0 : Nat) : Int))) with hg66 | hg66
          · rw [hg66] at henv
            have hx67 := of_decide_eq_true hg66
            revert a
            refine gA (v := .int .i64 (k : Nat)) rfl rfl rfl rfl (fun _ henv => rn_move henv rfl) ?_
            refine gA (v := .int .i64 (i : Nat)) rfl rfl rfl rfl (fun _ henv => rn_move henv rfl) ?_
            refine gA (v := .int .i64 (k - i : Nat)) rfl rfl rfl rfl (fun _ henv => rn_sub henv rfl rfl (by rw [IntWalk.i64_in _ (by omega)]; omega)) ?_
            refine gA (v := .slice A1 n1 c1) rfl rfl rfl rfl (fun _ henv => rn_move henv rfl) ?_
            refine gA (v := .int .i64 (n1 : Nat)) rfl rfl rfl rfl (fun _ henv => rn_len henv Tryd.underlying42 rfl) ?_
            refine gA (v := .bool (decide (((k - i : Nat) : Int) < ((n1 : Nat) : Int)))) rfl rfl rfl rfl (fun _ henv => rn_bin henv rfl rfl rfl) ?_
            refine sA (v := .bool (decide (((k - i : Nat) : Int) < ((n1 : Nat) : Int)))) rfl (fun _ henv => rn_pick henv rfl rfl) ?_
            intro a henv
            refine wpList_nil ?_
            refine th_n ?_
            refine if_split henv rfl (fun hc68 => ?_) (fun hc68 => ?_)
            · have hx69 := of_decide_eq_true hc68
              have hlt0 : i < n0 := by omega
              have hlt1 : k - i < n1 := by omega
              obtain ⟨⟨A, c, x⟩, he0⟩ : ∃ e, es0[i]? = some e := ⟨_, List.getElem?_eq_getElem (by omega)⟩
              replace hst := hst.elem (k := 1) rfl he0
              replace hst : St w0 _ [bk g60 #[.bool (neg s), .slice As (dl s) cs] 39, rowS notU 39 2 B k d (fl fM os)] [pfR A c x, pfR As cs s, pfRow fM FM 2 A0 n0 c0 es0, pfRow fM FM 2 A1 n1 c1 es1, pfEs FM os] := hst
              replace hst : St w0 _ [bk g60 #[.bool (neg s), .slice As (dl s) cs] 39, rowS notU 39 2 B k d (fl fM os)] [pfR A c x, pfR As cs s, pfRow fM FM 2 A0 n0 c0 es0, pfRow fM FM 2 A1 n1 c1 es1, pfEs FM os] := hst
              have hg0 : xs[i]? = some x := by rw [← hz0, List.getElem?_map, he0]; rfl
              have hc0 : co xs i = x := by rw [co, List.getD_eq_getElem?_getD, hg0]; rfl
              obtain ⟨⟨C, d1, y⟩, he1⟩ : ∃ e, es1[k - i]? = some e := ⟨_, List.getElem?_eq_getElem (by omega)⟩
              replace hst := hst.elem (k := 3) rfl he1
              replace hst : St w0 _ [bk g60 #[.bool (neg s), .slice As (dl s) cs] 39, rowS notU 39 2 B k d (fl fM os)] [pfR C d1 y, pfR A c x, pfR As cs s, pfRow fM FM 2 A0 n0 c0 es0, pfRow fM FM 2 A1 n1 c1 es1, pfEs FM os] := hst
              replace hst : St w0 _ [bk g60 #[.bool (neg s), .slice As (dl s) cs] 39, rowS notU 39 2 B k d (fl fM os)] [pfR C d1 y, pfR A c x, pfR As cs s, pfRow fM FM 2 A0 n0 c0 es0, pfRow fM FM 2 A1 n1 c1 es1, pfEs FM os] := hst
              have hg1 : ys[k - i]? = some y := by rw [← hz1, List.getElem?_map, he1]; rfl
              have hc1 : co ys (k - i) = y := by rw [co, List.getD_eq_getElem?_getD, hg1]; rfl
              have hsx : zl x ≤ 1000 := hk0 x (List.mem_of_getElem? hg0)
              have hsy : zl y ≤ 1000 := hk1 y (List.mem_of_getElem? hg1)
              have hdx := dl_zl x
              have hdy := dl_zl y
              refine region_any (n := 14) (Sk [rowS notU 39 2 B k d (fl fM os)] [pfR C d1 y, pfR A c x, pfR As cs s, pfRow fM FM 2 A0 n0 c0 es0, pfRow fM FM 2 A1 n1 c1 es1, pfEs FM os] [13] [bk g60 #[.bool (neg s), .slice As (dl s) cs] 39]) mixed rfl henv hst ?_
              clear henv hst; intro w70 henv hst
              refine sAny_take (i := 0) [12, 13] (fun w' => w'.heap[g60]? = some (.cells #[.bool (neg s), .slice As (dl s) cs] 39 (0, 0))) (v := .agg #[.bool (neg s), .slice As (dl s) cs]) rfl (by kernel_rfl) (fun _ _ _ h => h) (fun _ _ hj hS => (hS.two rfl hj).oat (k := 0) rfl) henv rfl (hst.oat (k := 0) rfl) (fun w' hg => rn_load0 henv ty_anvil_anvilref02_Int rfl hg rfl) ?_
              clear henv a; intro a henv
              refine tM (i := 1) [3, 4, 11, 12, 13] rfl (by kernel_rfl) (fun _ _ _ h => h) henv rfl rfl ?_
              clear henv a; intro a henv
              refine tM (i := 2) [3, 4, 11, 12, 13] rfl (by kernel_rfl) (fun _ _ _ h => h) henv rfl rfl ?_
              clear henv a; intro a henv
              refine sAny_take (i := 3) [4, 11, 12, 13] (fun w' => (pfRow fM FM 2 A0 n0 c0 es0).P w') (v := .pointer (some ⟨ab A0, ao A0 + i * 2, none⟩)) rfl (by kernel_rfl) (fun _ _ _ h => h) (fun _ _ _ hS => hS.1.pat (k := 3) rfl) henv rfl (hst.pat (k := 3) rfl) (fun w' hg => rn_idxR (i := i) henv Tryd.underlying42 (ty_anvil_anvilref02_Int.size) rfl rfl (by omega) rfl (show (pfRow fM FM 2 A0 n0 c0 es0).P _ from hg).1) ?_
              clear henv a; intro a henv
              refine sAny_take (i := 4) [11, 12, 13] (fun w' => (pfRow fM FM 2 A0 n0 c0 es0).P w') (v := .agg #[.bool (neg x), .slice A (dl x) c]) rfl (by kernel_rfl) (fun _ _ _ h => h) (fun _ _ _ hS => hS.1.pat (k := 3) rfl) henv rfl (hst.pat (k := 3) rfl) (fun w' hg => rn_loadE (i := i) (e := (A, c, x)) henv ty_anvil_anvilref02_Int rfl rfl fM_len (show (pfRow fM FM 2 A0 n0 c0 es0).P _ from hg).1 (by omega) he0 rfl) ?_
              clear henv a; intro a henv
              refine tM (i := 5) (rg 9 5) rfl (by kernel_rfl) (fun _ _ _ h => h) henv rfl rfl ?_
              clear henv a; intro a henv
              refine tM (i := 6) (rg 8 6) rfl (by kernel_rfl) (fun _ _ _ h => h) henv rfl rfl ?_
              clear henv a; intro a henv
              refine tM (i := 7) (rg 8 6) rfl (by kernel_rfl) (fun _ _ _ h => h) henv rfl rfl ?_
              clear henv a; intro a henv
              refine tA (i := 8) (rg 9 5) (v := .int .i64 (k - i : Nat)) rfl (by kernel_rfl) (fun _ _ _ h => h) henv rfl (fun _ => rn_sub henv rfl rfl (by rw [IntWalk.i64_in _ (by omega)]; omega)) ?_
              clear henv a; intro a henv
              refine sAny_take (i := 9) [10, 11, 12, 13] (fun w' => (pfRow fM FM 2 A1 n1 c1 es1).P w') (v := .pointer (some ⟨ab A1, ao A1 + (k - i) * 2, none⟩)) rfl (by kernel_rfl) (fun _ _ _ h => h) (fun _ _ _ hS => hS.1.pat (k := 4) rfl) henv rfl (hst.pat (k := 4) rfl) (fun w' hg => rn_idxR (i := k - i) henv Tryd.underlying42 (ty_anvil_anvilref02_Int.size) rfl rfl (by omega) rfl (show (pfRow fM FM 2 A1 n1 c1 es1).P _ from hg).1) ?_
              clear henv a; intro a henv
              refine sAny_take (i := 10) [11, 12, 13] (fun w' => (pfRow fM FM 2 A1 n1 c1 es1).P w') (v := .agg #[.bool (neg y), .slice C (dl y) d1]) rfl (by kernel_rfl) (fun _ _ _ h => h) (fun _ _ _ hS => hS.1.pat (k := 4) rfl) henv rfl (hst.pat (k := 4) rfl) (fun w' hg => rn_loadE (i := k - i) (e := (C, d1, y)) henv ty_anvil_anvilref02_Int rfl rfl fM_len (show (pfRow fM FM 2 A1 n1 c1 es1).P _ from hg).1 (by omega) he1 rfl) ?_
              clear henv a; intro a henv
              have hs71 := dl_mul x y
              refine sAny_one (i := 11) (by kernel_rfl) rfl rfl (op_call henv rfl Tryd.call52 rfl (mul_r (x := x) (y := y) (show RIn _ A c x from hst.pat (k := 1) rfl) (show RIn _ C d1 y from hst.pat (k := 0) rfl) (by omega) (by omega)) ?_)
              rintro e w75 ⟨_, rfl, ⟨A72, c73, rfl, hz74⟩, hb⟩
              refine ⟨_, rfl, ?_⟩
              clear henv a; intro a henv
              replace hst := (hst.call hb).addR hz74 ⟨nou_bk rfl, nou_rowS, trivial⟩
              clear hz74
              clear hb
              refine ⟨.inr ⟨hst.kn.pick [1] (rg 1 6), .inr (hst.kn.pick [0] [])⟩, ?_⟩
              have hs76 := dl_add s (x * y)
              refine sAny_one (i := 12) (by kernel_rfl) rfl rfl (op_call henv rfl Tryd.call54 rfl (add_r (x := s) (y := x * y) (show RIn _ As cs s from hst.pat (k := 3) rfl) (show RIn _ A72 c73 (x * y) from hst.pat (k := 0) rfl) (by omega) (by omega)) ?_)
              rintro e w80 ⟨_, rfl, ⟨A77, c78, rfl, hz79⟩, hb⟩
              refine ⟨_, rfl, ?_⟩
              clear henv a; intro a henv
              replace hst := (hst.call hb).addR hz79 ⟨nou_bk rfl, nou_rowS, trivial⟩
              clear hz79
              clear hb
              refine ⟨.inr ⟨hst.kn.pick [1] (rg 2 6), .inr (hst.kn.pick [0] [])⟩, ?_⟩
              refine sAny_one (i := 13) (by kernel_rfl) rfl rfl (op_store (k := 0) (c' := #[.bool (neg (s + (x * y))), .slice A77 (dl (s + (x * y))) c78]) henv hst (ty_anvil_anvilref02_Int.size) rfl rfl rfl rfl (by simp) rfl rfl ?_)
              clear henv hst a; intro a w81 henv hst
              refine ⟨.inr ⟨hst.kn.pick [1] (rg 2 6), .inl rfl⟩, ?_⟩
              refine sAny_done (by kernel_rfl) ?_ _
              refine bl_n (th_n ?_)
              refine region_seq ?_
              revert a
              refine mA rfl rfl ?_
              refine sA (v := .int .i64 (i + 1 : Nat)) rfl (fun _ henv => rn_add henv rfl rfl (by rw [IntWalk.i64_in _ (by omega)]; omega)) ?_
              refine aA rfl rfl ?_
              intro a henv
              refine wpList_nil ?_
              exact th_n ⟨_, (by omega), ⟨i + 1, (s + x * y), A77, c78, rfl, henv.sub ⟨rfl, rfl, rfl, rfl, rfl, rfl, trivial⟩, hst.pick [0, 1] [0, 5, 6, 7] (by decide), (by omega), (by rw [sg, ← hs]; show _ = s + co xs i * co ys (k - i); rw [hc0, hc1]), (by have := zl_addm s (x * y); have := zl_mul x y; omega)⟩⟩
            · have hx82 := of_decide_eq_false hc68
              have hp0 : co xs i * co ys (k - i) = 0 := by rw [co_off (xs := ys) (by omega), Int.mul_zero]
              refine wp_skip ?_
              refine bl_n (th_n ?_)
              refine region_seq ?_
              revert a
              refine mA rfl rfl ?_
              refine sA (v := .int .i64 (i + 1 : Nat)) rfl (fun _ henv => rn_add henv rfl rfl (by rw [IntWalk.i64_in _ (by omega)]; omega)) ?_
              refine aA rfl rfl ?_
              intro a henv
              refine wpList_nil ?_
              exact th_n ⟨_, (by omega), ⟨i + 1, s, As, cs, rfl, henv.sub ⟨rfl, rfl, rfl, rfl, rfl, rfl, trivial⟩, hst.pick [0, 1] [0, 1, 2, 3] (by decide), (by omega), (by rw [sg, ← hs]; show s = s + co xs i * co ys (k - i); rw [hp0, Int.add_zero]), (by omega)⟩⟩
          · rw [hg66] at henv
            have hx83 := of_decide_eq_false hg66
            have hp0 : co xs i * co ys (k - i) = 0 := by rw [co_off (xs := xs) (by omega), Int.zero_mul]
            revert a
            refine kA rfl rfl rfl rfl rfl ?_
            refine kA rfl rfl rfl rfl rfl ?_
            refine kA rfl rfl rfl rfl rfl ?_
            refine kA rfl rfl rfl rfl rfl ?_
            refine kA rfl rfl rfl rfl rfl ?_
            refine kA rfl rfl rfl rfl rfl ?_
            refine sA (v := .bool false) rfl (fun _ henv => rn_pick henv rfl rfl) ?_
            intro a henv
            refine wpList_nil ?_
            refine th_n ?_
            refine if_f henv rfl (rfl) ?_
            refine wp_skip ?_
            refine bl_n (th_n ?_)
            refine region_seq ?_
            revert a
            refine mA rfl rfl ?_
            refine sA (v := .int .i64 (i + 1 : Nat)) rfl (fun _ henv => rn_add henv rfl rfl (by rw [IntWalk.i64_in _ (by omega)]; omega)) ?_
            refine aA rfl rfl ?_
            intro a henv
            refine wpList_nil ?_
            exact th_n ⟨_, (by omega), ⟨i + 1, s, As, cs, rfl, henv.sub ⟨rfl, rfl, rfl, rfl, rfl, rfl, trivial⟩, hst.pick [0, 1] [0, 1, 2, 3] (by decide), (by omega), (by rw [sg, ← hs]; show s = s + co xs i * co ys (k - i); rw [hp0, Int.add_zero]), (by omega)⟩⟩
        · have hx84 := of_decide_eq_false hc64
          have hin : i = k + 1 := by omega
          refine wp_exit ?_
          refine th_x (th_x (bl_x (th_n ?_)))
          refine region_seq ?_
          revert a
          refine mA rfl rfl ?_
          refine sA (v := .agg #[.bool (neg s), .slice As (dl s) cs]) rfl (fun _ henv => rn_load0 henv ty_anvil_anvilref02_Int rfl (hst.oat (k := 0) rfl) rfl) ?_
          intro a henv
          refine seq_step rfl (op_buildSlice (z := 2) (pv := #[(0, .agg #[.bool (neg s), .slice As (dl s) cs])]) (c := #[.bool (neg s), .slice As (dl s) cs]) henv hst rfl Tryd.underlying42 (ty_anvil_anvilref02_Int.size) zero_anvil_anvilref02_Int (by decide) (by decide) rfl (by kernel_rfl) ?_)
          clear henv hst a; intro a w86 g85 henv hst
          refine seq_step rfl (op_appendS (k := 2) (j := 0) henv hst rfl Tryd.underlying42 inf_anvil_anvilref02_Int rfl rfl rfl rfl rfl rfl rfl rfl rfl rfl rfl (by unfold maxLen; omega) (by omega) ?_)
          clear henv hst a; intro a w89 g87 c88 henv hst
          rw [show fl fM os ++ (#[.bool (neg s), .slice As (dl s) cs] : Array Value).toList = fl fM (os ++ [(As, cs, s)]) from fl_snoc (f := fM) os (As, cs, s)] at hst
          replace hst := hst.snocEs (e := (As, cs, s)) (i := 3) (j := 0) rfl rfl
          refine sv (v := .slice (some ⟨g87, 0, none⟩) (k + 1) c88) henv rfl (rn_assign henv rfl) ?_
          clear henv a; intro a henv
          refine wpList_nil ?_
          refine bl_n (th_n ?_)
          refine region_seq ?_
          revert a
          refine mA rfl rfl ?_
          refine sA (v := .int .i64 (k + 1 : Nat)) rfl (fun _ henv => rn_add henv rfl rfl (by rw [IntWalk.i64_in _ (by omega)]; omega)) ?_
          refine aA rfl rfl ?_
          intro a henv
          refine wpList_nil ?_
          exact th_n ⟨_, (by omega), ⟨k + 1, (some ⟨g87, 0, none⟩), c88, (os ++ [(As, cs, s)]), rfl, henv.sub ⟨rfl, rfl, rfl, rfl, trivial⟩, hst.pick [2] [2, 3, 0] (by decide), (by omega), (cv_step ho (by rw [hs, hin]; rfl))⟩⟩
      · have hx90 := of_decide_eq_false hc58
        have hke : k = n0 + n1 - 1 := by omega
        refine wp_exit ?_
        refine th_x (th_x (bl_x (th_n ?_)))
        refine wp_seq ?_
        refine region_seq ?_
        revert a
        refine mA rfl rfl ?_
        refine aA rfl rfl ?_
        intro a henv
        refine wpList_nil ?_
        refine th_n ?_
        refine wp_ret ?_
        refine leave henv (res1 Tryd.results37 (RV.tmp henv rfl)) ?_
        have heq : (List.range (n0 + n1 - 1)).map (cv (co xs) (co ys)) = mulF xs ys := by rw [← hlx, ← hly]; exact mul_eq (by omega) (by omega)
        have hle : k = (mulF xs ys).length := by rw [mulF_len (by omega) (by omega)]; omega
        exact ⟨_, rfl, ⟨_, _, os, congrArg (fun k => Value.slice _ k _) hle, (hle ▸ hst.newRow (k := 0) (j := 2) rfl rfl), (by have := congrArg List.length ho; simp at this; omega), (by rw [ho, hke, heq])⟩, hst.below⟩
end Go.Proofs.YtghaenkacjgdnaaDoor.W
