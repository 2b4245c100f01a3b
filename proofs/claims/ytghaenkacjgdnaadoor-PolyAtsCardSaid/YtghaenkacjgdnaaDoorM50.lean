/- row.Over, Content, Primitive; the reference's Over, Content, Zero, Primitive. Printed by pv/gen_row9.py. No condition. -/
import Derived.Test.YtghaenkacjgdnaaDoorM47
import Derived.Test.YtghaenkacjgdnaaDoorM15
import Derived.Test.YtghaenkacjgdnaaDoorM38
import Derived.Test.YtghaenkacjgdnaaDoorM49
import Derived.Test.YtghaenkacjgdnaaDoorM24
import Derived.Test.YtghaenkacjgdnaaDoorM36
import Derived.Test.YtghaenkacjgdnaaDoorM22
import Derived.Test.YtghaenkacjgdnaaDoorM6

namespace Go.Proofs.YtghaenkacjgdnaaDoor.W
open Go.RowKit Anv Go.Lib
def ovr (x y : Int) : Int := if x % y = 0 then x / y else 0
theorem divs_step {es : List NE} {xs : List Int} {j : Nat} {A : Option Addr} {c : Nat} {z m : Int} (hz : es.map zz = xs) (hd : divs m (xs.take j)) (he : es[j]? = some (A, c, z)) (h : z % m = 0) : divs m (xs.take (j + 1)) := by
  rw [ztake_snoc hz he]
  intro x hx
  rcases List.mem_append.1 hx with hx | hx
  · exact hd x hx
  · rw [List.mem_singleton.1 hx]; exact h
end Go.Proofs.YtghaenkacjgdnaaDoor.W

/- RowSums: the law's walk. Printed by pv/gen_rowA.py. No condition. -/
namespace Go.Proofs.YtghaenkacjgdnaaDoor.W
open Go.RowKit Anv Go.Lib
theorem Zk.zb {k : Nat} {es : List NE} (h : Zk k (es.map zz)) : ZB k es := h.es rfl
end Go.Proofs.YtghaenkacjgdnaaDoor.W

/- RowTexts, RowReads: the laws' walks. Printed by pv/gen_rowE.py. No condition. -/
namespace Go.Proofs.YtghaenkacjgdnaaDoor.W
open Go.RowKit Anv Go.Lib
theorem row_text' {A0 : Option Addr} {n0 c0 : Nat} {es0 : List NE} {xs : List Int} {w0 : World} (h0 : (pfRow fN FN 2 A0 n0 c0 es0).P w0) (hz0 : es0.map zz = xs) (hk : Zk 90000 xs) (hn : n0 ≤ 1000000) :
    Calls Tryd.prog 79 #[.slice A0 n0 c0] w0 fun e w' => e = .returned (.string ⟨(textRow xs).toArray⟩) ∧ Below w0.heap.size w0 w' := by
  subst hz0
  exact row_text h0 hk.zb hn
theorem text_flat (zs : List Int) : (textRow zs).length ≤ 2 + (zs.map fun z => (textZ z).length + 1).sum ∧ (zs.map fun z => (textZ z).length).sum ≤ (textRow zs).length ∧ 2 + zs.length ≤ (textRow zs).length + 1 := by
  have h : ∀ l : List Int, ((l.map textZ).flatMap fun t => (32 : UInt8) :: t).length = (l.map fun z => (textZ z).length + 1).sum := by
    intro l
    induction l with
    | nil => rfl
    | cons z l ih => rw [List.map_cons, List.flatMap_cons, List.length_append, List.length_cons, ih]; simp
  have h2 : ∀ l : List Int, (l.map fun z => (textZ z).length).sum ≤ (l.map fun z => (textZ z).length + 1).sum := by
    intro l
    induction l with
    | nil => simp
    | cons z l ih => simp only [List.map_cons, List.sum_cons]; omega
  have h3 : ∀ l : List Int, l.length ≤ (l.map fun z => (textZ z).length + 1).sum := by
    intro l
    induction l with
    | nil => simp
    | cons z l ih => simp only [List.map_cons, List.sum_cons, List.length_cons]; omega
  cases zs with
  | nil => simp [textRow, jn]
  | cons z zs =>
    have e : (textRow (z :: zs)).length = 2 + (textZ z).length + (zs.map fun z => (textZ z).length + 1).sum := by
      simp only [textRow, jn, List.map_cons, List.length_cons, List.length_append, List.length_nil]
      rw [h]
      omega
    have h4 := h2 zs
    have h5 := h3 zs
    simp only [List.map_cons, List.sum_cons, List.length_cons]
    omega
end Go.Proofs.YtghaenkacjgdnaaDoor.W

/- anvillaw20's list, ref, is, works; slices.Clone, poly.Trim, Same, Text, Read. Printed by pv/gen_po1.py. No condition. -/
namespace Go.Proofs.YtghaenkacjgdnaaDoor.W
open Go.RowKit Anv Go.Lib
def LRowS (B : Nat) (w : World) (v : Value) (n : Nat) (zs : List Int) : Prop := ∃ g es, v = .slice (some ⟨g, 0, none⟩) n (n + 2) ∧ NewRow notU 28 2 fN FN B w (some ⟨g, 0, none⟩) (n + 2) (n + 2) es ∧ es.length = n + 2 ∧ es.map zz = zs ++ [0, 0]
def ZRowN (B : Nat) (w : World) (v : Value) (n : Nat) (zs : List Int) : Prop := ∃ A c es, v = .slice A n c ∧ NewRow notU 28 2 fN FN B w A n c es ∧ es.length = n ∧ es.map zz = zs ∧ (n = 0 → A = none)
def MRowN (B : Nat) (w : World) (v : Value) (n : Nat) (zs : List Int) : Prop := ∃ A c es, v = .slice A n c ∧ NewRow notU 39 2 fM FM B w A n c es ∧ es.length = n ∧ es.map zz = zs ∧ (n = 0 → A = none)
theorem lst_step {ps : List NE} {es : List Int} {j m c : Nat} {A : Option Addr} {x : Int} (ho : ps.map zz = es.take j ++ List.replicate (m - j) 0) (he : es[j]? = some x) (hm : j < m) : (ps.set j (A, c, x)).map zz = es.take (j + 1) ++ List.replicate (m - (j + 1)) 0 := by
  have hl : (es.take j).length = j := by
    rw [List.length_take]
    have := (List.getElem?_eq_some_iff.1 he).1
    omega
  rw [List.map_set, ho, List.set_append_right _ _ (by omega), hl, Nat.sub_self, show m - j = (m - (j + 1)) + 1 by omega, List.replicate_succ, List.set_cons_zero, take_one he, List.append_assoc]
  rfl
theorem row_none {α : Type} {f : α → List Value} {F : α → PF} {z n c : Nat} {A : Option Addr} {es : List α} {w : World} (h : (pfRow f F z A n c es).P w) (hA : A = none) : n = 0 := by
  subst hA
  rcases Nat.eq_zero_or_pos n with h0 | h0
  · exact h0
  · obtain ⟨b, off, e, _⟩ := h.1.cells h0
    cases e
theorem nil_eq {A : Option Addr} {n : Nat} (h : n = 0 → A = none) (h' : A = none → n = 0) : (A.isNone == (((n : Nat) : Int) == (0 : Int))) = true := by
  rcases Nat.eq_zero_or_pos n with h0 | h0
  · rw [h h0, h0]; rfl
  · cases A with
    | none => exact absurd (h' rfl) (by omega)
    | some a =>
      rw [beq_eq_false_iff_ne.2 (show ((n : Nat) : Int) ≠ 0 by omega)]
      rfl
theorem St.listRow {w0 w : World} {own ps : List PF} {k n m c : Nat} {A : Option Addr} {es : List NE} {zs : List Int} (h : St w0 w own ps) (hk : ps[k]? = some (pfRow fN FN 2 A m c es)) (hz : es.map zz = zs ++ [0, 0]) (hl : zs.length = n) : ∃ es' : List NE, St w0 w own (pfRow fN FN 2 A n c es' :: ps) ∧ es'.length = n ∧ es'.map zz = zs := by
  have h1 : es.length = m := (h.pat hk).2.1
  have h2 := congrArg List.length hz
  rw [List.length_map, List.length_append] at h2
  simp only [List.length_cons, List.length_nil] at h2
  refine ⟨es.take n, h.preRow hk n fN_len (by omega), by rw [List.length_take]; omega, ?_⟩
  rw [List.map_take, hz, List.take_left' hl]
set_option maxRecDepth 100000 in
set_option maxHeartbeats 2000000 in
theorem p20_list {A0 : Option Addr} {n0 c0 : Nat} {es0 : List Int} {w0 : World} (h0 : (pfRow fI FI 1 A0 n0 c0 es0).P w0) (hI : I64 es0) (hn : n0 ≤ 10000000) :
    Calls Tryd.prog 12 #[.slice A0 n0 c0] w0 fun e w' => ∃ v, e = .returned v ∧ LRowS w0.heap.size w' v n0 es0 ∧ Below w0.heap.size w0 w' := by
  refine enter Tryd.func12 rfl Tryd.ntmps12 rfl ?_
  intro a henv hst
  have hlen0 := h0.2.1
  have hbig0 := Nat.le_trans h0.1.cap h0.1.big
  unfold maxLen at hbig0
  replace hst := hst.argRow h0
  clear h0
  refine wp_seq ?_
  refine region_seq ?_
  refine sv (v := .slice none 0 0) henv rfl (rn_assign henv rfl) ?_
  clear henv a; intro a henv
  refine wpList_nil ?_
  refine th_n ?_
  refine wp_seq ?_
  refine region_seq ?_
  revert a
  refine mA rfl rfl ?_
  refine sA (v := .int .i64 (n0 : Nat)) rfl (fun _ henv => rn_len henv Tryd.underlying22 rfl) ?_
  refine sA (v := .int .i64 (n0 + 2 : Nat)) rfl (fun _ henv => rn_add henv rfl rfl (by rw [IntWalk.i64_in _ (by omega)]; omega)) ?_
  intro a henv
  refine seq_step rfl (op_makeC (f := fN) (e0 := (none, 0, 0)) (q := notU) (n := 0) (m := n0 + 2) henv hst rfl Tryd.underlying32 inf_anvil_integer_Int rfl rfl fN_zero rfl rfl rfl (by omega) (by omega) (by unfold maxLen; omega) ?_)
  clear henv hst a; intro a w52 g51 henv hst
  have hzl : zl 0 = 0 := zl_zero
  replace hst := hst.addNs (es_zeros (n0 + 2) _) ⟨nou_rowS, trivial⟩
  refine sv (v := .slice (some ⟨g51, 0, none⟩) 0 (n0 + 2)) henv rfl (rn_assign henv rfl) ?_
  clear henv a; intro a henv
  refine wpList_nil ?_
  refine th_n ?_
  refine wp_seq ?_
  refine wp_seq ?_
  refine region_seq ?_
  revert a
  refine mA rfl rfl ?_
  refine sA (v := .int .i64 (n0 : Nat)) rfl (fun _ henv => rn_len henv Tryd.underlying22 rfl) ?_
  refine mA rfl rfl ?_
  intro a henv
  refine wpList_nil ?_
  refine th_n ?_
  refine wp_block ?_
  refine wp_loop_ghost (fun mz a w => ∃ j : Nat, ∃ ps : List NE, n0 - j = mz ∧ Env 23 a [(10, .slice A0 n0 c0), (11, .int .i64 (n0 : Nat)), (12, .int .i64 (j : Nat)), (3, .slice (some ⟨g51, 0, none⟩) j (n0 + 2))] ∧ St w0 w [rowS notU 28 2 (some ⟨g51, 0, none⟩) (n0 + 2) (n0 + 2) (fl fN ps)] [pfRow fI FI 1 A0 n0 c0 es0, pfEs FN ps] ∧ j ≤ n0 ∧ ps.map zz = es0.take j ++ List.replicate (n0 + 2 - j) 0) _ ⟨0, (List.replicate (n0 + 2) (none, 0, 0)), rfl, henv.sub ⟨rfl, rfl, rfl, rfl, trivial⟩, hst.pick [0] [1, 0] (by decide), (Nat.zero_le _), (by rw [List.map_replicate]; rfl)⟩ ?_
  clear henv hst a
  rintro mz a w53 ⟨j, ps, rfl, henv, hst, hj, ho⟩
  refine wp_seq ?_
  refine region_seq ?_
  refine sv (v := .bool (decide (((j : Nat) : Int) < ((n0 : Nat) : Int)))) henv rfl (rn_bin henv rfl rfl rfl) ?_
  clear henv a; intro a henv
  refine wpList_nil ?_
  refine th_n ?_
  refine wp_seq ?_
  refine if_split henv rfl (fun hc54 => ?_) (fun hc54 => ?_)
  · have hlt : j < n0 := by have := of_decide_eq_true hc54; omega
    obtain ⟨x, he0⟩ : ∃ x, es0[j]? = some x := ⟨_, List.getElem?_eq_getElem (by omega)⟩
    have hx := hI.at he0
    have hpl : ps.length = n0 + 2 := map_len ho (by simp; omega)
    refine wp_skip ?_
    refine th_n ?_
    refine wp_seq ?_
    refine wp_block ?_
    refine wp_seq ?_
    refine region_seq ?_
    revert a
    refine sA (v := .pointer (some ⟨ab A0, ao A0 + j * 1, none⟩)) rfl (fun _ henv => rn_idxR (i := j) henv Tryd.underlying22 (ty_int64.size) rfl rfl (by omega) rfl (show (pfRow fI FI 1 A0 n0 c0 es0).P _ from (hst.pat (k := 0) rfl)).1) ?_
    refine sA (v := .int .i64 x) rfl (fun _ henv => rn_loadE1 (i := j) (j := 0) (e := x) henv ty_int64 rfl rfl fI_len (by decide) (show (pfRow fI FI 1 A0 n0 c0 es0).P _ from (hst.pat (k := 0) rfl)).1 (by omega) he0 rfl) ?_
    refine aA rfl rfl ?_
    intro a henv
    refine wpList_nil ?_
    refine th_n ?_
    refine region_seq ?_
    revert a
    refine mA rfl rfl ?_
    refine mA rfl rfl ?_
    intro a henv
    refine seq_step rfl (op_call henv rfl Tryd.call34 rfl (of_z (n := x) (by omega) (by omega)) ?_)
    rintro e w58 ⟨_, rfl, ⟨A55, c56, rfl, hz57⟩, hb⟩
    refine ⟨_, rfl, ?_⟩
    clear henv a; intro a henv
    replace hst := (hst.call hb).addZ hz57 ⟨nou_rowS, trivial⟩
    clear hz57
    clear hb
    refine seq_step rfl (op_buildSlice (z := 2) (pv := #[(0, .agg #[.bool (neg x), .slice A55 (zl x) c56])]) (c := #[.bool (neg x), .slice A55 (zl x) c56]) henv hst rfl Tryd.underlying32 (ty_anvil_integer_Int.size) zero_anvil_integer_Int (by decide) (by decide) rfl (by kernel_rfl) ?_)
    clear henv hst a; intro a w60 g59 henv hst
    refine seq_step rfl (op_appendIn (f := fN) (e := (A55, c56, x)) (k := 1) (j := 0) henv hst rfl Tryd.underlying32 (ty_anvil_integer_Int.size) rfl rfl rfl rfl fN_len rfl (by omega) hpl rfl rfl ?_)
    clear henv hst a; intro a w61 henv hst
    replace hst := hst.setEs (e := (A55, c56, x)) (i := 2) (j := 0) rfl rfl j
    refine sv (v := .slice (some ⟨g51, 0, none⟩) (j + 1) (n0 + 2)) henv rfl (rn_assign henv rfl) ?_
    clear henv a; intro a henv
    refine wpList_nil ?_
    refine bl_n (th_n ?_)
    refine region_seq ?_
    revert a
    refine sA (v := .int .i64 (j + 1 : Nat)) rfl (fun _ henv => rn_add henv rfl rfl (by rw [IntWalk.i64_in _ (by omega)]; omega)) ?_
    refine mA rfl rfl ?_
    intro a henv
    refine wpList_nil ?_
    exact th_n ⟨_, (by omega), ⟨j + 1, (ps.set j (A55, c56, x)), rfl, henv.sub ⟨rfl, rfl, rfl, rfl, trivial⟩, hst.pick [1] [2, 0] (by decide), (by omega), (lst_step ho he0 (by omega))⟩⟩
  · obtain rfl : n0 = j := by have := of_decide_eq_false hc54; omega
    refine wp_exit ?_
    refine th_x (th_x (bl_x (th_n ?_)))
    refine wp_seq ?_
    refine region_seq ?_
    revert a
    refine mA rfl rfl ?_
    refine aA rfl rfl ?_
    intro a henv
    refine wpList_nil ?_
    refine th_n ?_
    refine wp_ret ?_
    refine leave henv (res1 Tryd.results12 (RV.tmp henv rfl)) ?_
    rw [List.take_of_length_le (by omega)] at ho
    exact ⟨_, rfl, ⟨_, ps, rfl, hst.newRow (k := 0) (j := 1) rfl rfl, map_len ho (by simp; omega), by rw [ho, show n0 + 2 - n0 = 2 by omega]; rfl⟩, hst.below⟩
set_option maxRecDepth 100000 in
set_option maxHeartbeats 2000000 in
theorem p20_ref {A0 : Option Addr} {n0 c0 : Nat} {es0 : List Int} {w0 : World} (h0 : (pfRow fI FI 1 A0 n0 c0 es0).P w0) (hI : I64 es0) (hn : n0 ≤ 10000000) :
    Calls Tryd.prog 18 #[.slice A0 n0 c0] w0 fun e w' => ∃ v, e = .returned v ∧ MRowN w0.heap.size w' v n0 es0 ∧ Below w0.heap.size w0 w' := by
  refine enter Tryd.func18 rfl Tryd.ntmps18 rfl ?_
  intro a henv hst
  have hlen0 := h0.2.1
  have hbig0 := Nat.le_trans h0.1.cap h0.1.big
  unfold maxLen at hbig0
  replace hst := hst.argRow h0
  clear h0
  refine wp_seq ?_
  refine region_seq ?_
  refine sv (v := .slice none 0 0) henv rfl (rn_assign henv rfl) ?_
  clear henv a; intro a henv
  refine wpList_nil ?_
  refine th_n ?_
  refine wp_seq ?_
  refine region_seq ?_
  refine sv (v := .slice none 0 0) henv rfl (rn_assign henv rfl) ?_
  clear henv a; intro a henv
  refine wpList_nil ?_
  refine th_n ?_
  refine wp_seq ?_
  refine wp_seq ?_
  refine region_seq ?_
  revert a
  refine mA rfl rfl ?_
  refine sA (v := .int .i64 (n0 : Nat)) rfl (fun _ henv => rn_len henv Tryd.underlying22 rfl) ?_
  refine mA rfl rfl ?_
  intro a henv
  refine wpList_nil ?_
  refine th_n ?_
  refine wp_block ?_
  replace hst := (hst.addRowS notU 39 2).nilEs FM
  replace hst : St w0 _ [rowS notU 39 2 none 0 0 (fl fM ([]))] [pfEs FM ([]), pfRow fI FI 1 A0 n0 c0 es0] := hst
  refine wp_loop_ghost (fun mz a w => ∃ j : Nat, ∃ B : Option Addr, ∃ d : Nat, ∃ os : List NE, n0 - j = mz ∧ Env 19 a [(6, .slice A0 n0 c0), (7, .int .i64 (n0 : Nat)), (8, .int .i64 (j : Nat)), (3, .slice B j d)] ∧ St w0 w [rowS notU 39 2 B j d (fl fM os)] [pfRow fI FI 1 A0 n0 c0 es0, pfEs FM os] ∧ j ≤ n0 ∧ os.map zz = es0.take j ∧ (j = 0 → B = none)) _ ⟨0, none, 0, [], rfl, henv.sub ⟨rfl, rfl, rfl, rfl, trivial⟩, hst.pick [0] [1, 0] (by decide), (Nat.zero_le _), rfl, (fun _ => rfl)⟩ ?_
  clear henv hst a
  rintro mz a w51 ⟨j, B, d, os, rfl, henv, hst, hj, ho, hB⟩
  refine wp_seq ?_
  refine region_seq ?_
  refine sv (v := .bool (decide (((j : Nat) : Int) < ((n0 : Nat) : Int)))) henv rfl (rn_bin henv rfl rfl rfl) ?_
  clear henv a; intro a henv
  refine wpList_nil ?_
  refine th_n ?_
  refine wp_seq ?_
  refine if_split henv rfl (fun hc52 => ?_) (fun hc52 => ?_)
  · have hlt : j < n0 := by have := of_decide_eq_true hc52; omega
    obtain ⟨x, he0⟩ : ∃ x, es0[j]? = some x := ⟨_, List.getElem?_eq_getElem (by omega)⟩
    have hx := hI.at he0
    refine wp_skip ?_
    refine th_n ?_
    refine wp_seq ?_
    refine wp_block ?_
    refine wp_seq ?_
    refine region_seq ?_
    revert a
    refine sA (v := .pointer (some ⟨ab A0, ao A0 + j * 1, none⟩)) rfl (fun _ henv => rn_idxR (i := j) henv Tryd.underlying22 (ty_int64.size) rfl rfl (by omega) rfl (show (pfRow fI FI 1 A0 n0 c0 es0).P _ from (hst.pat (k := 0) rfl)).1) ?_
    refine sA (v := .int .i64 x) rfl (fun _ henv => rn_loadE1 (i := j) (j := 0) (e := x) henv ty_int64 rfl rfl fI_len (by decide) (show (pfRow fI FI 1 A0 n0 c0 es0).P _ from (hst.pat (k := 0) rfl)).1 (by omega) he0 rfl) ?_
    refine aA rfl rfl ?_
    intro a henv
    refine wpList_nil ?_
    refine th_n ?_
    refine region_seq ?_
    revert a
    refine mA rfl rfl ?_
    refine mA rfl rfl ?_
    intro a henv
    refine seq_step rfl (op_call henv rfl Tryd.call36 rfl (of_r (n := x) (by omega) (by omega)) ?_)
    rintro e w56 ⟨_, rfl, ⟨A53, c54, rfl, hz55⟩, hb⟩
    refine ⟨_, rfl, ?_⟩
    clear henv a; intro a henv
    replace hst := (hst.call hb).addR hz55 ⟨nou_rowS, trivial⟩
    clear hz55
    clear hb
    refine seq_step rfl (op_buildSlice (z := 2) (pv := #[(0, .agg #[.bool (neg x), .slice A53 (dl x) c54])]) (c := #[.bool (neg x), .slice A53 (dl x) c54]) henv hst rfl Tryd.underlying42 (ty_anvil_anvilref02_Int.size) zero_anvil_anvilref02_Int (by decide) (by decide) rfl (by kernel_rfl) ?_)
    clear henv hst a; intro a w58 g57 henv hst
    refine seq_step rfl (op_appendS (k := 1) (j := 0) henv hst rfl Tryd.underlying42 inf_anvil_anvilref02_Int rfl rfl rfl rfl rfl rfl rfl rfl rfl rfl rfl (by unfold maxLen; omega) (by omega) ?_)
    clear henv hst a; intro a w61 g59 c60 henv hst
    rw [show fl fM os ++ (#[.bool (neg x), .slice A53 (dl x) c54] : Array Value).toList = fl fM (os ++ [(A53, c54, x)]) from fl_snoc (f := fM) os (A53, c54, x)] at hst
    replace hst := hst.snocEs (e := (A53, c54, x)) (i := 2) (j := 0) rfl rfl
    refine sv (v := .slice (some ⟨g59, 0, none⟩) (j + 1) c60) henv rfl (rn_assign henv rfl) ?_
    clear henv a; intro a henv
    refine wpList_nil ?_
    refine bl_n (th_n ?_)
    refine region_seq ?_
    revert a
    refine sA (v := .int .i64 (j + 1 : Nat)) rfl (fun _ henv => rn_add henv rfl rfl (by rw [IntWalk.i64_in _ (by omega)]; omega)) ?_
    refine mA rfl rfl ?_
    intro a henv
    refine wpList_nil ?_
    exact th_n ⟨_, (by omega), ⟨j + 1, (some ⟨g59, 0, none⟩), c60, (os ++ [(A53, c54, x)]), rfl, henv.sub ⟨rfl, rfl, rfl, rfl, trivial⟩, hst.pick [1] [2, 0] (by decide), (by omega), (step_ints ho he0), (fun h => absurd h (by omega))⟩⟩
  · obtain rfl : n0 = j := by have := of_decide_eq_false hc52; omega
    refine wp_exit ?_
    refine th_x (th_x (bl_x (th_n ?_)))
    refine wp_seq ?_
    refine region_seq ?_
    revert a
    refine mA rfl rfl ?_
    refine aA rfl rfl ?_
    intro a henv
    refine wpList_nil ?_
    refine th_n ?_
    refine wp_ret ?_
    refine leave henv (res1 Tryd.results18 (RV.tmp henv rfl)) ?_
    exact ⟨_, rfl, ⟨_, _, os, rfl, hst.newRow (k := 0) (j := 1) rfl rfl, map_len ho (by rw [List.length_take]; omega), (ho.trans (List.take_of_length_le (by omega))), hB⟩, hst.below⟩
set_option maxRecDepth 100000 in
set_option maxHeartbeats 2000000 in
theorem is20_one {A B : Option Addr} {c d : Nat} {x y : Int} {w0 : World} (hx : ZIn w0 A c x) (hy : RIn w0 B d y) (hn : zl x ≤ 20000) (hm : dl y ≤ 60000) :
    Calls Tryd.prog 60 #[.agg #[.bool (neg x), .slice A (zl x) c], .agg #[.bool (neg y), .slice B (dl y) d]] w0 fun e w' => e = .returned (.bool (decide (x = y))) ∧ Below w0.heap.size w0 w' := by
  refine enter Tryd.func60 rfl Tryd.ntmps60 rfl ?_
  intro a henv hst
  replace hst := (hst.addZ hx trivial).addR hy trivial
  clear hx hy
  refine wp_seq ?_
  refine region_seq ?_
  refine seq_step rfl (op_box (c := #[.bool (neg x), .slice A (zl x) c]) henv hst rfl rfl rfl ?_)
  clear henv hst a; intro a w52 g51 henv hst
  refine seq_step rfl (op_box (c := #[.bool (neg y), .slice B (dl y) d]) henv hst rfl rfl rfl ?_)
  clear henv hst a; intro a w54 g53 henv hst
  refine sv (v := .bool false) henv rfl (rn_assign henv rfl) ?_
  clear henv a; intro a henv
  refine wpList_nil ?_
  refine th_n ?_
  refine wp_seq ?_
  refine region_any (n := 6) (Sk [bk g53 #[.bool (neg y), .slice B (dl y) d] 39, bk g51 #[.bool (neg x), .slice A (zl x) c] 28] [pfR B d y, pfZ A c x] [] []) mixed rfl henv hst ?_
  clear henv hst; intro w55 henv hst
  refine tL (i := 0) 1 1 [1, 3, 4, 5] rfl (by kernel_rfl) (fun _ _ _ h => h) henv rfl ty_anvil_integer_Int rfl hst rfl rfl rfl ?_
  clear henv a; intro a henv
  refine tL (i := 2) 0 0 [3, 4, 5] rfl (by kernel_rfl) (fun _ _ _ h => h) henv rfl ty_anvil_anvilref02_Int rfl hst rfl rfl rfl ?_
  clear henv a; intro a henv
  refine sAny_one (i := 1) (by kernel_rfl) rfl rfl (op_call henv rfl Tryd.call15 rfl (text_z (z := x) (show ZIn _ A c x from hst.pat (k := 1) rfl) (by omega)) ?_)
  rintro e w56 ⟨rfl, hb⟩
  refine ⟨_, rfl, ?_⟩
  clear henv a; intro a henv
  replace hst := hst.call hb
  clear hb
  refine ⟨.inr ⟨hst.kn.pick [0, 1] [0, 1], .inr (hst.kn.pick [] [])⟩, ?_⟩
  refine sAny_one (i := 3) (by kernel_rfl) rfl rfl (op_call henv rfl Tryd.call16 rfl (text_r (z := y) (show RIn _ B d y from hst.pat (k := 0) rfl) (by omega)) ?_)
  rintro e w57 ⟨rfl, hb⟩
  refine ⟨_, rfl, ?_⟩
  clear henv a; intro a henv
  replace hst := hst.call hb
  clear hb
  refine ⟨.inr ⟨hst.kn.pick [0, 1] [0, 1], .inr (hst.kn.pick [] [])⟩, ?_⟩
  refine tA (i := 4) [5] (v := .bool (decide ((textZ x) = (textZ y)))) rfl (by kernel_rfl) (fun _ _ _ h => h) henv rfl (fun _ => rn_eqls (s := (textZ x)) (t := (textZ y)) henv rfl rfl) ?_
  clear henv a; intro a henv
  refine tA (i := 5) [] (v := .bool (decide ((textZ x) = (textZ y)))) rfl (by kernel_rfl) (fun _ _ _ h => h) henv rfl (fun _ => rn_assign henv rfl) ?_
  clear henv a; intro a henv
  refine sAny_done (by kernel_rfl) ?_ _
  refine th_n ?_
  refine wp_ret ?_
  refine leave henv (res1 Tryd.results60 (RV.tmp henv rfl)) ?_
  exact ⟨congrArg (fun b => Ending.returned (Value.bool b)) (decide_eq_decide.2 tz_iff), hst.below⟩
set_option maxRecDepth 100000 in
set_option maxHeartbeats 2000000 in
theorem eq20_func {A0 A1 : Option Addr} {n0 n1 c0 c1 : Nat} {es0 es1 : List NE} {xs ys : List Int} {w0 : World} (h0 : (pfRow fN FN 2 A0 n0 c0 es0).P w0) (hz0 : es0.map zz = xs) (h1 : (pfRow fM FM 2 A1 n1 c1 es1).P w0) (hz1 : es1.map zz = ys) (hk0 : Zk 20000 xs) (hk1 : Zk 20000 ys) :
    Calls Tryd.prog 59 #[.slice A0 n0 c0, .slice A1 n1 c1, .func (.func 60) #[] #[]] w0 fun e w' => e = .returned (.bool (decide (xs = ys))) ∧ Below w0.heap.size w0 w' := by
  have hb0 := hk0.es hz0
  have hb1 := hk1.es hz1
  refine enter Tryd.func59 rfl Tryd.ntmps59 rfl ?_
  intro a henv hst
  have hlen0 := h0.2.1
  have hlen1 := h1.2.1
  have hbig0 := Nat.le_trans h0.1.cap h0.1.big
  unfold maxLen at hbig0
  replace hst := (hst.argRow h1).argRow h0
  clear h0 h1
  refine wp_seq ?_
  refine region_seq ?_
  refine sv (v := .bool false) henv rfl (rn_assign henv rfl) ?_
  clear henv a; intro a henv
  refine wpList_nil ?_
  refine th_n ?_
  refine wp_seq ?_
  refine wp_seq ?_
  refine region_seq ?_
  revert a
  refine mA rfl rfl ?_
  refine sA (v := .int .i64 (n0 : Nat)) rfl (fun _ henv => rn_len henv Tryd.underlying32 rfl) ?_
  refine mA rfl rfl ?_
  refine sA (v := .int .i64 (n1 : Nat)) rfl (fun _ henv => rn_len henv Tryd.underlying42 rfl) ?_
  refine sA (v := .bool (((n0 : Nat) : Int) != ((n1 : Nat) : Int))) rfl (fun _ henv => rn_bin henv rfl rfl rfl) ?_
  intro a henv
  refine wpList_nil ?_
  refine th_n ?_
  refine if_split henv rfl (fun hc51 => ?_) (fun hc51 => ?_)
  · have hne : n0 ≠ n1 := by have := hc51; simp at this; omega
    refine wp_seq ?_
    refine region_seq ?_
    refine sv (v := .bool false) henv rfl (rn_assign henv rfl) ?_
    clear henv a; intro a henv
    refine wpList_nil ?_
    refine th_n ?_
    refine wp_ret ?_
    refine th_r ?_
    refine leave henv (res1 Tryd.results59 (RV.tmp henv rfl)) ?_
    first | exact ⟨by rw [decide_eq_false (eq_ne hz0 hlen0 hz1 hlen1 hne)], hst.below⟩ | exact ⟨by rw [decide_eq_false (eq_at hz0 hz1 he0 he1 hxy)], hst.below⟩
  · have hnn : n0 = n1 := by have := hc51; simp at this; omega
    refine wp_skip ?_
    refine th_n ?_
    refine wp_seq ?_
    refine wp_seq ?_
    refine region_seq ?_
    revert a
    refine mA rfl rfl ?_
    refine sA (v := .int .i64 (n0 : Nat)) rfl (fun _ henv => rn_len henv Tryd.underlying32 rfl) ?_
    refine mA rfl rfl ?_
    intro a henv
    refine wpList_nil ?_
    refine th_n ?_
    refine wp_block ?_
    refine wp_loop_ghost (fun mz a w => ∃ j : Nat, n0 - j = mz ∧ Env 32 a [(1, .slice A1 n1 c1), (2, .func (.func 60) #[] #[]), (15, .slice A0 n0 c0), (16, .int .i64 (n0 : Nat)), (17, .int .i64 (j : Nat))] ∧ St w0 w [] [pfRow fN FN 2 A0 n0 c0 es0, pfRow fM FM 2 A1 n1 c1 es1] ∧ j ≤ n0 ∧ xs.take j = ys.take j) _ ⟨0, rfl, henv.sub ⟨rfl, rfl, rfl, rfl, rfl, trivial⟩, hst.pick [] [0, 1] (by decide), (Nat.zero_le _), rfl⟩ ?_
    clear henv hst a
    rintro mz a w52 ⟨j, rfl, henv, hst, hj, he⟩
    refine wp_seq ?_
    refine region_seq ?_
    refine sv (v := .bool (decide (((j : Nat) : Int) < ((n0 : Nat) : Int)))) henv rfl (rn_bin henv rfl rfl rfl) ?_
    clear henv a; intro a henv
    refine wpList_nil ?_
    refine th_n ?_
    refine wp_seq ?_
    refine if_split henv rfl (fun hc53 => ?_) (fun hc53 => ?_)
    · have hlt : j < n0 := by have := of_decide_eq_true hc53; omega
      obtain ⟨⟨A, c, x⟩, he0⟩ : ∃ e, es0[j]? = some e := ⟨_, List.getElem?_eq_getElem (by omega)⟩
      replace hst := hst.elem (k := 0) rfl he0
      replace hst : St w0 _ [] [pfZ A c x, pfRow fN FN 2 A0 n0 c0 es0, pfRow fM FM 2 A1 n1 c1 es1] := hst
      obtain ⟨⟨C, d, y⟩, he1⟩ : ∃ e, es1[j]? = some e := ⟨_, List.getElem?_eq_getElem (by omega)⟩
      replace hst := hst.elem (k := 2) rfl he1
      replace hst : St w0 _ [] [pfR C d y, pfZ A c x, pfRow fN FN 2 A0 n0 c0 es0, pfRow fM FM 2 A1 n1 c1 es1] := hst
      have hx1 := hb0.at he0
      have hy1 := hb1.at he1
      have hdy := dl_zl y
      refine wp_skip ?_
      refine th_n ?_
      refine wp_seq ?_
      refine wp_block ?_
      refine wp_seq ?_
      refine region_seq ?_
      revert a
      refine mA rfl rfl ?_
      refine sA (v := .pointer (some ⟨ab A0, ao A0 + j * 2, none⟩)) rfl (fun _ henv => rn_idxR (i := j) henv Tryd.underlying32 (ty_anvil_integer_Int.size) rfl rfl (by omega) rfl (show (pfRow fN FN 2 A0 n0 c0 es0).P _ from (hst.pat (k := 2) rfl)).1) ?_
      refine sA (v := .agg #[.bool (neg x), .slice A (zl x) c]) rfl (fun _ henv => rn_loadE (i := j) (e := (A, c, x)) henv ty_anvil_integer_Int rfl rfl fN_len (show (pfRow fN FN 2 A0 n0 c0 es0).P _ from (hst.pat (k := 2) rfl)).1 (by omega) he0 rfl) ?_
      intro a henv
      refine seq_step rfl (op_alloc (c := #[.bool (neg 0), .slice none (zl 0) 0]) henv hst rfl zero_anvil_integer_Int zcells ?_)
      clear henv hst a; intro a w55 g54 henv hst
      refine sv (v := .int .i64 (j : Nat)) henv rfl (rn_assign henv rfl) ?_
      clear henv a; intro a henv
      refine seq_step rfl (op_store (k := 0) (c' := #[.bool (neg x), .slice A (zl x) c]) henv hst (ty_anvil_integer_Int.size) rfl rfl rfl rfl (by simp) rfl rfl ?_)
      clear henv hst a; intro a w56 henv hst
      refine wpList_nil ?_
      refine th_n ?_
      refine wp_seq ?_
      refine region_seq ?_
      revert a
      refine mA rfl rfl ?_
      refine mA rfl rfl ?_
      refine sA (v := .pointer (some ⟨ab A1, ao A1 + j * 2, none⟩)) rfl (fun _ henv => rn_idxR (i := j) henv Tryd.underlying42 (ty_anvil_anvilref02_Int.size) rfl rfl (by omega) rfl (show (pfRow fM FM 2 A1 n1 c1 es1).P _ from (hst.pat (k := 3) rfl)).1) ?_
      refine sA (v := .agg #[.bool (neg y), .slice C (dl y) d]) rfl (fun _ henv => rn_loadE (i := j) (e := (C, d, y)) henv ty_anvil_anvilref02_Int rfl rfl fM_len (show (pfRow fM FM 2 A1 n1 c1 es1).P _ from (hst.pat (k := 3) rfl)).1 (by omega) he1 rfl) ?_
      intro a henv
      refine seq_step rfl (op_alloc (c := #[.bool (neg 0), .slice none (dl 0) 0]) henv hst rfl zero_anvil_anvilref02_Int rcells ?_)
      clear henv hst a; intro a w58 g57 henv hst
      refine seq_step rfl (op_store (k := 0) (c' := #[.bool (neg y), .slice C (dl y) d]) henv hst (ty_anvil_anvilref02_Int.size) rfl rfl rfl rfl (by simp) rfl rfl ?_)
      clear henv hst a; intro a w59 henv hst
      refine wpList_nil ?_
      refine th_n ?_
      refine wp_seq ?_
      refine region_seq ?_
      revert a
      refine mA rfl rfl ?_
      refine sA (v := .agg #[.bool (neg x), .slice A (zl x) c]) rfl (fun _ henv => rn_load0 henv ty_anvil_integer_Int rfl (hst.oat (k := 1) rfl) rfl) ?_
      refine sA (v := .agg #[.bool (neg y), .slice C (dl y) d]) rfl (fun _ henv => rn_load0 henv ty_anvil_anvilref02_Int rfl (hst.oat (k := 0) rfl) rfl) ?_
      intro a henv
      refine seq_step rfl (op_callc (vs := #[.agg #[.bool (neg x), .slice A (zl x) c], .agg #[.bool (neg y), .slice C (dl y) d]]) henv rfl Tryd.call60 rfl rfl (calls_app (by simp) (is20_one (x := x) (y := y) (show ZIn _ A c x from hst.pat (k := 1) rfl) (show RIn _ C d y from hst.pat (k := 0) rfl) (by omega) (by omega))) ?_)
      rintro e w60 ⟨rfl, hb⟩
      refine ⟨_, rfl, ?_⟩
      clear henv a; intro a henv
      replace hst := hst.call hb
      clear hb
      refine sv (v := .bool (!(decide (x = y)))) henv rfl (rn_un henv rfl rfl) ?_
      clear henv a; intro a henv
      refine wpList_nil ?_
      refine th_n ?_
      refine if_split henv rfl (fun hc61 => ?_) (fun hc61 => ?_)
      · have hxy : ¬ x = y := by have := hc61; simpa using this
        refine wp_seq ?_
        refine region_seq ?_
        refine sv (v := .bool false) henv rfl (rn_assign henv rfl) ?_
        clear henv a; intro a henv
        refine wpList_nil ?_
        refine th_n ?_
        refine wp_ret ?_
        refine bl_r (th_r (th_r (bl_r (th_r ?_))))
        refine leave henv (res1 Tryd.results59 (RV.tmp henv rfl)) ?_
        first | exact ⟨by rw [decide_eq_false (eq_ne hz0 hlen0 hz1 hlen1 hne)], hst.below⟩ | exact ⟨by rw [decide_eq_false (eq_at hz0 hz1 he0 he1 hxy)], hst.below⟩
      · have hxy : x = y := by have := hc61; simpa using this
        refine wp_skip ?_
        refine bl_n (th_n ?_)
        refine region_seq ?_
        revert a
        refine sA (v := .int .i64 (j + 1 : Nat)) rfl (fun _ henv => rn_add henv rfl rfl (by rw [IntWalk.i64_in _ (by omega)]; omega)) ?_
        refine mA rfl rfl ?_
        intro a henv
        refine wpList_nil ?_
        exact th_n ⟨_, (by omega), ⟨j + 1, rfl, henv.sub ⟨rfl, rfl, rfl, rfl, rfl, trivial⟩, hst.pick [] [2, 3] (by decide), (by omega), (by rw [zts hz0 he0, zts hz1 he1, he, hxy])⟩⟩
    · have hjn : j = n0 := by have := of_decide_eq_false hc53; omega
      refine wp_exit ?_
      refine th_x (th_x (bl_x (th_n ?_)))
      refine wp_seq ?_
      refine region_seq ?_
      refine sv (v := .bool true) henv rfl (rn_assign henv rfl) ?_
      clear henv a; intro a henv
      refine wpList_nil ?_
      refine th_n ?_
      refine wp_ret ?_
      refine leave henv (res1 Tryd.results59 (RV.tmp henv rfl)) ?_
      have hall : xs = ys := eq_full hz0 hlen0 hz1 hlen1 (hnn ▸ rfl) (hjn ▸ he)
      exact ⟨by rw [decide_eq_true hall], hst.below⟩
set_option maxRecDepth 100000 in
set_option maxHeartbeats 2000000 in
theorem p20_is {A0 A1 : Option Addr} {n0 n1 c0 c1 : Nat} {es0 es1 : List NE} {xs ys : List Int} {w0 : World} (h0 : (pfRow fN FN 2 A0 n0 c0 es0).P w0) (hz0 : es0.map zz = xs) (h1 : (pfRow fM FM 2 A1 n1 c1 es1).P w0) (hz1 : es1.map zz = ys) (hk0 : Zk 20000 xs) (hk1 : Zk 20000 ys) (hnil : n0 = 0 → A0 = none) :
    Calls Tryd.prog 26 #[.slice A0 n0 c0, .slice A1 n1 c1] w0 fun e w' => e = .returned (.bool (decide (xs = ys))) ∧ Below w0.heap.size w0 w' := by
  refine enter Tryd.func26 rfl Tryd.ntmps26 rfl ?_
  intro a henv hst
  have hlen0 := h0.2.1
  have hlen1 := h1.2.1
  have hbig0 := Nat.le_trans h0.1.cap h0.1.big
  unfold maxLen at hbig0
  replace hst := (hst.argRow h1).argRow h0
  clear h0 h1
  refine wp_seq ?_
  refine region_seq ?_
  refine sv (v := .bool false) henv rfl (rn_assign henv rfl) ?_
  clear henv a; intro a henv
  refine wpList_nil ?_
  refine th_n ?_
  refine wp_seq ?_
  refine region_seq ?_
  revert a
  refine mA rfl rfl ?_
  refine mA rfl rfl ?_
  intro a henv
  refine seq_step rfl (op_call henv rfl Tryd.call59 rfl (eq20_func (hst.pat (k := 0) rfl) hz0 (hst.pat (k := 1) rfl) hz1 hk0 hk1) ?_)
  rintro e w51 ⟨rfl, hb⟩
  refine ⟨_, rfl, ?_⟩
  clear henv a; intro a henv
  replace hst := hst.call hb
  clear hb
  refine sv (v := .bool (decide (xs = ys))) henv rfl (rn_move henv rfl) ?_
  clear henv a; intro a henv
  rcases bool_em (decide (xs = ys)) with hg52 | hg52
  · rw [hg52] at henv
    revert a
    refine gA (v := .slice A0 n0 c0) rfl rfl rfl rfl (fun _ henv => rn_move henv rfl) ?_
    refine gA (v := .bool A0.isNone) rfl rfl rfl rfl (fun _ henv => rn_nilS henv Tryd.underlying32 rfl) ?_
    refine gA (v := .slice A0 n0 c0) rfl rfl rfl rfl (fun _ henv => rn_move henv rfl) ?_
    refine gA (v := .int .i64 (n0 : Nat)) rfl rfl rfl rfl (fun _ henv => rn_len henv Tryd.underlying32 rfl) ?_
    refine gA (v := .bool (((n0 : Nat) : Int) == (0 : Int))) rfl rfl rfl rfl (fun _ henv => rn_bin henv rfl rfl rfl) ?_
    refine gA (v := .bool (A0.isNone == (((n0 : Nat) : Int) == (0 : Int)))) rfl rfl rfl rfl (fun _ henv => rn_eqlb henv Tryd.underlying4 rfl rfl) ?_
    intro a henv
    rw [show (A0.isNone == (((n0 : Nat) : Int) == (0 : Int))) = true from (nil_eq hnil (row_none (hst.pat (k := 0) rfl)))] at henv
    revert a
    refine sA (v := .bool true) rfl (fun _ henv => rn_pick henv rfl rfl) ?_
    refine aA rfl rfl ?_
    intro a henv
    refine wpList_nil ?_
    refine th_n ?_
    refine wp_ret ?_
    refine leave henv (res1 Tryd.results26 (RV.tmp henv rfl)) ?_
    exact ⟨by rw [hg52], hst.below⟩
  · rw [hg52] at henv
    revert a
    refine kA rfl rfl rfl rfl rfl ?_
    refine kA rfl rfl rfl rfl rfl ?_
    refine kA rfl rfl rfl rfl rfl ?_
    refine kA rfl rfl rfl rfl rfl ?_
    refine kA rfl rfl rfl rfl rfl ?_
    refine kA rfl rfl rfl rfl rfl ?_
    refine sA (v := .bool false) rfl (fun _ henv => rn_pick henv rfl rfl) ?_
    refine aA rfl rfl ?_
    intro a henv
    refine wpList_nil ?_
    refine th_n ?_
    refine wp_ret ?_
    refine leave henv (res1 Tryd.results26 (RV.tmp henv rfl)) ?_
    exact ⟨by rw [hg52], hst.below⟩
set_option maxRecDepth 100000 in
set_option maxHeartbeats 2000000 in
theorem p_text {A0 : Option Addr} {n0 c0 : Nat} {es0 : List NE} {xs : List Int} {w0 : World} (h0 : (pfRow fN FN 2 A0 n0 c0 es0).P w0) (hz0 : es0.map zz = xs) (hk : Zk 90000 xs) (hn : n0 ≤ 1000000) :
    Calls Tryd.prog 45 #[.slice A0 n0 c0] w0 fun e w' => e = .returned (.string ⟨(textRow xs).toArray⟩) ∧ Below w0.heap.size w0 w' := by
  refine enter Tryd.func45 rfl Tryd.ntmps45 rfl ?_
  intro a henv hst
  have hlen0 := h0.2.1
  have hbig0 := Nat.le_trans h0.1.cap h0.1.big
  unfold maxLen at hbig0
  replace hst := hst.argRow h0
  clear h0
  refine wp_seq ?_
  refine region_seq ?_
  refine sv (v := .string ⟨#[]⟩) henv rfl (rn_assign henv rfl) ?_
  clear henv a; intro a henv
  refine wpList_nil ?_
  refine th_n ?_
  refine wp_seq ?_
  refine region_seq ?_
  refine sv (v := .slice A0 n0 c0) henv rfl (rn_move henv rfl) ?_
  clear henv a; intro a henv
  refine seq_step rfl (op_call henv rfl Tryd.call79 rfl (row_text' (hst.pat (k := 0) rfl) hz0 hk hn) ?_)
  rintro e w51 ⟨rfl, hb⟩
  refine ⟨_, rfl, ?_⟩
  clear henv a; intro a henv
  replace hst := hst.call hb
  clear hb
  refine sv (v := .string ⟨(textRow xs).toArray⟩) henv rfl (rn_assign henv rfl) ?_
  clear henv a; intro a henv
  refine wpList_nil ?_
  refine th_n ?_
  refine wp_ret ?_
  refine leave henv (res1 Tryd.results45 (RV.tmp henv rfl)) ?_
  exact ⟨rfl, hst.below⟩
set_option maxRecDepth 100000 in
set_option maxHeartbeats 4000000 in
theorem p20_works {w0 : World} :
    Calls Tryd.prog 10 #[] w0 fun e w' => e = .returned (.bool true) ∧ Below w0.heap.size w0 w' := by
  refine enter Tryd.func10 rfl Tryd.ntmps10 rfl ?_
  intro a henv hst
  refine wp_seq ?_
  refine region_seq ?_
  refine sv (v := .bool false) henv rfl (rn_assign henv rfl) ?_
  clear henv a; intro a henv
  refine wpList_nil ?_
  refine th_n ?_
  refine wp_seq ?_
  refine region_seq ?_
  refine seq_step rfl (op_buildSlice (z := 1) (pv := #[(0, .int .i64 1), (1, .int .i64 2)]) (c := #[.int .i64 1, .int .i64 2]) henv hst rfl Tryd.underlying22 (ty_int64.size) zero_int64 (by decide) (by decide) rfl (by kernel_rfl) ?_)
  clear henv hst a; intro a w52 g51 henv hst
  replace hst := hst.giveBk (f := fI) (F := FI) (k := 0) (n := 2) (es := [1, 2]) rfl rfl fI_len rfl (by decide) (esT_P (fun _ => rfl) _ _) (fun _ _ _ _ => esT_foot (fun _ => rfl))
  refine seq_step rfl (op_call henv rfl Tryd.call12 rfl (p20_list (es0 := [1, 2]) (hst.pat (k := 0) rfl) (by unfold I64; decide) (by omega)) ?_)
  rintro e w60 ⟨_, rfl, ⟨g53, ps54, rfl, hr, hl55, hz56⟩, hb⟩
  refine ⟨_, rfl, ?_⟩
  clear henv a; intro a henv
  replace hst := hst.freshRd hb hr hl55 (ap_N hr.2.1 trivial)
  clear hr
  obtain ⟨es57, hst, hl58, hz59⟩ := hst.listRow (k := 0) (n := 2) rfl hz56 (rfl)
  clear hb
  refine seq_step rfl (op_buildSlice (z := 1) (pv := #[(0, .int .i64 3), (1, .int .i64 4), (2, .int .i64 5)]) (c := #[.int .i64 3, .int .i64 4, .int .i64 5]) henv hst rfl Tryd.underlying22 (ty_int64.size) zero_int64 (by decide) (by decide) rfl (by kernel_rfl) ?_)
  clear henv hst a; intro a w62 g61 henv hst
  replace hst := hst.giveBk (f := fI) (F := FI) (k := 0) (n := 3) (es := [3, 4, 5]) rfl rfl fI_len rfl (by decide) (esT_P (fun _ => rfl) _ _) (fun _ _ _ _ => esT_foot (fun _ => rfl))
  refine seq_step rfl (op_call henv rfl Tryd.call12 rfl (p20_list (es0 := [3, 4, 5]) (hst.pat (k := 0) rfl) (by unfold I64; decide) (by omega)) ?_)
  rintro e w70 ⟨_, rfl, ⟨g63, ps64, rfl, hr, hl65, hz66⟩, hb⟩
  refine ⟨_, rfl, ?_⟩
  clear henv a; intro a henv
  replace hst := hst.freshRd hb hr hl65 (ap_N hr.2.1 trivial)
  clear hr
  obtain ⟨es67, hst, hl68, hz69⟩ := hst.listRow (k := 0) (n := 3) rfl hz66 (rfl)
  clear hb
  refine seq_step rfl (op_call henv rfl Tryd.call24 rfl (p_mul (xs := [1, 2]) (ys := [3, 4, 5]) (hst.pat (k := 4) rfl) hz59 (hst.pat (k := 0) rfl) hz69 (zk_small (by decide)) (zk_small (by decide)) (by decide) (by decide) (by decide) (by decide)) ?_)
  rintro e w76 ⟨_, rfl, ⟨A71, c72, es73, rfl, hr, hl74, hz75⟩, hb⟩
  refine ⟨_, rfl, ?_⟩
  clear henv a; intro a henv
  replace hst := hst.freshRd hb hr hl74 (ap_N hr.2.1 trivial)
  clear hr
  clear hb
  revert a
  refine mA rfl rfl ?_
  refine sA (v := .slice A71 4 c72) rfl (fun _ henv => rn_extract henv rfl rfl) ?_
  refine sA (v := .int .i64 6) rfl (fun _ henv => rn_extract henv rfl rfl) ?_
  refine aA rfl rfl ?_
  refine aA rfl rfl ?_
  intro a henv
  refine wpList_nil ?_
  refine th_n ?_
  refine wp_seq ?_
  refine region_seq ?_
  revert a
  refine mA rfl rfl ?_
  refine sA (v := .bool true) rfl (fun _ henv => rn_bin henv rfl rfl rfl) ?_
  refine mA rfl rfl ?_
  refine gA (v := .slice A71 4 c72) rfl rfl rfl rfl (fun _ henv => rn_move henv rfl) ?_
  intro a henv
  refine seq_g rfl henv rfl rfl (op_buildSlice (z := 1) (pv := #[(0, .int .i64 3), (1, .int .i64 10), (2, .int .i64 13), (3, .int .i64 10)]) (c := #[.int .i64 3, .int .i64 10, .int .i64 13, .int .i64 10]) henv hst rfl Tryd.underlying22 (ty_int64.size) zero_int64 (by decide) (by decide) rfl (by kernel_rfl) ?_)
  clear henv hst a; intro a w78 g77 henv hst
  replace hst := hst.giveBk (f := fI) (F := FI) (k := 0) (n := 4) (es := [3, 10, 13, 10]) rfl rfl fI_len rfl (by decide) (esT_P (fun _ => rfl) _ _) (fun _ _ _ _ => esT_foot (fun _ => rfl))
  refine seq_g rfl henv rfl rfl (op_call henv rfl Tryd.call18 rfl (p20_ref (es0 := [3, 10, 13, 10]) (hst.pat (k := 0) rfl) (by unfold I64; decide) (by omega)) ?_)
  rintro e w85 ⟨_, rfl, ⟨A79, c80, es81, rfl, hr, hl82, hz83, hn84⟩, hb⟩
  refine ⟨_, rfl, ?_⟩
  clear henv a; intro a henv
  replace hst := hst.freshRd hb hr hl82 (ap_M hr.2.1 trivial)
  clear hr
  clear hb
  refine seq_g rfl henv rfl rfl (op_call henv rfl Tryd.call26 rfl (p20_is (xs := [3, 10, 13, 10]) (ys := [3, 10, 13, 10]) (hst.pat (k := 3) rfl) (hz75.trans (show _ = [3, 10, 13, 10] by decide)) (hst.pat (k := 0) rfl) hz83 (zk_small (by decide)) (zk_small (by decide)) (fun h => absurd h (by decide))) ?_)
  rintro e w86 ⟨rfl, hb⟩
  refine ⟨_, rfl, ?_⟩
  clear henv a; intro a henv
  replace hst := hst.call hb
  clear hb
  rw [show (decide (([3, 10, 13, 10] : List Int) = [3, 10, 13, 10])) = true from (decide_eq_true rfl)] at henv
  revert a
  refine sA (v := .bool true) rfl (fun _ henv => rn_pick henv rfl rfl) ?_
  refine mA rfl rfl ?_
  refine gA (v := .slice A71 4 c72) rfl rfl rfl rfl (fun _ henv => rn_move henv rfl) ?_
  intro a henv
  refine seq_g rfl henv rfl rfl (op_call henv rfl Tryd.call45 rfl (p_text (xs := [3, 10, 13, 10]) (hst.pat (k := 3) rfl) (hz75.trans (show _ = [3, 10, 13, 10] by decide)) (zk_small (by decide)) (by omega)) ?_)
  rintro e w87 ⟨rfl, hb⟩
  refine ⟨_, rfl, ?_⟩
  clear henv a; intro a henv
  replace hst := hst.call hb
  clear hb
  refine seq_g rfl henv rfl rfl (op_val (v := .bool (decide ((textRow ([3, 10, 13, 10])) = [91, 51, 32, 49, 48, 32, 49, 51, 32, 49, 48, 93]))) henv rfl (rn_eqls (s := (textRow ([3, 10, 13, 10]))) (t := [91, 51, 32, 49, 48, 32, 49, 51, 32, 49, 48, 93]) henv rfl rfl) ?_)
  clear henv a; intro a henv
  rw [show (decide ((textRow ([3, 10, 13, 10])) = [91, 51, 32, 49, 48, 32, 49, 51, 32, 49, 48, 93])) = true from (decide_eq_true (by decide +kernel))] at henv
  revert a
  refine sA (v := .bool true) rfl (fun _ henv => rn_pick henv rfl rfl) ?_
  refine mA rfl rfl ?_
  refine gA (v := .slice A71 4 c72) rfl rfl rfl rfl (fun _ henv => rn_move henv rfl) ?_
  intro a henv
  refine seq_g rfl henv rfl rfl (op_call henv rfl Tryd.call23 rfl (p_deg (xs := [3, 10, 13, 10]) (hst.pat (k := 3) rfl) (hz75.trans (show _ = [3, 10, 13, 10] by decide)) (by omega)) ?_)
  rintro e w88 ⟨rfl, hb⟩
  refine ⟨_, rfl, ?_⟩
  clear henv a; intro a henv
  replace hst := hst.call hb
  clear hb
  revert a
  refine gA (v := .bool true) rfl rfl rfl rfl (fun _ henv => rn_bin henv rfl rfl rfl) ?_
  refine sA (v := .bool true) rfl (fun _ henv => rn_pick henv rfl rfl) ?_
  refine aA rfl rfl ?_
  intro a henv
  refine wpList_nil ?_
  refine th_n ?_
  refine wp_ret ?_
  refine leave henv (res1 Tryd.results10 (RV.tmp henv rfl)) ?_
  exact ⟨rfl, hst.below⟩
end Go.Proofs.YtghaenkacjgdnaaDoor.W

/- PolyTexts, PolyBack: the laws' walks. Printed by pv/gen_po2.py. No condition. -/
namespace Go.Proofs.YtghaenkacjgdnaaDoor.W
open Go.RowKit Anv Go.Lib
theorem i64_zk {xs : List Int} (h : I64 xs) : Zk 2 xs := fun z hz => nl_le_of_lt (by have := h z hz; show z.natAbs < _; omega)
theorem text_i64 {xs : List Int} (h : I64 xs) (hn : xs.length ≤ 300) : (textRow xs).length ≤ 7000 := by
  have main : ∀ l : List Int, (∀ z ∈ l, zl z ≤ 2) → (l.map fun z => (textZ z).length + 1).sum ≤ 23 * l.length := by
    intro l
    induction l with
    | nil => intro _; simp
    | cons z l ih =>
      intro hl
      have h1 := ih fun x hx => hl x (List.mem_cons_of_mem _ hx)
      have h2 := textZ_bd z
      have h3 := hl z (List.mem_cons_self ..)
      simp only [List.map_cons, List.sum_cons, List.length_cons]
      omega
  have h1 := main xs (i64_zk h)
  have h2 := (text_flat xs).1
  omega
end Go.Proofs.YtghaenkacjgdnaaDoor.W

/- point.In, poly.At, the reference's; PolyAts. Printed by pv/gen_po3.py. No condition. -/
namespace Go.Proofs.YtghaenkacjgdnaaDoor.W
open Go.RowKit Anv Go.Lib
theorem zl_16 {b : Int} (h : I16 b) : zl b ≤ 1 := nl_le_of_lt (by unfold I16 at h; show b.natAbs < _; omega)
theorem zl_p16 {b : Int} (h : I16 b) (n : Nat) : zl (b ^ n) ≤ n + 1 := by
  have h1 := zl_pow b n
  have h2 := Nat.mul_le_mul_left n (zl_16 h)
  omega
theorem hval_sz {a b : Int} {k : Nat} (ha : I16 a) (hb : I16 b) : ∀ {xs : List Int}, Zk k xs → zl (hval a b xs) ≤ k + 2 + 3 * xs.length
  | [], _ => by rw [hval, zl_zero]; omega
  | x :: xs, h => by
    have h1 := hval_sz ha hb (xs := xs) fun z hz => h z (List.mem_cons_of_mem _ hz)
    have h2 := zl_addm (hval a b xs * a) (x * b ^ xs.length)
    have h3 := zl_mul (hval a b xs) a
    have h4 := zl_mul x (b ^ xs.length)
    have h5 := zl_16 ha
    have h6 := zl_p16 hb xs.length
    have h7 := h x (List.mem_cons_self ..)
    rw [hval, List.length_cons]
    omega
theorem Zk.drop {k : Nat} {zs : List Int} (h : Zk k zs) (j : Nat) : Zk k (zs.drop j) := fun z hz => h z (List.mem_of_mem_drop hz)
theorem hval_last {a b : Int} {xs : List Int} {x : Int} (h : xs[xs.length - 1]? = some x) : hval a b (xs.drop (xs.length - 1)) = x := by
  have h1 : xs.length - 1 < xs.length := (List.getElem?_eq_some_iff.1 h).1
  rw [hv_drop a b h, List.drop_eq_nil_of_le (by omega), hval, Int.zero_mul, Nat.sub_self, Int.pow_zero, Int.mul_one, Int.zero_add]
theorem hval_step {a b v p x : Int} {xs : List Int} {n j : Nat} (hv : v = hval a b (xs.drop (j + 1))) (hp : p = b ^ (n - 1 - (j + 1))) (hl : xs.length = n) (hx : xs[j]? = some x) (hj : j + 1 ≤ n - 1) : v * a + x * (p * b) = hval a b (xs.drop j) := by
  rw [hv_drop a b hx, ← hv, hp, ← Int.pow_succ, hl, show (n - 1 - (j + 1)).succ = n - 1 - j by omega]
set_option maxRecDepth 100000 in
set_option maxHeartbeats 2000000 in
theorem pt_within {n : Int} {w0 : World} :
    Calls Tryd.prog 73 #[.int .i64 n] w0 fun e w' => e = .returned (.bool (decide (I16 n))) ∧ Below w0.heap.size w0 w' := by
  refine enter Tryd.func73 rfl Tryd.ntmps73 rfl ?_
  intro a henv hst
  refine wp_seq ?_
  refine region_seq ?_
  refine sv (v := .bool false) henv rfl (rn_assign henv rfl) ?_
  clear henv a; intro a henv
  refine wpList_nil ?_
  refine th_n ?_
  refine wp_seq ?_
  refine region_seq ?_
  revert a
  refine mA rfl rfl ?_
  refine sA (v := .bool (decide (n ≥ (-16)))) rfl (fun _ henv => rn_bin henv rfl rfl rfl) ?_
  refine mA rfl rfl ?_
  intro a henv
  rcases bool_em (decide (n ≥ (-16))) with hg51 | hg51
  · rw [hg51] at henv
    have hx52 := of_decide_eq_true hg51
    revert a
    refine gA (v := .int .i64 n) rfl rfl rfl rfl (fun _ henv => rn_move henv rfl) ?_
    refine gA (v := .bool (decide (n ≤ (16 : Int)))) rfl rfl rfl rfl (fun _ henv => rn_bin henv rfl rfl rfl) ?_
    refine sA (v := .bool (decide (n ≤ (16 : Int)))) rfl (fun _ henv => rn_pick henv rfl rfl) ?_
    refine aA rfl rfl ?_
    intro a henv
    refine wpList_nil ?_
    refine th_n ?_
    refine wp_ret ?_
    refine leave henv (res1 Tryd.results73 (RV.tmp henv rfl)) ?_
    exact ⟨congrArg (fun b => Ending.returned (Value.bool b)) (decide_eq_decide.2 (by unfold I16 at *; omega)), hst.below⟩
  · rw [hg51] at henv
    have hx53 := of_decide_eq_false hg51
    revert a
    refine kA rfl rfl rfl rfl rfl ?_
    refine kA rfl rfl rfl rfl rfl ?_
    refine sA (v := .bool false) rfl (fun _ henv => rn_pick henv rfl rfl) ?_
    refine aA rfl rfl ?_
    intro a henv
    refine wpList_nil ?_
    refine th_n ?_
    refine wp_ret ?_
    refine leave henv (res1 Tryd.results73 (RV.tmp henv rfl)) ?_
    exact ⟨by rw [decide_eq_false fun h => by unfold I16 at *; omega], hst.below⟩
set_option maxRecDepth 100000 in
set_option maxHeartbeats 2000000 in
theorem pt_in {pa pb : Int} {w0 : World} :
    Calls Tryd.prog 40 #[.agg #[.int .i64 pa, .int .i64 pb]] w0 fun e w' => e = .returned (.bool (decide (I16 pa ∧ I16 pb))) ∧ Below w0.heap.size w0 w' := by
  refine enter Tryd.func40 rfl Tryd.ntmps40 rfl ?_
  intro a henv hst
  refine wp_seq ?_
  refine region_seq ?_
  refine seq_step rfl (op_box (c := #[.int .i64 pa, .int .i64 pb]) henv hst rfl rfl rfl ?_)
  clear henv hst a; intro a w52 g51 henv hst
  refine sv (v := .bool false) henv rfl (rn_assign henv rfl) ?_
  clear henv a; intro a henv
  refine wpList_nil ?_
  refine th_n ?_
  refine wp_seq ?_
  refine region_seq ?_
  revert a
  refine sA (v := .pointer (some ⟨g51, 0, none⟩)) rfl (fun _ henv => rn_fieldAddr henv fd_anvil_api_Point_0 (ty_int.size) (by decide) rfl) ?_
  refine sA (v := .int .i64 pa) rfl (fun _ henv => rn_load1 henv ty_int rfl (hst.oat (k := 0) rfl) rfl) ?_
  intro a henv
  refine seq_step rfl (op_call henv rfl Tryd.call73 rfl (pt_within (n := pa)) ?_)
  rintro e w53 ⟨rfl, hb⟩
  refine ⟨_, rfl, ?_⟩
  clear henv a; intro a henv
  replace hst := hst.call hb
  clear hb
  refine sv (v := .bool (decide (I16 pa))) henv rfl (rn_move henv rfl) ?_
  clear henv a; intro a henv
  rcases bool_em (decide (I16 pa)) with hg54 | hg54
  · rw [hg54] at henv
    have hx55 := of_decide_eq_true hg54
    revert a
    refine gA (v := .pointer (some ⟨g51, 1, none⟩)) rfl rfl rfl rfl (fun _ henv => rn_fieldAddr henv fd_anvil_api_Point_1 (ty_int.size) (by decide) rfl) ?_
    refine gA (v := .int .i64 pb) rfl rfl rfl rfl (fun _ henv => rn_load1 henv ty_int rfl (hst.oat (k := 0) rfl) rfl) ?_
    intro a henv
    refine seq_g rfl henv rfl rfl (op_call henv rfl Tryd.call73 rfl (pt_within (n := pb)) ?_)
    rintro e w56 ⟨rfl, hb⟩
    refine ⟨_, rfl, ?_⟩
    clear henv a; intro a henv
    replace hst := hst.call hb
    clear hb
    revert a
    refine sA (v := .bool (decide (I16 pb))) rfl (fun _ henv => rn_pick henv rfl rfl) ?_
    refine aA rfl rfl ?_
    intro a henv
    refine wpList_nil ?_
    refine th_n ?_
    refine wp_ret ?_
    refine leave henv (res1 Tryd.results40 (RV.tmp henv rfl)) ?_
    exact ⟨congrArg (fun b => Ending.returned (Value.bool b)) (decide_eq_decide.2 (by unfold I16 at *; omega)), hst.below⟩
  · rw [hg54] at henv
    have hx57 := of_decide_eq_false hg54
    revert a
    refine kA rfl rfl rfl rfl rfl ?_
    refine kA rfl rfl rfl rfl rfl ?_
    refine kA rfl rfl rfl rfl rfl ?_
    refine sA (v := .bool false) rfl (fun _ henv => rn_pick henv rfl rfl) ?_
    refine aA rfl rfl ?_
    intro a henv
    refine wpList_nil ?_
    refine th_n ?_
    refine wp_ret ?_
    refine leave henv (res1 Tryd.results40 (RV.tmp henv rfl)) ?_
    exact ⟨by rw [decide_eq_false fun h => by unfold I16 at *; omega], hst.below⟩
set_option maxRecDepth 100000 in
set_option maxHeartbeats 2000000 in
theorem ref_in {pa pb : Int} {w0 : World} :
    Calls Tryd.prog 13 #[.agg #[.int .i64 pa, .int .i64 pb]] w0 fun e w' => e = .returned (.bool (decide (I16 pa ∧ I16 pb))) ∧ Below w0.heap.size w0 w' := by
  refine enter Tryd.func13 rfl Tryd.ntmps13 rfl ?_
  intro a henv hst
  refine wp_seq ?_
  refine region_seq ?_
  refine seq_step rfl (op_box (c := #[.int .i64 pa, .int .i64 pb]) henv hst rfl rfl rfl ?_)
  clear henv hst a; intro a w52 g51 henv hst
  refine sv (v := .bool false) henv rfl (rn_assign henv rfl) ?_
  clear henv a; intro a henv
  refine wpList_nil ?_
  refine th_n ?_
  refine wp_seq ?_
  refine region_seq ?_
  revert a
  refine sA (v := .pointer (some ⟨g51, 0, none⟩)) rfl (fun _ henv => rn_fieldAddr henv fd_anvil_api_Point_0 (ty_int.size) (by decide) rfl) ?_
  refine sA (v := .int .i64 pa) rfl (fun _ henv => rn_load1 henv ty_int rfl (hst.oat (k := 0) rfl) rfl) ?_
  refine sA (v := .bool (decide (pa ≥ (-16)))) rfl (fun _ henv => rn_bin henv rfl rfl rfl) ?_
  refine mA rfl rfl ?_
  intro a henv
  rcases bool_em (decide (pa ≥ (-16))) with hg53 | hg53
  · rw [hg53] at henv
    have hx54 := of_decide_eq_true hg53
    revert a
    refine gA (v := .pointer (some ⟨g51, 0, none⟩)) rfl rfl rfl rfl (fun _ henv => rn_fieldAddr henv fd_anvil_api_Point_0 (ty_int.size) (by decide) rfl) ?_
    refine gA (v := .int .i64 pa) rfl rfl rfl rfl (fun _ henv => rn_load1 henv ty_int rfl (hst.oat (k := 0) rfl) rfl) ?_
    refine gA (v := .bool (decide (pa ≤ (16 : Int)))) rfl rfl rfl rfl (fun _ henv => rn_bin henv rfl rfl rfl) ?_
    refine sA (v := .bool (decide (pa ≤ (16 : Int)))) rfl (fun _ henv => rn_pick henv rfl rfl) ?_
    refine mA rfl rfl ?_
    intro a henv
    rcases bool_em (decide (pa ≤ (16 : Int))) with hg55 | hg55
    · rw [hg55] at henv
      have hx56 := of_decide_eq_true hg55
      revert a
      refine gA (v := .pointer (some ⟨g51, 1, none⟩)) rfl rfl rfl rfl (fun _ henv => rn_fieldAddr henv fd_anvil_api_Point_1 (ty_int.size) (by decide) rfl) ?_
      refine gA (v := .int .i64 pb) rfl rfl rfl rfl (fun _ henv => rn_load1 henv ty_int rfl (hst.oat (k := 0) rfl) rfl) ?_
      refine gA (v := .bool (decide (pb ≥ (-16)))) rfl rfl rfl rfl (fun _ henv => rn_bin henv rfl rfl rfl) ?_
      refine sA (v := .bool (decide (pb ≥ (-16)))) rfl (fun _ henv => rn_pick henv rfl rfl) ?_
      refine mA rfl rfl ?_
      intro a henv
      rcases bool_em (decide (pb ≥ (-16))) with hg57 | hg57
      · rw [hg57] at henv
        have hx58 := of_decide_eq_true hg57
        revert a
        refine gA (v := .pointer (some ⟨g51, 1, none⟩)) rfl rfl rfl rfl (fun _ henv => rn_fieldAddr henv fd_anvil_api_Point_1 (ty_int.size) (by decide) rfl) ?_
        refine gA (v := .int .i64 pb) rfl rfl rfl rfl (fun _ henv => rn_load1 henv ty_int rfl (hst.oat (k := 0) rfl) rfl) ?_
        refine gA (v := .bool (decide (pb ≤ (16 : Int)))) rfl rfl rfl rfl (fun _ henv => rn_bin henv rfl rfl rfl) ?_
        refine sA (v := .bool (decide (pb ≤ (16 : Int)))) rfl (fun _ henv => rn_pick henv rfl rfl) ?_
        refine aA rfl rfl ?_
        intro a henv
        refine wpList_nil ?_
        refine th_n ?_
        refine wp_ret ?_
        refine leave henv (res1 Tryd.results13 (RV.tmp henv rfl)) ?_
        exact ⟨congrArg (fun b => Ending.returned (Value.bool b)) (decide_eq_decide.2 (by unfold I16 at *; omega)), hst.below⟩
      · rw [hg57] at henv
        have hx59 := of_decide_eq_false hg57
        revert a
        refine kA rfl rfl rfl rfl rfl ?_
        refine kA rfl rfl rfl rfl rfl ?_
        refine kA rfl rfl rfl rfl rfl ?_
        refine sA (v := .bool false) rfl (fun _ henv => rn_pick henv rfl rfl) ?_
        refine aA rfl rfl ?_
        intro a henv
        refine wpList_nil ?_
        refine th_n ?_
        refine wp_ret ?_
        refine leave henv (res1 Tryd.results13 (RV.tmp henv rfl)) ?_
        exact ⟨by rw [decide_eq_false fun h => by unfold I16 at *; omega], hst.below⟩
    · rw [hg55] at henv
      have hx60 := of_decide_eq_false hg55
      revert a
      refine kA rfl rfl rfl rfl rfl ?_
      refine kA rfl rfl rfl rfl rfl ?_
      refine kA rfl rfl rfl rfl rfl ?_
      refine sA (v := .bool false) rfl (fun _ henv => rn_pick henv rfl rfl) ?_
      refine mA rfl rfl ?_
      refine kA rfl rfl rfl rfl rfl ?_
      refine kA rfl rfl rfl rfl rfl ?_
      refine kA rfl rfl rfl rfl rfl ?_
      refine sA (v := .bool false) rfl (fun _ henv => rn_pick henv rfl rfl) ?_
      refine aA rfl rfl ?_
      intro a henv
      refine wpList_nil ?_
      refine th_n ?_
      refine wp_ret ?_
      refine leave henv (res1 Tryd.results13 (RV.tmp henv rfl)) ?_
      exact ⟨by rw [decide_eq_false fun h => by unfold I16 at *; omega], hst.below⟩
  · rw [hg53] at henv
    have hx61 := of_decide_eq_false hg53
    revert a
    refine kA rfl rfl rfl rfl rfl ?_
    refine kA rfl rfl rfl rfl rfl ?_
    refine kA rfl rfl rfl rfl rfl ?_
    refine sA (v := .bool false) rfl (fun _ henv => rn_pick henv rfl rfl) ?_
    refine mA rfl rfl ?_
    refine kA rfl rfl rfl rfl rfl ?_
    refine kA rfl rfl rfl rfl rfl ?_
    refine kA rfl rfl rfl rfl rfl ?_
    refine sA (v := .bool false) rfl (fun _ henv => rn_pick henv rfl rfl) ?_
    refine mA rfl rfl ?_
    refine kA rfl rfl rfl rfl rfl ?_
    refine kA rfl rfl rfl rfl rfl ?_
    refine kA rfl rfl rfl rfl rfl ?_
    refine sA (v := .bool false) rfl (fun _ henv => rn_pick henv rfl rfl) ?_
    refine aA rfl rfl ?_
    intro a henv
    refine wpList_nil ?_
    refine th_n ?_
    refine wp_ret ?_
    refine leave henv (res1 Tryd.results13 (RV.tmp henv rfl)) ?_
    exact ⟨by rw [decide_eq_false fun h => by unfold I16 at *; omega], hst.below⟩
set_option maxRecDepth 100000 in
set_option maxHeartbeats 4000000 in
theorem p_at {A0 : Option Addr} {n0 c0 : Nat} {es0 : List NE} {xs : List Int} {pa pb : Int} {w0 : World} (h0 : (pfRow fN FN 2 A0 n0 c0 es0).P w0) (hz0 : es0.map zz = xs) (hp : 0 < n0) (hI : I16 pa ∧ I16 pb) (hk : Zk 1000 xs) (hn : n0 ≤ 200) :
    Calls Tryd.prog 11 #[.slice A0 n0 c0, .agg #[.int .i64 pa, .int .i64 pb]] w0 fun e w' => ∃ v, e = .returned (.tuple #[v, .int .i64 0]) ∧ ZAt w' v (hval pa pb xs) ∧ Below w0.heap.size w0 w' := by
  have ha16 : -16 ≤ pa ∧ pa ≤ 16 := hI.1
  have hb16 : -16 ≤ pb ∧ pb ≤ 16 := hI.2
  refine enter Tryd.func11 rfl Tryd.ntmps11 rfl ?_
  intro a henv hst
  have hlen0 := h0.2.1
  have hbig0 := Nat.le_trans h0.1.cap h0.1.big
  unfold maxLen at hbig0
  replace hst := hst.argRow h0
  clear h0
  have hlx : xs.length = n0 := by rw [← hz0, List.length_map]; exact hlen0
  refine wp_seq ?_
  refine region_seq ?_
  refine seq_step rfl (op_box (c := #[.int .i64 pa, .int .i64 pb]) henv hst rfl rfl rfl ?_)
  clear henv hst a; intro a w52 g51 henv hst
  refine seq_step rfl (op_alloc (c := #[.bool (neg 0), .slice none (zl 0) 0]) henv hst rfl zero_anvil_integer_Int zcells ?_)
  clear henv hst a; intro a w54 g53 henv hst
  refine sv (v := .int .i64 0) henv rfl (rn_assign henv rfl) ?_
  clear henv a; intro a henv
  refine wpList_nil ?_
  refine th_n ?_
  refine wp_seq ?_
  refine wp_seq ?_
  refine region_seq ?_
  revert a
  refine mA rfl rfl ?_
  refine sA (v := .int .i64 (n0 : Nat)) rfl (fun _ henv => rn_len henv Tryd.underlying32 rfl) ?_
  refine sA (v := .bool (((n0 : Nat) : Int) == (0 : Int))) rfl (fun _ henv => rn_bin henv rfl rfl rfl) ?_
  intro a henv
  rw [show (((n0 : Nat) : Int) == (0 : Int)) = false from (beq_eq_false_iff_ne.2 (by omega))] at henv
  revert a
  refine mA rfl rfl ?_
  refine gA (v := .agg #[.int .i64 pa, .int .i64 pb]) rfl rfl rfl rfl (fun _ henv => rn_load0 henv ty_anvil_api_Point rfl (hst.oat (k := 1) rfl) rfl) ?_
  intro a henv
  refine seq_g rfl henv rfl rfl (op_call henv rfl Tryd.call40 rfl (pt_in (pa := pa) (pb := pb)) ?_)
  rintro e w55 ⟨rfl, hb⟩
  refine ⟨_, rfl, ?_⟩
  clear henv a; intro a henv
  replace hst := hst.call hb
  clear hb
  rw [show (decide (I16 pa ∧ I16 pb)) = true from (decide_eq_true hI)] at henv
  revert a
  refine gA (v := .bool false) rfl rfl rfl rfl (fun _ henv => rn_un henv rfl rfl) ?_
  refine sA (v := .bool false) rfl (fun _ henv => rn_pick henv rfl rfl) ?_
  intro a henv
  refine wpList_nil ?_
  obtain ⟨⟨Al, cl, xl⟩, hel⟩ : ∃ e, es0[n0 - 1]? = some e := ⟨_, List.getElem?_eq_getElem (by omega)⟩
  replace hst := hst.elem (k := 0) rfl hel
  replace hst : St w0 _ [bk g53 #[.bool (neg 0), .slice none (zl 0) 0] 28, bk g51 #[.int .i64 pa, .int .i64 pb] 24] [pfZ Al cl xl, pfRow fN FN 2 A0 n0 c0 es0] := hst
  have hxl : xs[xs.length - 1]? = some xl := by rw [hlx, ← hz0, List.getElem?_map, hel]; rfl
  refine th_n ?_
  refine if_f henv rfl (rfl) ?_
  refine wp_skip ?_
  refine th_n ?_
  refine wp_seq ?_
  refine cut (fun a w => ∃ A57 : Option Addr, ∃ c58 : Nat, ∃ g61 : Nat, ∃ g63 : Nat, Env 48 a [(0, .slice A0 n0 c0), (1, .agg #[.int .i64 pa, .int .i64 pb]), (3, .pointer (some ⟨g51, 0, none⟩)), (4, .pointer (some ⟨g53, 0, none⟩)), (5, .int .i64 0), (9, .slice A0 n0 c0), (10, .int .i64 (n0 : Nat)), (11, .bool false), (12, .bool false), (13, .agg #[.int .i64 pa, .int .i64 pb]), (14, .bool true), (15, .bool false), (16, .bool false), (6, .pointer (some ⟨g61, 0, none⟩)), (7, .pointer (some ⟨g63, 0, none⟩))] ∧ St w0 w [bk g63 #[.bool (neg 1), .slice A57 (zl 1) c58] 28, bk g61 #[.bool (neg xl), .slice Al (zl xl) cl] 28, bk g53 #[.bool (neg 0), .slice none (zl 0) 0] 28, bk g51 #[.int .i64 pa, .int .i64 pb] 24] [pfZ A57 c58 1, pfZ Al cl xl, pfRow fN FN 2 A0 n0 c0 es0]) ?_ ?_
  · refine region_any (n := 11) (Sk [bk g53 #[.bool (neg 0), .slice none (zl 0) 0] 28, bk g51 #[.int .i64 pa, .int .i64 pb] 24] [pfZ Al cl xl, pfRow fN FN 2 A0 n0 c0 es0] [9, 10] []) mixed rfl henv hst ?_
    clear henv hst; intro w56 henv hst
    refine tM (i := 0) [4, 5, 9, 10] rfl (by kernel_rfl) (fun _ _ _ h => h) henv rfl rfl ?_
    clear henv a; intro a henv
    refine tM (i := 1) [2, 3, 4, 5, 9, 10] rfl (by kernel_rfl) (fun _ _ _ h => h) henv rfl rfl ?_
    clear henv a; intro a henv
    refine tA (i := 2) [3, 4, 5, 9, 10] (v := .int .i64 (n0 : Nat)) rfl (by kernel_rfl) (fun _ _ _ h => h) henv rfl (fun _ => rn_len henv Tryd.underlying32 rfl) ?_
    clear henv a; intro a henv
    refine tA (i := 3) [4, 5, 9, 10] (v := .int .i64 (n0 - 1 : Nat)) rfl (by kernel_rfl) (fun _ _ _ h => h) henv rfl (fun _ => rn_sub henv rfl rfl (by rw [IntWalk.i64_in _ (by omega)]; omega)) ?_
    clear henv a; intro a henv
    refine sAny_take (i := 4) [5, 9, 10] (fun w' => (pfRow fN FN 2 A0 n0 c0 es0).P w') (v := .pointer (some ⟨ab A0, ao A0 + (n0 - 1) * 2, none⟩)) rfl (by kernel_rfl) (fun _ _ _ h => h) (fun _ _ _ hS => hS.1.pat (k := 1) rfl) henv rfl (hst.pat (k := 1) rfl) (fun w' hg => rn_idxR (i := n0 - 1) henv Tryd.underlying32 (ty_anvil_integer_Int.size) rfl rfl (by omega) rfl (show (pfRow fN FN 2 A0 n0 c0 es0).P _ from hg).1) ?_
    clear henv a; intro a henv
    refine sAny_take (i := 5) [9, 10] (fun w' => (pfRow fN FN 2 A0 n0 c0 es0).P w') (v := .agg #[.bool (neg xl), .slice Al (zl xl) cl]) rfl (by kernel_rfl) (fun _ _ _ h => h) (fun _ _ _ hS => hS.1.pat (k := 1) rfl) henv rfl (hst.pat (k := 1) rfl) (fun w' hg => rn_loadE (i := n0 - 1) (e := (Al, cl, xl)) henv ty_anvil_integer_Int rfl rfl fN_len (show (pfRow fN FN 2 A0 n0 c0 es0).P _ from hg).1 (by omega) hel rfl) ?_
    clear henv a; intro a henv
    refine sAny_all (rs := [6, 7, 8]) (by kernel_rfl) (by simp) ?_
    simp only [List.forall_mem_cons, List.not_mem_nil, false_implies, implies_true, and_true]
    refine ⟨?_, ?_, ?_⟩
    · refine ⟨_, rfl, rfl, op_call henv rfl Tryd.call34 rfl (of_z (n := (1 : Int)) (by decide) (by decide)) ?_⟩
      rintro e w60 ⟨_, rfl, ⟨A57, c58, rfl, hz59⟩, hb⟩
      refine ⟨_, rfl, ?_⟩
      clear henv a; intro a henv
      replace hst := (hst.call hb).addZ hz59 ⟨nou_bk rfl, nou_bk rfl, trivial⟩
      clear hz59
      clear hb
      refine ⟨.inr ⟨hst.kn.pick [0, 1] [1, 2], .inr (hst.kn.pick [] [])⟩, ?_⟩
      refine sAny_all (rs := [7, 8]) (by kernel_rfl) (by simp) ?_
      simp only [List.forall_mem_cons, List.not_mem_nil, false_implies, implies_true, and_true]
      refine ⟨?_, ?_⟩
      · refine ⟨_, rfl, rfl, op_alloc (c := #[.bool (neg 0), .slice none (zl 0) 0]) henv hst rfl zero_anvil_integer_Int zcells ?_⟩
        clear henv hst a; intro a w62 g61 henv hst
        refine ⟨.inr ⟨hst.kn.pick [1, 2] [1, 2], .inr (hst.kn.pick [] [])⟩, ?_⟩
        refine sAny_one (i := 8) (by kernel_rfl) rfl rfl (op_alloc (c := #[.bool (neg 0), .slice none (zl 0) 0]) henv hst rfl zero_anvil_integer_Int zcells ?_)
        clear henv hst a; intro a w64 g63 henv hst
        refine ⟨.inr ⟨hst.kn.pick [2, 3] [1, 2], .inr (hst.kn.pick [] [])⟩, ?_⟩
        refine sAny_one (i := 9) (by kernel_rfl) rfl rfl (op_store (k := 1) (c' := #[.bool (neg xl), .slice Al (zl xl) cl]) henv hst (ty_anvil_integer_Int.size) rfl rfl rfl rfl (by simp) rfl rfl ?_)
        clear henv hst a; intro a w65 henv hst
        refine ⟨.inr ⟨hst.kn.pick [2, 3] [1, 2], .inl rfl⟩, ?_⟩
        refine sAny_one (i := 10) (by kernel_rfl) rfl rfl (op_store (k := 0) (c' := #[.bool (neg 1), .slice A57 (zl 1) c58]) henv hst (ty_anvil_integer_Int.size) rfl rfl rfl rfl (by simp) rfl rfl ?_)
        clear henv hst a; intro a w66 henv hst
        refine ⟨.inr ⟨hst.kn.pick [2, 3] [1, 2], .inl rfl⟩, ?_⟩
        refine sAny_done (by kernel_rfl) ?_ _
        exact th_n ⟨A57, c58, g61, g63, henv.sub ⟨rfl, rfl, rfl, rfl, rfl, rfl, rfl, rfl, rfl, rfl, rfl, rfl, rfl, rfl, rfl, trivial⟩, hst.pick [0, 1, 2, 3] [0, 1, 2] (by decide)⟩
      · refine ⟨_, rfl, rfl, op_alloc (c := #[.bool (neg 0), .slice none (zl 0) 0]) henv hst rfl zero_anvil_integer_Int zcells ?_⟩
        clear henv hst a; intro a w68 g67 henv hst
        refine ⟨.inr ⟨hst.kn.pick [1, 2] [1, 2], .inr (hst.kn.pick [] [])⟩, ?_⟩
        refine sAny_one (i := 7) (by kernel_rfl) rfl rfl (op_alloc (c := #[.bool (neg 0), .slice none (zl 0) 0]) henv hst rfl zero_anvil_integer_Int zcells ?_)
        clear henv hst a; intro a w70 g69 henv hst
        refine ⟨.inr ⟨hst.kn.pick [2, 3] [1, 2], .inr (hst.kn.pick [] [])⟩, ?_⟩
        refine sAny_one (i := 9) (by kernel_rfl) rfl rfl (op_store (k := 0) (c' := #[.bool (neg xl), .slice Al (zl xl) cl]) henv hst (ty_anvil_integer_Int.size) rfl rfl rfl rfl (by simp) rfl rfl ?_)
        clear henv hst a; intro a w71 henv hst
        refine ⟨.inr ⟨hst.kn.pick [2, 3] [1, 2], .inl rfl⟩, ?_⟩
        refine sAny_one (i := 10) (by kernel_rfl) rfl rfl (op_store (k := 1) (c' := #[.bool (neg 1), .slice A57 (zl 1) c58]) henv hst (ty_anvil_integer_Int.size) rfl rfl rfl rfl (by simp) rfl rfl ?_)
        clear henv hst a; intro a w72 henv hst
        refine ⟨.inr ⟨hst.kn.pick [2, 3] [1, 2], .inl rfl⟩, ?_⟩
        refine sAny_done (by kernel_rfl) ?_ _
        exact th_n ⟨A57, c58, g69, g67, henv.sub ⟨rfl, rfl, rfl, rfl, rfl, rfl, rfl, rfl, rfl, rfl, rfl, rfl, rfl, rfl, rfl, trivial⟩, hst.pick [1, 0, 2, 3] [0, 1, 2] (by decide)⟩
    · refine ⟨_, rfl, rfl, op_alloc (c := #[.bool (neg 0), .slice none (zl 0) 0]) henv hst rfl zero_anvil_integer_Int zcells ?_⟩
      clear henv hst a; intro a w74 g73 henv hst
      refine ⟨.inr ⟨hst.kn.pick [1, 2] [0, 1], .inr (hst.kn.pick [] [])⟩, ?_⟩
      refine sAny_all (rs := [6, 8]) (by kernel_rfl) (by simp) ?_
      simp only [List.forall_mem_cons, List.not_mem_nil, false_implies, implies_true, and_true]
      refine ⟨?_, ?_⟩
      · refine ⟨_, rfl, rfl, op_call henv rfl Tryd.call34 rfl (of_z (n := (1 : Int)) (by decide) (by decide)) ?_⟩
        rintro e w78 ⟨_, rfl, ⟨A75, c76, rfl, hz77⟩, hb⟩
        refine ⟨_, rfl, ?_⟩
        clear henv a; intro a henv
        replace hst := (hst.call hb).addZ hz77 ⟨nou_bk rfl, nou_bk rfl, nou_bk rfl, trivial⟩
        clear hz77
        clear hb
        refine ⟨.inr ⟨hst.kn.pick [1, 2] [1, 2], .inr (hst.kn.pick [] [])⟩, ?_⟩
        refine sAny_one (i := 8) (by kernel_rfl) rfl rfl (op_alloc (c := #[.bool (neg 0), .slice none (zl 0) 0]) henv hst rfl zero_anvil_integer_Int zcells ?_)
        clear henv hst a; intro a w80 g79 henv hst
        refine ⟨.inr ⟨hst.kn.pick [2, 3] [1, 2], .inr (hst.kn.pick [] [])⟩, ?_⟩
        refine sAny_one (i := 9) (by kernel_rfl) rfl rfl (op_store (k := 1) (c' := #[.bool (neg xl), .slice Al (zl xl) cl]) henv hst (ty_anvil_integer_Int.size) rfl rfl rfl rfl (by simp) rfl rfl ?_)
        clear henv hst a; intro a w81 henv hst
        refine ⟨.inr ⟨hst.kn.pick [2, 3] [1, 2], .inl rfl⟩, ?_⟩
        refine sAny_one (i := 10) (by kernel_rfl) rfl rfl (op_store (k := 0) (c' := #[.bool (neg 1), .slice A75 (zl 1) c76]) henv hst (ty_anvil_integer_Int.size) rfl rfl rfl rfl (by simp) rfl rfl ?_)
        clear henv hst a; intro a w82 henv hst
        refine ⟨.inr ⟨hst.kn.pick [2, 3] [1, 2], .inl rfl⟩, ?_⟩
        refine sAny_done (by kernel_rfl) ?_ _
        exact th_n ⟨A75, c76, g73, g79, henv.sub ⟨rfl, rfl, rfl, rfl, rfl, rfl, rfl, rfl, rfl, rfl, rfl, rfl, rfl, rfl, rfl, trivial⟩, hst.pick [0, 1, 2, 3] [0, 1, 2] (by decide)⟩
      · refine ⟨_, rfl, rfl, op_alloc (c := #[.bool (neg 0), .slice none (zl 0) 0]) henv hst rfl zero_anvil_integer_Int zcells ?_⟩
        clear henv hst a; intro a w84 g83 henv hst
        refine ⟨.inr ⟨hst.kn.pick [2, 3] [0, 1], .inr (hst.kn.pick [] [])⟩, ?_⟩
        refine sAny_one (i := 6) (by kernel_rfl) rfl rfl (op_call henv rfl Tryd.call34 rfl (of_z (n := (1 : Int)) (by decide) (by decide)) ?_)
        rintro e w88 ⟨_, rfl, ⟨A85, c86, rfl, hz87⟩, hb⟩
        refine ⟨_, rfl, ?_⟩
        clear henv a; intro a henv
        replace hst := (hst.call hb).addZ hz87 ⟨nou_bk rfl, nou_bk rfl, nou_bk rfl, nou_bk rfl, trivial⟩
        clear hz87
        clear hb
        refine ⟨.inr ⟨hst.kn.pick [2, 3] [1, 2], .inr (hst.kn.pick [] [])⟩, ?_⟩
        refine sAny_one (i := 9) (by kernel_rfl) rfl rfl (op_store (k := 1) (c' := #[.bool (neg xl), .slice Al (zl xl) cl]) henv hst (ty_anvil_integer_Int.size) rfl rfl rfl rfl (by simp) rfl rfl ?_)
        clear henv hst a; intro a w89 henv hst
        refine ⟨.inr ⟨hst.kn.pick [2, 3] [1, 2], .inl rfl⟩, ?_⟩
        refine sAny_one (i := 10) (by kernel_rfl) rfl rfl (op_store (k := 0) (c' := #[.bool (neg 1), .slice A85 (zl 1) c86]) henv hst (ty_anvil_integer_Int.size) rfl rfl rfl rfl (by simp) rfl rfl ?_)
        clear henv hst a; intro a w90 henv hst
        refine ⟨.inr ⟨hst.kn.pick [2, 3] [1, 2], .inl rfl⟩, ?_⟩
        refine sAny_done (by kernel_rfl) ?_ _
        exact th_n ⟨A85, c86, g73, g83, henv.sub ⟨rfl, rfl, rfl, rfl, rfl, rfl, rfl, rfl, rfl, rfl, rfl, rfl, rfl, rfl, rfl, trivial⟩, hst.pick [0, 1, 2, 3] [0, 1, 2] (by decide)⟩
    · refine ⟨_, rfl, rfl, op_alloc (c := #[.bool (neg 0), .slice none (zl 0) 0]) henv hst rfl zero_anvil_integer_Int zcells ?_⟩
      clear henv hst a; intro a w92 g91 henv hst
      refine ⟨.inr ⟨hst.kn.pick [1, 2] [0, 1], .inr (hst.kn.pick [] [])⟩, ?_⟩
      refine sAny_all (rs := [6, 7]) (by kernel_rfl) (by simp) ?_
      simp only [List.forall_mem_cons, List.not_mem_nil, false_implies, implies_true, and_true]
      refine ⟨?_, ?_⟩
      · refine ⟨_, rfl, rfl, op_call henv rfl Tryd.call34 rfl (of_z (n := (1 : Int)) (by decide) (by decide)) ?_⟩
        rintro e w96 ⟨_, rfl, ⟨A93, c94, rfl, hz95⟩, hb⟩
        refine ⟨_, rfl, ?_⟩
        clear henv a; intro a henv
        replace hst := (hst.call hb).addZ hz95 ⟨nou_bk rfl, nou_bk rfl, nou_bk rfl, trivial⟩
        clear hz95
        clear hb
        refine ⟨.inr ⟨hst.kn.pick [1, 2] [1, 2], .inr (hst.kn.pick [] [])⟩, ?_⟩
        refine sAny_one (i := 7) (by kernel_rfl) rfl rfl (op_alloc (c := #[.bool (neg 0), .slice none (zl 0) 0]) henv hst rfl zero_anvil_integer_Int zcells ?_)
        clear henv hst a; intro a w98 g97 henv hst
        refine ⟨.inr ⟨hst.kn.pick [2, 3] [1, 2], .inr (hst.kn.pick [] [])⟩, ?_⟩
        refine sAny_one (i := 9) (by kernel_rfl) rfl rfl (op_store (k := 0) (c' := #[.bool (neg xl), .slice Al (zl xl) cl]) henv hst (ty_anvil_integer_Int.size) rfl rfl rfl rfl (by simp) rfl rfl ?_)
        clear henv hst a; intro a w99 henv hst
        refine ⟨.inr ⟨hst.kn.pick [2, 3] [1, 2], .inl rfl⟩, ?_⟩
        refine sAny_one (i := 10) (by kernel_rfl) rfl rfl (op_store (k := 1) (c' := #[.bool (neg 1), .slice A93 (zl 1) c94]) henv hst (ty_anvil_integer_Int.size) rfl rfl rfl rfl (by simp) rfl rfl ?_)
        clear henv hst a; intro a w100 henv hst
        refine ⟨.inr ⟨hst.kn.pick [2, 3] [1, 2], .inl rfl⟩, ?_⟩
        refine sAny_done (by kernel_rfl) ?_ _
        exact th_n ⟨A93, c94, g97, g91, henv.sub ⟨rfl, rfl, rfl, rfl, rfl, rfl, rfl, rfl, rfl, rfl, rfl, rfl, rfl, rfl, rfl, trivial⟩, hst.pick [1, 0, 2, 3] [0, 1, 2] (by decide)⟩
      · refine ⟨_, rfl, rfl, op_alloc (c := #[.bool (neg 0), .slice none (zl 0) 0]) henv hst rfl zero_anvil_integer_Int zcells ?_⟩
        clear henv hst a; intro a w102 g101 henv hst
        refine ⟨.inr ⟨hst.kn.pick [2, 3] [0, 1], .inr (hst.kn.pick [] [])⟩, ?_⟩
        refine sAny_one (i := 6) (by kernel_rfl) rfl rfl (op_call henv rfl Tryd.call34 rfl (of_z (n := (1 : Int)) (by decide) (by decide)) ?_)
        rintro e w106 ⟨_, rfl, ⟨A103, c104, rfl, hz105⟩, hb⟩
        refine ⟨_, rfl, ?_⟩
        clear henv a; intro a henv
        replace hst := (hst.call hb).addZ hz105 ⟨nou_bk rfl, nou_bk rfl, nou_bk rfl, nou_bk rfl, trivial⟩
        clear hz105
        clear hb
        refine ⟨.inr ⟨hst.kn.pick [2, 3] [1, 2], .inr (hst.kn.pick [] [])⟩, ?_⟩
        refine sAny_one (i := 9) (by kernel_rfl) rfl rfl (op_store (k := 0) (c' := #[.bool (neg xl), .slice Al (zl xl) cl]) henv hst (ty_anvil_integer_Int.size) rfl rfl rfl rfl (by simp) rfl rfl ?_)
        clear henv hst a; intro a w107 henv hst
        refine ⟨.inr ⟨hst.kn.pick [2, 3] [1, 2], .inl rfl⟩, ?_⟩
        refine sAny_one (i := 10) (by kernel_rfl) rfl rfl (op_store (k := 1) (c' := #[.bool (neg 1), .slice A103 (zl 1) c104]) henv hst (ty_anvil_integer_Int.size) rfl rfl rfl rfl (by simp) rfl rfl ?_)
        clear henv hst a; intro a w108 henv hst
        refine ⟨.inr ⟨hst.kn.pick [2, 3] [1, 2], .inl rfl⟩, ?_⟩
        refine sAny_done (by kernel_rfl) ?_ _
        exact th_n ⟨A103, c104, g101, g91, henv.sub ⟨rfl, rfl, rfl, rfl, rfl, rfl, rfl, rfl, rfl, rfl, rfl, rfl, rfl, rfl, rfl, trivial⟩, hst.pick [1, 0, 2, 3] [0, 1, 2] (by decide)⟩
  clear henv hst a
  rintro a w109 ⟨A57, c58, g61, g63, henv, hst⟩
  refine wp_seq ?_
  refine wp_seq ?_
  refine region_seq ?_
  revert a
  refine mA rfl rfl ?_
  refine sA (v := .int .i64 (n0 : Nat)) rfl (fun _ henv => rn_len henv Tryd.underlying32 rfl) ?_
  refine sA (v := .int .i64 (((n0 - 1 : Nat) : Int) - 1)) rfl (fun _ henv => rn_sub henv rfl rfl (by rw [IntWalk.i64_in _ (by omega)]; omega)) ?_
  refine aA rfl rfl ?_
  intro a henv
  refine wpList_nil ?_
  refine th_n ?_
  refine wp_block ?_
  refine wp_loop_ghost (fun mz a w => ∃ i : Nat, ∃ v : Int, ∃ Av : Option Addr, ∃ cv : Nat, ∃ p : Int, ∃ Ap : Option Addr, ∃ cp : Nat, i = mz ∧ Env 48 a [(0, .slice A0 n0 c0), (3, .pointer (some ⟨g51, 0, none⟩)), (4, .pointer (some ⟨g53, 0, none⟩)), (6, .pointer (some ⟨g61, 0, none⟩)), (7, .pointer (some ⟨g63, 0, none⟩)), (8, .int .i64 (((i : Nat) : Int) - 1))] ∧ St w0 w [bk g63 #[.bool (neg p), .slice Ap (zl p) cp] 28, bk g61 #[.bool (neg v), .slice Av (zl v) cv] 28, bk g53 #[.bool (neg 0), .slice none (zl 0) 0] 28, bk g51 #[.int .i64 pa, .int .i64 pb] 24] [pfZ Ap cp p, pfZ Av cv v, pfRow fN FN 2 A0 n0 c0 es0] ∧ i ≤ n0 - 1 ∧ v = hval pa pb (xs.drop i) ∧ p = pb ^ (xs.length - 1 - i)) _ ⟨(n0 - 1), xl, Al, cl, 1, A57, c58, rfl, henv.sub ⟨rfl, rfl, rfl, rfl, rfl, rfl, trivial⟩, hst.pick [0, 1, 2, 3] [0, 1, 2] (by decide), (Nat.le_refl _), (by rw [← hlx]; exact (hval_last hxl).symm), (by rw [hlx, Nat.sub_self, Int.pow_zero])⟩ ?_
  clear henv hst a
  rintro mz a w110 ⟨i, v, Av, cv, p, Ap, cp, rfl, henv, hst, hi, hvv, hpp⟩
  have hsv := hvv ▸ hval_sz hI.1 hI.2 (hk.drop i)
  have hld : (xs.drop i).length = n0 - i := by rw [List.length_drop, hlx]
  rw [hld] at hsv
  have hsp := hpp ▸ zl_p16 hI.2 (xs.length - 1 - i)
  rw [hlx] at hsp hpp
  have hva := zl_mul v pa
  have hpb := zl_mul p pb
  have hza := zl_16 hI.1
  have hzb := zl_16 hI.2
  refine wp_seq ?_
  refine wp_seq ?_
  refine region_seq ?_
  revert a
  refine mA rfl rfl ?_
  refine sA (v := .bool (decide (((i : Nat) : Int) - 1 ≥ (0 : Int)))) rfl (fun _ henv => rn_bin henv rfl rfl rfl) ?_
  intro a henv
  refine wpList_nil ?_
  refine th_n ?_
  refine if_split henv rfl (fun hc111 => ?_) (fun hc111 => ?_)
  · obtain ⟨j, hj⟩ : ∃ j : Nat, ((i : Nat) : Int) - 1 = (j : Nat) := ⟨i - 1, by have := of_decide_eq_true hc111; omega⟩
    rw [hj] at henv
    obtain rfl : i = j + 1 := by omega
    clear hj
    obtain ⟨⟨A, c, x⟩, he0⟩ : ∃ e, es0[j]? = some e := ⟨_, List.getElem?_eq_getElem (by omega)⟩
    replace hst := hst.elem (k := 2) rfl he0
    replace hst : St w0 _ [bk g63 #[.bool (neg p), .slice Ap (zl p) cp] 28, bk g61 #[.bool (neg v), .slice Av (zl v) cv] 28, bk g53 #[.bool (neg 0), .slice none (zl 0) 0] 28, bk g51 #[.int .i64 pa, .int .i64 pb] 24] [pfZ A c x, pfZ Ap cp p, pfZ Av cv v, pfRow fN FN 2 A0 n0 c0 es0] := hst
    replace hst : St w0 _ [bk g63 #[.bool (neg p), .slice Ap (zl p) cp] 28, bk g61 #[.bool (neg v), .slice Av (zl v) cv] 28, bk g53 #[.bool (neg 0), .slice none (zl 0) 0] 28, bk g51 #[.int .i64 pa, .int .i64 pb] 24] [pfZ A c x, pfZ Ap cp p, pfZ Av cv v, pfRow fN FN 2 A0 n0 c0 es0] := hst
    have hxj : xs[j]? = some x := by rw [← hz0, List.getElem?_map, he0]; rfl
    have hsx : zl x ≤ 1000 := hk x (List.mem_of_getElem? hxj)
    refine wp_skip ?_
    refine th_n ?_
    refine wp_seq ?_
    refine wp_block ?_
    refine wp_seq ?_
    refine region_seq ?_
    revert a
    refine sA (v := .agg #[.bool (neg p), .slice Ap (zl p) cp]) rfl (fun _ henv => rn_load0 henv ty_anvil_integer_Int rfl (hst.oat (k := 0) rfl) rfl) ?_
    refine sA (v := .pointer (some ⟨g51, 1, none⟩)) rfl (fun _ henv => rn_fieldAddr henv fd_anvil_api_Point_1 (ty_int.size) (by decide) rfl) ?_
    refine sA (v := .int .i64 pb) rfl (fun _ henv => rn_load1 henv ty_int rfl (hst.oat (k := 3) rfl) rfl) ?_
    intro a henv
    refine seq_step rfl (op_call henv rfl Tryd.call48 rfl (times_z (x := p) (n := pb) (show ZIn _ Ap cp p from hst.pat (k := 1) rfl) (by omega) (by omega) (by omega)) ?_)
    rintro e w115 ⟨_, rfl, ⟨A112, c113, rfl, hz114⟩, hb⟩
    refine ⟨_, rfl, ?_⟩
    clear henv a; intro a henv
    replace hst := (hst.call hb).addZ hz114 ⟨nou_bk rfl, nou_bk rfl, nou_bk rfl, nou_bk rfl, trivial⟩
    clear hz114
    clear hb
    refine seq_step rfl (op_store (k := 0) (c' := #[.bool (neg (p * pb)), .slice A112 (zl (p * pb)) c113]) henv hst (ty_anvil_integer_Int.size) rfl rfl rfl rfl (by simp) rfl rfl ?_)
    clear henv hst a; intro a w116 henv hst
    refine wpList_nil ?_
    refine th_n ?_
    refine region_any (n := 12) (Sk [bk g63 #[.bool (neg (p * pb)), .slice A112 (zl (p * pb)) c113] 28, bk g53 #[.bool (neg 0), .slice none (zl 0) 0] 28, bk g51 #[.int .i64 pa, .int .i64 pb] 24] [pfZ A112 c113 (p * pb), pfZ A c x, pfZ Ap cp p, pfZ Av cv v, pfRow fN FN 2 A0 n0 c0 es0] [11] [bk g61 #[.bool (neg v), .slice Av (zl v) cv] 28]) mixed rfl henv hst ?_
    clear henv hst; intro w117 henv hst
    refine sAny_take (i := 0) [3, 9, 10, 11] (fun w' => w'.heap[g61]? = some (.cells #[.bool (neg v), .slice Av (zl v) cv] 28 (0, 0))) (v := .agg #[.bool (neg v), .slice Av (zl v) cv]) rfl (by kernel_rfl) (fun _ _ _ h => h) (fun _ _ hj hS => (hS.two rfl hj).oat (k := 0) rfl) henv rfl (hst.oat (k := 1) rfl) (fun w' hg => rn_load0 henv ty_anvil_integer_Int rfl hg rfl) ?_
    clear henv a; intro a henv
    refine tA (i := 1) [2, 3, 9, 10, 11] (v := .pointer (some ⟨g51, 0, none⟩)) rfl (by kernel_rfl) (fun _ _ _ h => h) henv rfl (fun _ => rn_fieldAddr henv fd_anvil_api_Point_0 (ty_int.size) (by decide) rfl) ?_
    clear henv a; intro a henv
    refine sAny_take (i := 2) [3, 9, 10, 11] (fun w' => w'.heap[g51]? = some (.cells #[.int .i64 pa, .int .i64 pb] 24 (0, 0))) (v := .int .i64 pa) rfl (by kernel_rfl) (fun _ _ _ h => h) (fun _ _ _ hS => hS.1.oat (k := 2) rfl) henv rfl (hst.oat (k := 3) rfl) (fun w' hg => rn_load1 henv ty_int rfl hg rfl) ?_
    clear henv a; intro a henv
    refine tM (i := 4) [6, 7, 9, 10, 11] rfl (by kernel_rfl) (fun _ _ _ h => h) henv rfl rfl ?_
    clear henv a; intro a henv
    refine tM (i := 5) [6, 7, 9, 10, 11] rfl (by kernel_rfl) (fun _ _ _ h => h) henv rfl rfl ?_
    clear henv a; intro a henv
    refine sAny_take (i := 6) [7, 9, 10, 11] (fun w' => (pfRow fN FN 2 A0 n0 c0 es0).P w') (v := .pointer (some ⟨ab A0, ao A0 + j * 2, none⟩)) rfl (by kernel_rfl) (fun _ _ _ h => h) (fun _ _ _ hS => hS.1.pat (k := 4) rfl) henv rfl (hst.pat (k := 4) rfl) (fun w' hg => rn_idxR (i := j) henv Tryd.underlying32 (ty_anvil_integer_Int.size) rfl rfl (by omega) rfl (show (pfRow fN FN 2 A0 n0 c0 es0).P _ from hg).1) ?_
    clear henv a; intro a henv
    refine sAny_take (i := 7) [9, 10, 11] (fun w' => (pfRow fN FN 2 A0 n0 c0 es0).P w') (v := .agg #[.bool (neg x), .slice A (zl x) c]) rfl (by kernel_rfl) (fun _ _ _ h => h) (fun _ _ _ hS => hS.1.pat (k := 4) rfl) henv rfl (hst.pat (k := 4) rfl) (fun w' hg => rn_loadE (i := j) (e := (A, c, x)) henv ty_anvil_integer_Int rfl rfl fN_len (show (pfRow fN FN 2 A0 n0 c0 es0).P _ from hg).1 (by omega) he0 rfl) ?_
    clear henv a; intro a henv
    refine tL (i := 8) 0 0 [9, 10, 11] rfl (by kernel_rfl) (fun _ _ _ h => h) henv rfl ty_anvil_integer_Int rfl hst rfl rfl rfl ?_
    clear henv a; intro a henv
    refine sAny_one (i := 3) (by kernel_rfl) rfl rfl (op_call henv rfl Tryd.call48 rfl (times_z (x := v) (n := pa) (show ZIn _ Av cv v from hst.pat (k := 3) rfl) (by omega) (by omega) (by omega)) ?_)
    rintro e w121 ⟨_, rfl, ⟨A118, c119, rfl, hz120⟩, hb⟩
    refine ⟨_, rfl, ?_⟩
    clear henv a; intro a henv
    replace hst := (hst.call hb).addZ hz120 ⟨nou_bk rfl, nou_bk rfl, nou_bk rfl, nou_bk rfl, trivial⟩
    clear hz120
    clear hb
    refine ⟨.inr ⟨hst.kn.pick [0, 2, 3] (rg 1 5), .inr (hst.kn.pick [1] [])⟩, ?_⟩
    have hs122 := zl_mul x (p * pb)
    refine sAny_one (i := 9) (by kernel_rfl) rfl rfl (op_call henv rfl Tryd.call43 rfl (mul_z (x := x) (y := (p * pb)) (show ZIn _ A c x from hst.pat (k := 2) rfl) (show ZIn _ A112 c113 (p * pb) from hst.pat (k := 1) rfl) (by omega) (by omega)) ?_)
    rintro e w126 ⟨_, rfl, ⟨A123, c124, rfl, hz125⟩, hb⟩
    refine ⟨_, rfl, ?_⟩
    clear henv a; intro a henv
    replace hst := (hst.call hb).addZ hz125 ⟨nou_bk rfl, nou_bk rfl, nou_bk rfl, nou_bk rfl, trivial⟩
    clear hz125
    clear hb
    refine ⟨.inr ⟨hst.kn.pick [0, 2, 3] (rg 2 5), .inr (hst.kn.pick [1] [])⟩, ?_⟩
    have hs127 := zl_add (v * pa) (x * (p * pb))
    refine sAny_one (i := 10) (by kernel_rfl) rfl rfl (op_call henv rfl Tryd.call49 rfl (add_z (x := (v * pa)) (y := x * (p * pb)) (show ZIn _ A118 c119 (v * pa) from hst.pat (k := 1) rfl) (show ZIn _ A123 c124 (x * (p * pb)) from hst.pat (k := 0) rfl) (by omega) (by omega)) ?_)
    rintro e w131 ⟨_, rfl, ⟨A128, c129, rfl, hz130⟩, hb⟩
    refine ⟨_, rfl, ?_⟩
    clear henv a; intro a henv
    replace hst := (hst.call hb).addZ hz130 ⟨nou_bk rfl, nou_bk rfl, nou_bk rfl, nou_bk rfl, trivial⟩
    clear hz130
    clear hb
    refine ⟨.inr ⟨hst.kn.pick [0, 2, 3] (rg 3 5), .inr (hst.kn.pick [1] [])⟩, ?_⟩
    refine sAny_one (i := 11) (by kernel_rfl) rfl rfl (op_store (k := 1) (c' := #[.bool (neg ((v * pa) + (x * (p * pb)))), .slice A128 (zl ((v * pa) + (x * (p * pb)))) c129]) henv hst (ty_anvil_integer_Int.size) rfl rfl rfl rfl (by simp) rfl rfl ?_)
    clear henv hst a; intro a w132 henv hst
    refine ⟨.inr ⟨hst.kn.pick [0, 2, 3] (rg 3 5), .inl rfl⟩, ?_⟩
    refine sAny_done (by kernel_rfl) ?_ _
    refine bl_n (th_n ?_)
    refine region_seq ?_
    revert a
    refine mA rfl rfl ?_
    refine sA (v := .int .i64 (((j : Nat) : Int) - 1)) rfl (fun _ henv => rn_sub henv rfl rfl (IntWalk.i64_in _ (by omega))) ?_
    refine aA rfl rfl ?_
    intro a henv
    refine wpList_nil ?_
    exact th_n ⟨_, (by omega), ⟨j, (v * pa + x * (p * pb)), A128, c129, (p * pb), A112, c113, rfl, henv.sub ⟨rfl, rfl, rfl, rfl, rfl, rfl, trivial⟩, hst.pick [0, 1, 2, 3] [3, 0, 7] (by decide), (by omega), (hval_step hvv hpp hlx hxj (by omega)), (by rw [hpp, ← Int.pow_succ, hlx]; congr 1; omega)⟩⟩
  · obtain rfl : i = 0 := by have := of_decide_eq_false hc111; omega
    rw [List.drop_zero] at hvv
    refine wp_exit ?_
    refine th_x (th_x (bl_x (th_n ?_)))
    refine wp_seq ?_
    refine region_seq ?_
    refine sv (v := .agg #[.bool (neg v), .slice Av (zl v) cv]) henv rfl (rn_load0 henv ty_anvil_integer_Int rfl (hst.oat (k := 1) rfl) rfl) ?_
    clear henv a; intro a henv
    refine seq_step rfl (op_store (k := 2) (c' := #[.bool (neg v), .slice Av (zl v) cv]) henv hst (ty_anvil_integer_Int.size) rfl rfl rfl rfl (by simp) rfl rfl ?_)
    clear henv hst a; intro a w133 henv hst
    refine sv (v := .int .i64 0) henv rfl (rn_assign henv rfl) ?_
    clear henv a; intro a henv
    refine wpList_nil ?_
    refine th_n ?_
    refine wp_ret ?_
    refine leave henv (res2 Tryd.results11 (RV.cell henv ty_anvil_integer_Int rfl (hst.oat (k := 2) rfl) rfl) (RV.tmp henv rfl)) ?_
    exact ⟨_, rfl, hvv ▸ ⟨_, _, rfl, hst.pat (k := 1) rfl⟩, hst.below⟩
set_option maxRecDepth 100000 in
set_option maxHeartbeats 4000000 in
theorem p_at_bad {A0 : Option Addr} {n0 c0 : Nat} {es0 : List NE} {xs : List Int} {pa pb : Int} {w0 : World} (h0 : (pfRow fN FN 2 A0 n0 c0 es0).P w0) (hz0 : es0.map zz = xs) (hbad : n0 = 0 ∨ ¬ (I16 pa ∧ I16 pb)) :
    Calls Tryd.prog 11 #[.slice A0 n0 c0, .agg #[.int .i64 pa, .int .i64 pb]] w0 fun e w' => ∃ v, e = .returned (.tuple #[v, .int .i64 2]) ∧ ZAt w' v 0 ∧ Below w0.heap.size w0 w' := by
  refine enter Tryd.func11 rfl Tryd.ntmps11 rfl ?_
  intro a henv hst
  have hlen0 := h0.2.1
  have hbig0 := Nat.le_trans h0.1.cap h0.1.big
  unfold maxLen at hbig0
  replace hst := hst.argRow h0
  clear h0
  have hlx : xs.length = n0 := by rw [← hz0, List.length_map]; exact hlen0
  refine wp_seq ?_
  refine region_seq ?_
  refine seq_step rfl (op_box (c := #[.int .i64 pa, .int .i64 pb]) henv hst rfl rfl rfl ?_)
  clear henv hst a; intro a w52 g51 henv hst
  refine seq_step rfl (op_alloc (c := #[.bool (neg 0), .slice none (zl 0) 0]) henv hst rfl zero_anvil_integer_Int zcells ?_)
  clear henv hst a; intro a w54 g53 henv hst
  refine sv (v := .int .i64 0) henv rfl (rn_assign henv rfl) ?_
  clear henv a; intro a henv
  refine wpList_nil ?_
  refine th_n ?_
  refine wp_seq ?_
  refine wp_seq ?_
  refine region_seq ?_
  revert a
  refine mA rfl rfl ?_
  refine sA (v := .int .i64 (n0 : Nat)) rfl (fun _ henv => rn_len henv Tryd.underlying32 rfl) ?_
  refine sA (v := .bool (((n0 : Nat) : Int) == (0 : Int))) rfl (fun _ henv => rn_bin henv rfl rfl rfl) ?_
  refine mA rfl rfl ?_
  intro a henv
  rcases bool_em (((n0 : Nat) : Int) == (0 : Int)) with hg55 | hg55
  · rw [hg55] at henv
    have hne := eq_of_beq hg55
    revert a
    refine kA rfl rfl rfl rfl rfl ?_
    refine kA rfl rfl rfl rfl rfl ?_
    refine kA rfl rfl rfl rfl rfl ?_
    refine sA (v := .bool true) rfl (fun _ henv => rn_pick henv rfl rfl) ?_
    intro a henv
    refine wpList_nil ?_
    refine th_n ?_
    refine if_t henv rfl (rfl) ?_
    refine wp_seq ?_
    refine region_seq ?_
    refine sv (v := .agg #[.bool (neg 0), .slice none (zl 0) 0]) henv rfl (rn_zint Tryd.underlying28 zero_anvil_integer_Int (by intro f hf; simp at hf; rcases hf with rfl | rfl <;> exact ⟨_, rfl⟩)) ?_
    clear henv a; intro a henv
    refine seq_step rfl (op_store (k := 0) (c' := #[.bool (neg 0), .slice none (zl 0) 0]) henv hst (ty_anvil_integer_Int.size) rfl rfl rfl rfl (by simp) rfl rfl ?_)
    clear henv hst a; intro a w56 henv hst
    refine sv (v := .int .i64 2) henv rfl (rn_assign henv rfl) ?_
    clear henv a; intro a henv
    refine wpList_nil ?_
    refine th_n ?_
    refine wp_ret ?_
    refine th_r ?_
    refine leave henv (res2 Tryd.results11 (RV.cell henv ty_anvil_integer_Int rfl (hst.oat (k := 0) rfl) rfl) (RV.tmp henv rfl)) ?_
    exact ⟨_, rfl, ⟨_, _, rfl, zin_none _⟩, hst.below⟩
  · rw [hg55] at henv
    have hne : n0 ≠ 0 := by have := ne_of_beq_false hg55; omega
    refine seq_g rfl henv rfl rfl (op_val (v := .agg #[.int .i64 pa, .int .i64 pb]) henv rfl (rn_load0 henv ty_anvil_api_Point rfl (hst.oat (k := 1) rfl) rfl) ?_)
    clear henv a; intro a henv
    refine seq_g rfl henv rfl rfl (op_call henv rfl Tryd.call40 rfl (pt_in (pa := pa) (pb := pb)) ?_)
    rintro e w57 ⟨rfl, hb⟩
    refine ⟨_, rfl, ?_⟩
    clear henv a; intro a henv
    replace hst := hst.call hb
    clear hb
    rw [show (decide (I16 pa ∧ I16 pb)) = false from (decide_eq_false (hbad.resolve_left hne))] at henv
    revert a
    refine gA (v := .bool true) rfl rfl rfl rfl (fun _ henv => rn_un henv rfl rfl) ?_
    refine sA (v := .bool true) rfl (fun _ henv => rn_pick henv rfl rfl) ?_
    intro a henv
    refine wpList_nil ?_
    refine th_n ?_
    refine if_t henv rfl (rfl) ?_
    refine wp_seq ?_
    refine region_seq ?_
    refine sv (v := .agg #[.bool (neg 0), .slice none (zl 0) 0]) henv rfl (rn_zint Tryd.underlying28 zero_anvil_integer_Int (by intro f hf; simp at hf; rcases hf with rfl | rfl <;> exact ⟨_, rfl⟩)) ?_
    clear henv a; intro a henv
    refine seq_step rfl (op_store (k := 0) (c' := #[.bool (neg 0), .slice none (zl 0) 0]) henv hst (ty_anvil_integer_Int.size) rfl rfl rfl rfl (by simp) rfl rfl ?_)
    clear henv hst a; intro a w58 henv hst
    refine sv (v := .int .i64 2) henv rfl (rn_assign henv rfl) ?_
    clear henv a; intro a henv
    refine wpList_nil ?_
    refine th_n ?_
    refine wp_ret ?_
    refine th_r ?_
    refine leave henv (res2 Tryd.results11 (RV.cell henv ty_anvil_integer_Int rfl (hst.oat (k := 0) rfl) rfl) (RV.tmp henv rfl)) ?_
    exact ⟨_, rfl, ⟨_, _, rfl, zin_none _⟩, hst.below⟩
set_option maxRecDepth 100000 in
set_option maxHeartbeats 4000000 in
theorem ref_at {A0 : Option Addr} {n0 c0 : Nat} {es0 : List NE} {xs : List Int} {pa pb : Int} {w0 : World} (h0 : (pfRow fM FM 2 A0 n0 c0 es0).P w0) (hz0 : es0.map zz = xs) (hI : I16 pa ∧ I16 pb) (hk : Zk 1000 xs) (hn : n0 ≤ 100) :
    Calls Tryd.prog 17 #[.slice A0 n0 c0, .agg #[.int .i64 pa, .int .i64 pb]] w0 fun e w' => ∃ v, e = .returned v ∧ RAt w' v (hval pa pb xs) ∧ Below w0.heap.size w0 w' := by
  have ha16 : -16 ≤ pa ∧ pa ≤ 16 := hI.1
  have hb16 : -16 ≤ pb ∧ pb ≤ 16 := hI.2
  refine enter Tryd.func17 rfl Tryd.ntmps17 rfl ?_
  intro a henv hst
  have hlen0 := h0.2.1
  have hbig0 := Nat.le_trans h0.1.cap h0.1.big
  unfold maxLen at hbig0
  replace hst := hst.argRow h0
  clear h0
  have hlx : xs.length = n0 := by rw [← hz0, List.length_map]; exact hlen0
  refine wp_seq ?_
  refine region_seq ?_
  refine seq_step rfl (op_box (c := #[.int .i64 pa, .int .i64 pb]) henv hst rfl rfl rfl ?_)
  clear henv hst a; intro a w52 g51 henv hst
  refine seq_step rfl (op_alloc (c := #[.bool (neg 0), .slice none (dl 0) 0]) henv hst rfl zero_anvil_anvilref02_Int rcells ?_)
  clear henv hst a; intro a w54 g53 henv hst
  refine wpList_nil ?_
  refine th_n ?_
  refine wp_seq ?_
  refine region_seq ?_
  refine sv (v := .agg #[.bool (neg 0), .slice none (dl 0) 0]) henv rfl (rn_zref) ?_
  clear henv a; intro a henv
  refine seq_step rfl (op_alloc (c := #[.bool (neg 0), .slice none (dl 0) 0]) henv hst rfl zero_anvil_anvilref02_Int rcells ?_)
  clear henv hst a; intro a w56 g55 henv hst
  refine seq_step rfl (op_store (k := 0) (c' := #[.bool (neg 0), .slice none (dl 0) 0]) henv hst (ty_anvil_anvilref02_Int.size) rfl rfl rfl rfl (by simp) rfl rfl ?_)
  clear henv hst a; intro a w57 henv hst
  refine wpList_nil ?_
  refine th_n ?_
  refine wp_seq ?_
  refine wp_seq ?_
  refine region_seq ?_
  refine sv (v := .int .i64 0) henv rfl (rn_assign henv rfl) ?_
  clear henv a; intro a henv
  refine wpList_nil ?_
  refine th_n ?_
  refine wp_block ?_
  replace hst := hst.addR (rin_none _) ⟨nou_bk rfl, nou_bk rfl, nou_bk rfl, trivial⟩
  refine wp_loop_ghost (fun mz a w => ∃ i : Nat, ∃ s : Int, ∃ As : Option Addr, ∃ cs : Nat, n0 - i = mz ∧ Env 39 a [(0, .slice A0 n0 c0), (3, .pointer (some ⟨g51, 0, none⟩)), (4, .pointer (some ⟨g53, 0, none⟩)), (5, .pointer (some ⟨g55, 0, none⟩)), (6, .int .i64 (i : Nat))] ∧ St w0 w [bk g55 #[.bool (neg s), .slice As (dl s) cs] 39, bk g53 #[.bool (neg 0), .slice none (dl 0) 0] 39, bk g51 #[.int .i64 pa, .int .i64 pb] 24] [pfR As cs s, pfRow fM FM 2 A0 n0 c0 es0] ∧ i ≤ n0 ∧ s = sg (fun t => co xs t * (pa ^ t * pb ^ (xs.length - 1 - t))) i ∧ zl s ≤ 1300 + i) _ ⟨0, 0, none, 0, rfl, henv.sub ⟨rfl, rfl, rfl, rfl, rfl, trivial⟩, hst.pick [0, 1, 2] [0, 1] (by decide), (Nat.zero_le _), rfl, (by rw [zl_zero]; omega)⟩ ?_
  clear henv hst a
  rintro mz a w58 ⟨i, s, As, cs, rfl, henv, hst, hi, hs, hss⟩
  have hds := dl_zl s
  refine wp_seq ?_
  refine wp_seq ?_
  refine region_seq ?_
  revert a
  refine mA rfl rfl ?_
  refine mA rfl rfl ?_
  refine sA (v := .int .i64 (n0 : Nat)) rfl (fun _ henv => rn_len henv Tryd.underlying42 rfl) ?_
  refine sA (v := .bool (decide (((i : Nat) : Int) < ((n0 : Nat) : Int)))) rfl (fun _ henv => rn_bin henv rfl rfl rfl) ?_
  intro a henv
  refine wpList_nil ?_
  refine th_n ?_
  refine if_split henv rfl (fun hc59 => ?_) (fun hc59 => ?_)
  · have hlt : i < n0 := by have := of_decide_eq_true hc59; omega
    obtain ⟨⟨A, c, x⟩, he0⟩ : ∃ e, es0[i]? = some e := ⟨_, List.getElem?_eq_getElem (by omega)⟩
    replace hst := hst.elem (k := 1) rfl he0
    replace hst : St w0 _ [bk g55 #[.bool (neg s), .slice As (dl s) cs] 39, bk g53 #[.bool (neg 0), .slice none (dl 0) 0] 39, bk g51 #[.int .i64 pa, .int .i64 pb] 24] [pfR A c x, pfR As cs s, pfRow fM FM 2 A0 n0 c0 es0] := hst
    replace hst : St w0 _ [bk g55 #[.bool (neg s), .slice As (dl s) cs] 39, bk g53 #[.bool (neg 0), .slice none (dl 0) 0] 39, bk g51 #[.int .i64 pa, .int .i64 pb] 24] [pfR A c x, pfR As cs s, pfRow fM FM 2 A0 n0 c0 es0] := hst
    have hxi : co xs i = x := by rw [co, List.getD_eq_getElem?_getD, ← hz0, List.getElem?_map, he0]; rfl
    have hsx : zl x ≤ 1000 := hk x (by rw [← hz0]; exact List.mem_map_of_mem (List.mem_of_getElem? he0))
    have hp1 := zl_p16 hI.1 i
    have hp2 := zl_p16 hI.2 (n0 - 1 - i)
    have hd1 := dl_zl (pa ^ i)
    have hd2 := dl_zl (pb ^ (n0 - 1 - i))
    have hdx := dl_zl x
    have hza := zl_16 hI.1
    have hzb := zl_16 hI.2
    have hda := dl_zl pa
    have hdb := dl_zl pb
    have hdm := dl_mul (pa ^ i) (pb ^ (n0 - 1 - i))
    refine wp_skip ?_
    refine th_n ?_
    refine wp_seq ?_
    refine wp_block ?_
    refine wp_seq ?_
    refine cut (fun a w => ∃ A61 : Option Addr, ∃ c62 : Nat, ∃ A65 : Option Addr, ∃ c66 : Nat, ∃ A69 : Option Addr, ∃ c70 : Nat, ∃ A73 : Option Addr, ∃ c74 : Nat, ∃ A78 : Option Addr, ∃ c79 : Nat, ∃ g82 : Nat, Env 39 a [(0, .slice A0 n0 c0), (3, .pointer (some ⟨g51, 0, none⟩)), (4, .pointer (some ⟨g53, 0, none⟩)), (5, .pointer (some ⟨g55, 0, none⟩)), (6, .int .i64 (i : Nat)), (9, .int .i64 (i : Nat)), (10, .slice A0 n0 c0), (11, .int .i64 (n0 : Nat)), (12, .bool (decide (((i : Nat) : Int) < ((n0 : Nat) : Int)))), (7, .pointer (some ⟨g82, 0, none⟩))] ∧ St w0 w [bk g82 #[.bool (neg ((pa ^ i) * (pb ^ ((n0 - 1) - i)))), .slice A78 (dl ((pa ^ i) * (pb ^ ((n0 - 1) - i)))) c79] 39, bk g55 #[.bool (neg s), .slice As (dl s) cs] 39, bk g53 #[.bool (neg 0), .slice none (dl 0) 0] 39, bk g51 #[.int .i64 pa, .int .i64 pb] 24] [pfR A78 c79 ((pa ^ i) * (pb ^ ((n0 - 1) - i))), pfR A73 c74 (pb ^ ((n0 - 1) - i)), pfR A69 c70 pb, pfR A65 c66 (pa ^ i), pfR A61 c62 pa, pfR A c x, pfR As cs s, pfRow fM FM 2 A0 n0 c0 es0]) ?_ ?_
    · refine region_any (n := 17) (Sk [bk g55 #[.bool (neg s), .slice As (dl s) cs] 39, bk g53 #[.bool (neg 0), .slice none (dl 0) 0] 39, bk g51 #[.int .i64 pa, .int .i64 pb] 24] [pfR A c x, pfR As cs s, pfRow fM FM 2 A0 n0 c0 es0] [16] []) mixed rfl henv hst ?_
      clear henv hst; intro w60 henv hst
      refine tA (i := 0) [1, 2, 4, 7, 13, 14, 16] (v := .pointer (some ⟨g51, 0, none⟩)) rfl (by kernel_rfl) (fun _ _ _ h => h) henv rfl (fun _ => rn_fieldAddr henv fd_anvil_api_Point_0 (ty_int.size) (by decide) rfl) ?_
      clear henv a; intro a henv
      refine sAny_take (i := 1) [2, 4, 7, 13, 14, 16] (fun w' => w'.heap[g51]? = some (.cells #[.int .i64 pa, .int .i64 pb] 24 (0, 0))) (v := .int .i64 pa) rfl (by kernel_rfl) (fun _ _ _ h => h) (fun _ _ _ hS => hS.1.oat (k := 2) rfl) henv rfl (hst.oat (k := 2) rfl) (fun w' hg => rn_load1 henv ty_int rfl hg rfl) ?_
      clear henv a; intro a henv
      refine tM (i := 3) [4, 7, 13, 14, 16] rfl (by kernel_rfl) (fun _ _ _ h => h) henv rfl rfl ?_
      clear henv a; intro a henv
      refine tA (i := 5) [6, 7, 13, 14, 16] (v := .pointer (some ⟨g51, 1, none⟩)) rfl (by kernel_rfl) (fun _ _ _ h => h) henv rfl (fun _ => rn_fieldAddr henv fd_anvil_api_Point_1 (ty_int.size) (by decide) rfl) ?_
      clear henv a; intro a henv
      refine sAny_take (i := 6) [7, 13, 14, 16] (fun w' => w'.heap[g51]? = some (.cells #[.int .i64 pa, .int .i64 pb] 24 (0, 0))) (v := .int .i64 pb) rfl (by kernel_rfl) (fun _ _ _ h => h) (fun _ _ _ hS => hS.1.oat (k := 2) rfl) henv rfl (hst.oat (k := 2) rfl) (fun w' hg => rn_load1 henv ty_int rfl hg rfl) ?_
      clear henv a; intro a henv
      refine tM (i := 8) [9, 10, 12, 13, 14, 16] rfl (by kernel_rfl) (fun _ _ _ h => h) henv rfl rfl ?_
      clear henv a; intro a henv
      refine tA (i := 9) [10, 12, 13, 14, 16] (v := .int .i64 (n0 : Nat)) rfl (by kernel_rfl) (fun _ _ _ h => h) henv rfl (fun _ => rn_len henv Tryd.underlying42 rfl) ?_
      clear henv a; intro a henv
      refine tA (i := 10) [12, 13, 14, 16] (v := .int .i64 (n0 - 1 : Nat)) rfl (by kernel_rfl) (fun _ _ _ h => h) henv rfl (fun _ => rn_sub henv rfl rfl (by rw [IntWalk.i64_in _ (by omega)]; omega)) ?_
      clear henv a; intro a henv
      refine tM (i := 11) [12, 13, 14, 16] rfl (by kernel_rfl) (fun _ _ _ h => h) henv rfl rfl ?_
      clear henv a; intro a henv
      refine tA (i := 12) [13, 14, 16] (v := .int .i64 ((n0 - 1) - i : Nat)) rfl (by kernel_rfl) (fun _ _ _ h => h) henv rfl (fun _ => rn_sub henv rfl rfl (by rw [IntWalk.i64_in _ (by omega)]; omega)) ?_
      clear henv a; intro a henv
      refine sAny_all (rs := [2, 15]) (by kernel_rfl) (by simp) ?_
      simp only [List.forall_mem_cons, List.not_mem_nil, false_implies, implies_true, and_true]
      refine ⟨?_, ?_⟩
      · refine ⟨_, rfl, rfl, op_call henv rfl Tryd.call36 rfl (of_r (n := pa) (by omega) (by omega)) ?_⟩
        rintro e w64 ⟨_, rfl, ⟨A61, c62, rfl, hz63⟩, hb⟩
        refine ⟨_, rfl, ?_⟩
        clear henv a; intro a henv
        replace hst := (hst.call hb).addR hz63 ⟨nou_bk rfl, nou_bk rfl, nou_bk rfl, trivial⟩
        clear hz63
        clear hb
        refine ⟨.inr ⟨hst.kn.pick [0, 1, 2] [1, 2, 3], .inr (hst.kn.pick [] [])⟩, ?_⟩
        refine sAny_all (rs := [4, 15]) (by kernel_rfl) (by simp) ?_
        simp only [List.forall_mem_cons, List.not_mem_nil, false_implies, implies_true, and_true]
        refine ⟨?_, ?_⟩
        · refine ⟨_, rfl, rfl, op_call henv rfl Tryd.call53 rfl (pow_r (x := pa) (n := i) (show RIn _ A61 c62 pa from hst.pat (k := 0) rfl) (by omega) (by omega)) ?_⟩
          rintro e w68 ⟨_, rfl, ⟨A65, c66, rfl, hz67⟩, hb⟩
          refine ⟨_, rfl, ?_⟩
          clear henv a; intro a henv
          replace hst := (hst.call hb).addR hz67 ⟨nou_bk rfl, nou_bk rfl, nou_bk rfl, trivial⟩
          clear hz67
          clear hb
          refine ⟨.inr ⟨hst.kn.pick [0, 1, 2] [2, 3, 4], .inr (hst.kn.pick [] [])⟩, ?_⟩
          refine sAny_all (rs := [7, 15]) (by kernel_rfl) (by simp) ?_
          simp only [List.forall_mem_cons, List.not_mem_nil, false_implies, implies_true, and_true]
          refine ⟨?_, ?_⟩
          · refine ⟨_, rfl, rfl, op_call henv rfl Tryd.call36 rfl (of_r (n := pb) (by omega) (by omega)) ?_⟩
            rintro e w72 ⟨_, rfl, ⟨A69, c70, rfl, hz71⟩, hb⟩
            refine ⟨_, rfl, ?_⟩
            clear henv a; intro a henv
            replace hst := (hst.call hb).addR hz71 ⟨nou_bk rfl, nou_bk rfl, nou_bk rfl, trivial⟩
            clear hz71
            clear hb
            refine ⟨.inr ⟨hst.kn.pick [0, 1, 2] [3, 4, 5], .inr (hst.kn.pick [] [])⟩, ?_⟩
            refine sAny_all (rs := [13, 15]) (by kernel_rfl) (by simp) ?_
            simp only [List.forall_mem_cons, List.not_mem_nil, false_implies, implies_true, and_true]
            refine ⟨?_, ?_⟩
            · refine ⟨_, rfl, rfl, op_call henv rfl Tryd.call53 rfl (pow_r (x := pb) (n := (n0 - 1) - i) (show RIn _ A69 c70 pb from hst.pat (k := 0) rfl) (by omega) (by omega)) ?_⟩
              rintro e w76 ⟨_, rfl, ⟨A73, c74, rfl, hz75⟩, hb⟩
              refine ⟨_, rfl, ?_⟩
              clear henv a; intro a henv
              replace hst := (hst.call hb).addR hz75 ⟨nou_bk rfl, nou_bk rfl, nou_bk rfl, trivial⟩
              clear hz75
              clear hb
              refine ⟨.inr ⟨hst.kn.pick [0, 1, 2] [4, 5, 6], .inr (hst.kn.pick [] [])⟩, ?_⟩
              refine sAny_all (rs := [14, 15]) (by kernel_rfl) (by simp) ?_
              simp only [List.forall_mem_cons, List.not_mem_nil, false_implies, implies_true, and_true]
              refine ⟨?_, ?_⟩
              · have hs77 := dl_mul (pa ^ i) (pb ^ ((n0 - 1) - i))
                refine ⟨_, rfl, rfl, op_call henv rfl Tryd.call52 rfl (mul_r (x := (pa ^ i)) (y := (pb ^ ((n0 - 1) - i))) (show RIn _ A65 c66 (pa ^ i) from hst.pat (k := 2) rfl) (show RIn _ A73 c74 (pb ^ ((n0 - 1) - i)) from hst.pat (k := 0) rfl) (by omega) (by omega)) ?_⟩
                rintro e w81 ⟨_, rfl, ⟨A78, c79, rfl, hz80⟩, hb⟩
                refine ⟨_, rfl, ?_⟩
                clear henv a; intro a henv
                replace hst := (hst.call hb).addR hz80 ⟨nou_bk rfl, nou_bk rfl, nou_bk rfl, trivial⟩
                clear hz80
                clear hb
                refine ⟨.inr ⟨hst.kn.pick [0, 1, 2] [5, 6, 7], .inr (hst.kn.pick [] [])⟩, ?_⟩
                refine sAny_one (i := 15) (by kernel_rfl) rfl rfl (op_alloc (c := #[.bool (neg 0), .slice none (dl 0) 0]) henv hst rfl zero_anvil_anvilref02_Int rcells ?_)
                clear henv hst a; intro a w83 g82 henv hst
                refine ⟨.inr ⟨hst.kn.pick [1, 2, 3] [5, 6, 7], .inr (hst.kn.pick [] [])⟩, ?_⟩
                refine sAny_one (i := 16) (by kernel_rfl) rfl rfl (op_store (k := 0) (c' := #[.bool (neg ((pa ^ i) * (pb ^ ((n0 - 1) - i)))), .slice A78 (dl ((pa ^ i) * (pb ^ ((n0 - 1) - i)))) c79]) henv hst (ty_anvil_anvilref02_Int.size) rfl rfl rfl rfl (by simp) rfl rfl ?_)
                clear henv hst a; intro a w84 henv hst
                refine ⟨.inr ⟨hst.kn.pick [1, 2, 3] [5, 6, 7], .inl rfl⟩, ?_⟩
                refine sAny_done (by kernel_rfl) ?_ _
                exact th_n ⟨A61, c62, A65, c66, A69, c70, A73, c74, A78, c79, g82, henv.sub ⟨rfl, rfl, rfl, rfl, rfl, rfl, rfl, rfl, rfl, rfl, trivial⟩, hst.pick [0, 1, 2, 3] [0, 1, 2, 3, 4, 5, 6, 7] (by decide)⟩
              · refine ⟨_, rfl, rfl, op_alloc (c := #[.bool (neg 0), .slice none (dl 0) 0]) henv hst rfl zero_anvil_anvilref02_Int rcells ?_⟩
                clear henv hst a; intro a w86 g85 henv hst
                refine ⟨.inr ⟨hst.kn.pick [1, 2, 3] [4, 5, 6], .inr (hst.kn.pick [] [])⟩, ?_⟩
                have hs87 := dl_mul (pa ^ i) (pb ^ ((n0 - 1) - i))
                refine sAny_one (i := 14) (by kernel_rfl) rfl rfl (op_call henv rfl Tryd.call52 rfl (mul_r (x := (pa ^ i)) (y := (pb ^ ((n0 - 1) - i))) (show RIn _ A65 c66 (pa ^ i) from hst.pat (k := 2) rfl) (show RIn _ A73 c74 (pb ^ ((n0 - 1) - i)) from hst.pat (k := 0) rfl) (by omega) (by omega)) ?_)
                rintro e w91 ⟨_, rfl, ⟨A88, c89, rfl, hz90⟩, hb⟩
                refine ⟨_, rfl, ?_⟩
                clear henv a; intro a henv
                replace hst := (hst.call hb).addR hz90 ⟨nou_bk rfl, nou_bk rfl, nou_bk rfl, nou_bk rfl, trivial⟩
                clear hz90
                clear hb
                refine ⟨.inr ⟨hst.kn.pick [1, 2, 3] [5, 6, 7], .inr (hst.kn.pick [] [])⟩, ?_⟩
                refine sAny_one (i := 16) (by kernel_rfl) rfl rfl (op_store (k := 0) (c' := #[.bool (neg ((pa ^ i) * (pb ^ ((n0 - 1) - i)))), .slice A88 (dl ((pa ^ i) * (pb ^ ((n0 - 1) - i)))) c89]) henv hst (ty_anvil_anvilref02_Int.size) rfl rfl rfl rfl (by simp) rfl rfl ?_)
                clear henv hst a; intro a w92 henv hst
                refine ⟨.inr ⟨hst.kn.pick [1, 2, 3] [5, 6, 7], .inl rfl⟩, ?_⟩
                refine sAny_done (by kernel_rfl) ?_ _
                exact th_n ⟨A61, c62, A65, c66, A69, c70, A73, c74, A88, c89, g85, henv.sub ⟨rfl, rfl, rfl, rfl, rfl, rfl, rfl, rfl, rfl, rfl, trivial⟩, hst.pick [0, 1, 2, 3] [0, 1, 2, 3, 4, 5, 6, 7] (by decide)⟩
            · refine ⟨_, rfl, rfl, op_alloc (c := #[.bool (neg 0), .slice none (dl 0) 0]) henv hst rfl zero_anvil_anvilref02_Int rcells ?_⟩
              clear henv hst a; intro a w94 g93 henv hst
              refine ⟨.inr ⟨hst.kn.pick [1, 2, 3] [3, 4, 5], .inr (hst.kn.pick [] [])⟩, ?_⟩
              refine sAny_one (i := 13) (by kernel_rfl) rfl rfl (op_call henv rfl Tryd.call53 rfl (pow_r (x := pb) (n := (n0 - 1) - i) (show RIn _ A69 c70 pb from hst.pat (k := 0) rfl) (by omega) (by omega)) ?_)
              rintro e w98 ⟨_, rfl, ⟨A95, c96, rfl, hz97⟩, hb⟩
              refine ⟨_, rfl, ?_⟩
              clear henv a; intro a henv
              replace hst := (hst.call hb).addR hz97 ⟨nou_bk rfl, nou_bk rfl, nou_bk rfl, nou_bk rfl, trivial⟩
              clear hz97
              clear hb
              refine ⟨.inr ⟨hst.kn.pick [1, 2, 3] [4, 5, 6], .inr (hst.kn.pick [] [])⟩, ?_⟩
              have hs99 := dl_mul (pa ^ i) (pb ^ ((n0 - 1) - i))
              refine sAny_one (i := 14) (by kernel_rfl) rfl rfl (op_call henv rfl Tryd.call52 rfl (mul_r (x := (pa ^ i)) (y := (pb ^ ((n0 - 1) - i))) (show RIn _ A65 c66 (pa ^ i) from hst.pat (k := 2) rfl) (show RIn _ A95 c96 (pb ^ ((n0 - 1) - i)) from hst.pat (k := 0) rfl) (by omega) (by omega)) ?_)
              rintro e w103 ⟨_, rfl, ⟨A100, c101, rfl, hz102⟩, hb⟩
              refine ⟨_, rfl, ?_⟩
              clear henv a; intro a henv
              replace hst := (hst.call hb).addR hz102 ⟨nou_bk rfl, nou_bk rfl, nou_bk rfl, nou_bk rfl, trivial⟩
              clear hz102
              clear hb
              refine ⟨.inr ⟨hst.kn.pick [1, 2, 3] [5, 6, 7], .inr (hst.kn.pick [] [])⟩, ?_⟩
              refine sAny_one (i := 16) (by kernel_rfl) rfl rfl (op_store (k := 0) (c' := #[.bool (neg ((pa ^ i) * (pb ^ ((n0 - 1) - i)))), .slice A100 (dl ((pa ^ i) * (pb ^ ((n0 - 1) - i)))) c101]) henv hst (ty_anvil_anvilref02_Int.size) rfl rfl rfl rfl (by simp) rfl rfl ?_)
              clear henv hst a; intro a w104 henv hst
              refine ⟨.inr ⟨hst.kn.pick [1, 2, 3] [5, 6, 7], .inl rfl⟩, ?_⟩
              refine sAny_done (by kernel_rfl) ?_ _
              exact th_n ⟨A61, c62, A65, c66, A69, c70, A95, c96, A100, c101, g93, henv.sub ⟨rfl, rfl, rfl, rfl, rfl, rfl, rfl, rfl, rfl, rfl, trivial⟩, hst.pick [0, 1, 2, 3] [0, 1, 2, 3, 4, 5, 6, 7] (by decide)⟩
          · refine ⟨_, rfl, rfl, op_alloc (c := #[.bool (neg 0), .slice none (dl 0) 0]) henv hst rfl zero_anvil_anvilref02_Int rcells ?_⟩
            clear henv hst a; intro a w106 g105 henv hst
            refine ⟨.inr ⟨hst.kn.pick [1, 2, 3] [2, 3, 4], .inr (hst.kn.pick [] [])⟩, ?_⟩
            refine sAny_one (i := 7) (by kernel_rfl) rfl rfl (op_call henv rfl Tryd.call36 rfl (of_r (n := pb) (by omega) (by omega)) ?_)
            rintro e w110 ⟨_, rfl, ⟨A107, c108, rfl, hz109⟩, hb⟩
            refine ⟨_, rfl, ?_⟩
            clear henv a; intro a henv
            replace hst := (hst.call hb).addR hz109 ⟨nou_bk rfl, nou_bk rfl, nou_bk rfl, nou_bk rfl, trivial⟩
            clear hz109
            clear hb
            refine ⟨.inr ⟨hst.kn.pick [1, 2, 3] [3, 4, 5], .inr (hst.kn.pick [] [])⟩, ?_⟩
            refine sAny_one (i := 13) (by kernel_rfl) rfl rfl (op_call henv rfl Tryd.call53 rfl (pow_r (x := pb) (n := (n0 - 1) - i) (show RIn _ A107 c108 pb from hst.pat (k := 0) rfl) (by omega) (by omega)) ?_)
            rintro e w114 ⟨_, rfl, ⟨A111, c112, rfl, hz113⟩, hb⟩
            refine ⟨_, rfl, ?_⟩
            clear henv a; intro a henv
            replace hst := (hst.call hb).addR hz113 ⟨nou_bk rfl, nou_bk rfl, nou_bk rfl, nou_bk rfl, trivial⟩
            clear hz113
            clear hb
            refine ⟨.inr ⟨hst.kn.pick [1, 2, 3] [4, 5, 6], .inr (hst.kn.pick [] [])⟩, ?_⟩
            have hs115 := dl_mul (pa ^ i) (pb ^ ((n0 - 1) - i))
            refine sAny_one (i := 14) (by kernel_rfl) rfl rfl (op_call henv rfl Tryd.call52 rfl (mul_r (x := (pa ^ i)) (y := (pb ^ ((n0 - 1) - i))) (show RIn _ A65 c66 (pa ^ i) from hst.pat (k := 2) rfl) (show RIn _ A111 c112 (pb ^ ((n0 - 1) - i)) from hst.pat (k := 0) rfl) (by omega) (by omega)) ?_)
            rintro e w119 ⟨_, rfl, ⟨A116, c117, rfl, hz118⟩, hb⟩
            refine ⟨_, rfl, ?_⟩
            clear henv a; intro a henv
            replace hst := (hst.call hb).addR hz118 ⟨nou_bk rfl, nou_bk rfl, nou_bk rfl, nou_bk rfl, trivial⟩
            clear hz118
            clear hb
            refine ⟨.inr ⟨hst.kn.pick [1, 2, 3] [5, 6, 7], .inr (hst.kn.pick [] [])⟩, ?_⟩
            refine sAny_one (i := 16) (by kernel_rfl) rfl rfl (op_store (k := 0) (c' := #[.bool (neg ((pa ^ i) * (pb ^ ((n0 - 1) - i)))), .slice A116 (dl ((pa ^ i) * (pb ^ ((n0 - 1) - i)))) c117]) henv hst (ty_anvil_anvilref02_Int.size) rfl rfl rfl rfl (by simp) rfl rfl ?_)
            clear henv hst a; intro a w120 henv hst
            refine ⟨.inr ⟨hst.kn.pick [1, 2, 3] [5, 6, 7], .inl rfl⟩, ?_⟩
            refine sAny_done (by kernel_rfl) ?_ _
            exact th_n ⟨A61, c62, A65, c66, A107, c108, A111, c112, A116, c117, g105, henv.sub ⟨rfl, rfl, rfl, rfl, rfl, rfl, rfl, rfl, rfl, rfl, trivial⟩, hst.pick [0, 1, 2, 3] [0, 1, 2, 3, 4, 5, 6, 7] (by decide)⟩
        · refine ⟨_, rfl, rfl, op_alloc (c := #[.bool (neg 0), .slice none (dl 0) 0]) henv hst rfl zero_anvil_anvilref02_Int rcells ?_⟩
          clear henv hst a; intro a w122 g121 henv hst
          refine ⟨.inr ⟨hst.kn.pick [1, 2, 3] [1, 2, 3], .inr (hst.kn.pick [] [])⟩, ?_⟩
          refine sAny_one (i := 4) (by kernel_rfl) rfl rfl (op_call henv rfl Tryd.call53 rfl (pow_r (x := pa) (n := i) (show RIn _ A61 c62 pa from hst.pat (k := 0) rfl) (by omega) (by omega)) ?_)
          rintro e w126 ⟨_, rfl, ⟨A123, c124, rfl, hz125⟩, hb⟩
          refine ⟨_, rfl, ?_⟩
          clear henv a; intro a henv
          replace hst := (hst.call hb).addR hz125 ⟨nou_bk rfl, nou_bk rfl, nou_bk rfl, nou_bk rfl, trivial⟩
          clear hz125
          clear hb
          refine ⟨.inr ⟨hst.kn.pick [1, 2, 3] [2, 3, 4], .inr (hst.kn.pick [] [])⟩, ?_⟩
          refine sAny_one (i := 7) (by kernel_rfl) rfl rfl (op_call henv rfl Tryd.call36 rfl (of_r (n := pb) (by omega) (by omega)) ?_)
          rintro e w130 ⟨_, rfl, ⟨A127, c128, rfl, hz129⟩, hb⟩
          refine ⟨_, rfl, ?_⟩
          clear henv a; intro a henv
          replace hst := (hst.call hb).addR hz129 ⟨nou_bk rfl, nou_bk rfl, nou_bk rfl, nou_bk rfl, trivial⟩
          clear hz129
          clear hb
          refine ⟨.inr ⟨hst.kn.pick [1, 2, 3] [3, 4, 5], .inr (hst.kn.pick [] [])⟩, ?_⟩
          refine sAny_one (i := 13) (by kernel_rfl) rfl rfl (op_call henv rfl Tryd.call53 rfl (pow_r (x := pb) (n := (n0 - 1) - i) (show RIn _ A127 c128 pb from hst.pat (k := 0) rfl) (by omega) (by omega)) ?_)
          rintro e w134 ⟨_, rfl, ⟨A131, c132, rfl, hz133⟩, hb⟩
          refine ⟨_, rfl, ?_⟩
          clear henv a; intro a henv
          replace hst := (hst.call hb).addR hz133 ⟨nou_bk rfl, nou_bk rfl, nou_bk rfl, nou_bk rfl, trivial⟩
          clear hz133
          clear hb
          refine ⟨.inr ⟨hst.kn.pick [1, 2, 3] [4, 5, 6], .inr (hst.kn.pick [] [])⟩, ?_⟩
          have hs135 := dl_mul (pa ^ i) (pb ^ ((n0 - 1) - i))
          refine sAny_one (i := 14) (by kernel_rfl) rfl rfl (op_call henv rfl Tryd.call52 rfl (mul_r (x := (pa ^ i)) (y := (pb ^ ((n0 - 1) - i))) (show RIn _ A123 c124 (pa ^ i) from hst.pat (k := 2) rfl) (show RIn _ A131 c132 (pb ^ ((n0 - 1) - i)) from hst.pat (k := 0) rfl) (by omega) (by omega)) ?_)
          rintro e w139 ⟨_, rfl, ⟨A136, c137, rfl, hz138⟩, hb⟩
          refine ⟨_, rfl, ?_⟩
          clear henv a; intro a henv
          replace hst := (hst.call hb).addR hz138 ⟨nou_bk rfl, nou_bk rfl, nou_bk rfl, nou_bk rfl, trivial⟩
          clear hz138
          clear hb
          refine ⟨.inr ⟨hst.kn.pick [1, 2, 3] [5, 6, 7], .inr (hst.kn.pick [] [])⟩, ?_⟩
          refine sAny_one (i := 16) (by kernel_rfl) rfl rfl (op_store (k := 0) (c' := #[.bool (neg ((pa ^ i) * (pb ^ ((n0 - 1) - i)))), .slice A136 (dl ((pa ^ i) * (pb ^ ((n0 - 1) - i)))) c137]) henv hst (ty_anvil_anvilref02_Int.size) rfl rfl rfl rfl (by simp) rfl rfl ?_)
          clear henv hst a; intro a w140 henv hst
          refine ⟨.inr ⟨hst.kn.pick [1, 2, 3] [5, 6, 7], .inl rfl⟩, ?_⟩
          refine sAny_done (by kernel_rfl) ?_ _
          exact th_n ⟨A61, c62, A123, c124, A127, c128, A131, c132, A136, c137, g121, henv.sub ⟨rfl, rfl, rfl, rfl, rfl, rfl, rfl, rfl, rfl, rfl, trivial⟩, hst.pick [0, 1, 2, 3] [0, 1, 2, 3, 4, 5, 6, 7] (by decide)⟩
      · refine ⟨_, rfl, rfl, op_alloc (c := #[.bool (neg 0), .slice none (dl 0) 0]) henv hst rfl zero_anvil_anvilref02_Int rcells ?_⟩
        clear henv hst a; intro a w142 g141 henv hst
        refine ⟨.inr ⟨hst.kn.pick [1, 2, 3] [0, 1, 2], .inr (hst.kn.pick [] [])⟩, ?_⟩
        refine sAny_one (i := 2) (by kernel_rfl) rfl rfl (op_call henv rfl Tryd.call36 rfl (of_r (n := pa) (by omega) (by omega)) ?_)
        rintro e w146 ⟨_, rfl, ⟨A143, c144, rfl, hz145⟩, hb⟩
        refine ⟨_, rfl, ?_⟩
        clear henv a; intro a henv
        replace hst := (hst.call hb).addR hz145 ⟨nou_bk rfl, nou_bk rfl, nou_bk rfl, nou_bk rfl, trivial⟩
        clear hz145
        clear hb
        refine ⟨.inr ⟨hst.kn.pick [1, 2, 3] [1, 2, 3], .inr (hst.kn.pick [] [])⟩, ?_⟩
        refine sAny_one (i := 4) (by kernel_rfl) rfl rfl (op_call henv rfl Tryd.call53 rfl (pow_r (x := pa) (n := i) (show RIn _ A143 c144 pa from hst.pat (k := 0) rfl) (by omega) (by omega)) ?_)
        rintro e w150 ⟨_, rfl, ⟨A147, c148, rfl, hz149⟩, hb⟩
        refine ⟨_, rfl, ?_⟩
        clear henv a; intro a henv
        replace hst := (hst.call hb).addR hz149 ⟨nou_bk rfl, nou_bk rfl, nou_bk rfl, nou_bk rfl, trivial⟩
        clear hz149
        clear hb
        refine ⟨.inr ⟨hst.kn.pick [1, 2, 3] [2, 3, 4], .inr (hst.kn.pick [] [])⟩, ?_⟩
        refine sAny_one (i := 7) (by kernel_rfl) rfl rfl (op_call henv rfl Tryd.call36 rfl (of_r (n := pb) (by omega) (by omega)) ?_)
        rintro e w154 ⟨_, rfl, ⟨A151, c152, rfl, hz153⟩, hb⟩
        refine ⟨_, rfl, ?_⟩
        clear henv a; intro a henv
        replace hst := (hst.call hb).addR hz153 ⟨nou_bk rfl, nou_bk rfl, nou_bk rfl, nou_bk rfl, trivial⟩
        clear hz153
        clear hb
        refine ⟨.inr ⟨hst.kn.pick [1, 2, 3] [3, 4, 5], .inr (hst.kn.pick [] [])⟩, ?_⟩
        refine sAny_one (i := 13) (by kernel_rfl) rfl rfl (op_call henv rfl Tryd.call53 rfl (pow_r (x := pb) (n := (n0 - 1) - i) (show RIn _ A151 c152 pb from hst.pat (k := 0) rfl) (by omega) (by omega)) ?_)
        rintro e w158 ⟨_, rfl, ⟨A155, c156, rfl, hz157⟩, hb⟩
        refine ⟨_, rfl, ?_⟩
        clear henv a; intro a henv
        replace hst := (hst.call hb).addR hz157 ⟨nou_bk rfl, nou_bk rfl, nou_bk rfl, nou_bk rfl, trivial⟩
        clear hz157
        clear hb
        refine ⟨.inr ⟨hst.kn.pick [1, 2, 3] [4, 5, 6], .inr (hst.kn.pick [] [])⟩, ?_⟩
        have hs159 := dl_mul (pa ^ i) (pb ^ ((n0 - 1) - i))
        refine sAny_one (i := 14) (by kernel_rfl) rfl rfl (op_call henv rfl Tryd.call52 rfl (mul_r (x := (pa ^ i)) (y := (pb ^ ((n0 - 1) - i))) (show RIn _ A147 c148 (pa ^ i) from hst.pat (k := 2) rfl) (show RIn _ A155 c156 (pb ^ ((n0 - 1) - i)) from hst.pat (k := 0) rfl) (by omega) (by omega)) ?_)
        rintro e w163 ⟨_, rfl, ⟨A160, c161, rfl, hz162⟩, hb⟩
        refine ⟨_, rfl, ?_⟩
        clear henv a; intro a henv
        replace hst := (hst.call hb).addR hz162 ⟨nou_bk rfl, nou_bk rfl, nou_bk rfl, nou_bk rfl, trivial⟩
        clear hz162
        clear hb
        refine ⟨.inr ⟨hst.kn.pick [1, 2, 3] [5, 6, 7], .inr (hst.kn.pick [] [])⟩, ?_⟩
        refine sAny_one (i := 16) (by kernel_rfl) rfl rfl (op_store (k := 0) (c' := #[.bool (neg ((pa ^ i) * (pb ^ ((n0 - 1) - i)))), .slice A160 (dl ((pa ^ i) * (pb ^ ((n0 - 1) - i)))) c161]) henv hst (ty_anvil_anvilref02_Int.size) rfl rfl rfl rfl (by simp) rfl rfl ?_)
        clear henv hst a; intro a w164 henv hst
        refine ⟨.inr ⟨hst.kn.pick [1, 2, 3] [5, 6, 7], .inl rfl⟩, ?_⟩
        refine sAny_done (by kernel_rfl) ?_ _
        exact th_n ⟨A143, c144, A147, c148, A151, c152, A155, c156, A160, c161, g141, henv.sub ⟨rfl, rfl, rfl, rfl, rfl, rfl, rfl, rfl, rfl, rfl, trivial⟩, hst.pick [0, 1, 2, 3] [0, 1, 2, 3, 4, 5, 6, 7] (by decide)⟩
    clear henv hst a
    rintro a w165 ⟨A61, c62, A65, c66, A69, c70, A73, c74, A78, c79, g82, henv, hst⟩
    refine region_any (n := 9) (Sk [bk g82 #[.bool (neg ((pa ^ i) * (pb ^ ((n0 - 1) - i)))), .slice A78 (dl ((pa ^ i) * (pb ^ ((n0 - 1) - i)))) c79] 39, bk g53 #[.bool (neg 0), .slice none (dl 0) 0] 39, bk g51 #[.int .i64 pa, .int .i64 pb] 24] [pfR A78 c79 ((pa ^ i) * (pb ^ ((n0 - 1) - i))), pfR A73 c74 (pb ^ ((n0 - 1) - i)), pfR A69 c70 pb, pfR A65 c66 (pa ^ i), pfR A61 c62 pa, pfR A c x, pfR As cs s, pfRow fM FM 2 A0 n0 c0 es0] [8] [bk g55 #[.bool (neg s), .slice As (dl s) cs] 39]) mixed rfl henv hst ?_
    clear henv hst; intro w166 henv hst
    refine sAny_take (i := 0) [7, 8] (fun w' => w'.heap[g55]? = some (.cells #[.bool (neg s), .slice As (dl s) cs] 39 (0, 0))) (v := .agg #[.bool (neg s), .slice As (dl s) cs]) rfl (by kernel_rfl) (fun _ _ _ h => h) (fun _ _ hj hS => (hS.two rfl hj).oat (k := 0) rfl) henv rfl (hst.oat (k := 1) rfl) (fun w' hg => rn_load0 henv ty_anvil_anvilref02_Int rfl hg rfl) ?_
    clear henv a; intro a henv
    refine tM (i := 1) [3, 4, 6, 7, 8] rfl (by kernel_rfl) (fun _ _ _ h => h) henv rfl rfl ?_
    clear henv a; intro a henv
    refine tM (i := 2) [3, 4, 6, 7, 8] rfl (by kernel_rfl) (fun _ _ _ h => h) henv rfl rfl ?_
    clear henv a; intro a henv
    refine sAny_take (i := 3) [4, 6, 7, 8] (fun w' => (pfRow fM FM 2 A0 n0 c0 es0).P w') (v := .pointer (some ⟨ab A0, ao A0 + i * 2, none⟩)) rfl (by kernel_rfl) (fun _ _ _ h => h) (fun _ _ _ hS => hS.1.pat (k := 7) rfl) henv rfl (hst.pat (k := 7) rfl) (fun w' hg => rn_idxR (i := i) henv Tryd.underlying42 (ty_anvil_anvilref02_Int.size) rfl rfl (by omega) rfl (show (pfRow fM FM 2 A0 n0 c0 es0).P _ from hg).1) ?_
    clear henv a; intro a henv
    refine sAny_take (i := 4) [6, 7, 8] (fun w' => (pfRow fM FM 2 A0 n0 c0 es0).P w') (v := .agg #[.bool (neg x), .slice A (dl x) c]) rfl (by kernel_rfl) (fun _ _ _ h => h) (fun _ _ _ hS => hS.1.pat (k := 7) rfl) henv rfl (hst.pat (k := 7) rfl) (fun w' hg => rn_loadE (i := i) (e := (A, c, x)) henv ty_anvil_anvilref02_Int rfl rfl fM_len (show (pfRow fM FM 2 A0 n0 c0 es0).P _ from hg).1 (by omega) he0 rfl) ?_
    clear henv a; intro a henv
    refine tL (i := 5) 0 0 [6, 7, 8] rfl (by kernel_rfl) (fun _ _ _ h => h) henv rfl ty_anvil_anvilref02_Int rfl hst rfl rfl rfl ?_
    clear henv a; intro a henv
    have hs167 := dl_mul x ((pa ^ i) * (pb ^ ((n0 - 1) - i)))
    refine sAny_one (i := 6) (by kernel_rfl) rfl rfl (op_call henv rfl Tryd.call52 rfl (mul_r (x := x) (y := (pa ^ i) * (pb ^ ((n0 - 1) - i))) (show RIn _ A c x from hst.pat (k := 5) rfl) (show RIn _ A78 c79 ((pa ^ i) * (pb ^ ((n0 - 1) - i))) from hst.pat (k := 0) rfl) (by omega) (by omega)) ?_)
    rintro e w171 ⟨_, rfl, ⟨A168, c169, rfl, hz170⟩, hb⟩
    refine ⟨_, rfl, ?_⟩
    clear henv a; intro a henv
    replace hst := (hst.call hb).addR hz170 ⟨nou_bk rfl, nou_bk rfl, nou_bk rfl, nou_bk rfl, trivial⟩
    clear hz170
    clear hb
    refine ⟨.inr ⟨hst.kn.pick [0, 2, 3] (rg 1 8), .inr (hst.kn.pick [1] [])⟩, ?_⟩
    have hs172 := dl_add s (x * ((pa ^ i) * (pb ^ ((n0 - 1) - i))))
    refine sAny_one (i := 7) (by kernel_rfl) rfl rfl (op_call henv rfl Tryd.call54 rfl (add_r (x := s) (y := x * ((pa ^ i) * (pb ^ ((n0 - 1) - i)))) (show RIn _ As cs s from hst.pat (k := 7) rfl) (show RIn _ A168 c169 (x * ((pa ^ i) * (pb ^ ((n0 - 1) - i)))) from hst.pat (k := 0) rfl) (by omega) (by omega)) ?_)
    rintro e w176 ⟨_, rfl, ⟨A173, c174, rfl, hz175⟩, hb⟩
    refine ⟨_, rfl, ?_⟩
    clear henv a; intro a henv
    replace hst := (hst.call hb).addR hz175 ⟨nou_bk rfl, nou_bk rfl, nou_bk rfl, nou_bk rfl, trivial⟩
    clear hz175
    clear hb
    refine ⟨.inr ⟨hst.kn.pick [0, 2, 3] (rg 2 8), .inr (hst.kn.pick [1] [])⟩, ?_⟩
    refine sAny_one (i := 8) (by kernel_rfl) rfl rfl (op_store (k := 1) (c' := #[.bool (neg (s + (x * ((pa ^ i) * (pb ^ ((n0 - 1) - i)))))), .slice A173 (dl (s + (x * ((pa ^ i) * (pb ^ ((n0 - 1) - i)))))) c174]) henv hst (ty_anvil_anvilref02_Int.size) rfl rfl rfl rfl (by simp) rfl rfl ?_)
    clear henv hst a; intro a w177 henv hst
    refine ⟨.inr ⟨hst.kn.pick [0, 2, 3] (rg 2 8), .inl rfl⟩, ?_⟩
    refine sAny_done (by kernel_rfl) ?_ _
    refine bl_n (th_n ?_)
    refine region_seq ?_
    revert a
    refine mA rfl rfl ?_
    refine sA (v := .int .i64 (i + 1 : Nat)) rfl (fun _ henv => rn_add henv rfl rfl (by rw [IntWalk.i64_in _ (by omega)]; omega)) ?_
    refine aA rfl rfl ?_
    intro a henv
    refine wpList_nil ?_
    exact th_n ⟨_, (by omega), ⟨i + 1, (s + x * (pa ^ i * pb ^ (n0 - 1 - i))), A173, c174, rfl, henv.sub ⟨rfl, rfl, rfl, rfl, rfl, trivial⟩, hst.pick [1, 2, 3] [0, 9] (by decide), (by omega), (by rw [sg, ← hs, hlx, hxi]), (by have := zl_addm s (x * (pa ^ i * pb ^ (n0 - 1 - i))); have := zl_mul x (pa ^ i * pb ^ (n0 - 1 - i)); have := zl_mul (pa ^ i) (pb ^ (n0 - 1 - i)); omega)⟩⟩
  · obtain rfl : n0 = i := by have := of_decide_eq_false hc59; omega
    refine wp_exit ?_
    refine th_x (th_x (bl_x (th_n ?_)))
    refine wp_seq ?_
    refine region_seq ?_
    refine sv (v := .agg #[.bool (neg s), .slice As (dl s) cs]) henv rfl (rn_load0 henv ty_anvil_anvilref02_Int rfl (hst.oat (k := 0) rfl) rfl) ?_
    clear henv a; intro a henv
    refine seq_step rfl (op_store (k := 1) (c' := #[.bool (neg s), .slice As (dl s) cs]) henv hst (ty_anvil_anvilref02_Int.size) rfl rfl rfl rfl (by simp) rfl rfl ?_)
    clear henv hst a; intro a w178 henv hst
    refine wpList_nil ?_
    refine th_n ?_
    refine wp_ret ?_
    refine leave henv (res1 Tryd.results17 (RV.cell henv ty_anvil_anvilref02_Int rfl (hst.oat (k := 1) rfl) rfl)) ?_
    have hfin : s = hval pa pb xs := by rw [hs, hv_sum, hlx]
    exact ⟨_, rfl, (by rw [← hfin]; exact ⟨_, _, rfl, hst.pat (k := 0) rfl⟩), hst.below⟩
set_option maxRecDepth 100000 in
set_option maxHeartbeats 4000000 in
theorem pats_long {A0 : Option Addr} {n0 c0 : Nat} {es0 : List Int} {pa pb : Int} {w0 : World} (h0 : (pfRow fI FI 1 A0 n0 c0 es0).P w0) (hI0 : I64 es0) (hl : 60 < n0) :
    Calls Tryd.prog 3 #[.slice A0 n0 c0, .agg #[.int .i64 pa, .int .i64 pb]] w0 fun e w' => e = .returned (.bool true) ∧ Below w0.heap.size w0 w' := by
  refine enter Tryd.func3 rfl Tryd.ntmps3 rfl ?_
  intro a henv hst
  have hlen0 := h0.2.1
  have hbig0 := Nat.le_trans h0.1.cap h0.1.big
  unfold maxLen at hbig0
  replace hst := hst.argRow h0
  clear h0
  have hk0 : Zk 2 es0 := i64_zk hI0
  have htx := fun h => text_i64 hI0 (Nat.le_trans (Nat.le_of_eq hlen0) h)
  refine wp_seq ?_
  refine region_seq ?_
  refine seq_step rfl (op_box (c := #[.int .i64 pa, .int .i64 pb]) henv hst rfl rfl rfl ?_)
  clear henv hst a; intro a w52 g51 henv hst
  refine sv (v := .bool false) henv rfl (rn_assign henv rfl) ?_
  clear henv a; intro a henv
  refine wpList_nil ?_
  refine th_n ?_
  refine wp_seq ?_
  refine wp_seq ?_
  refine region_seq ?_
  refine seq_step rfl (op_call henv rfl Tryd.call10 rfl p20_works ?_)
  rintro e w53 ⟨rfl, hb⟩
  refine ⟨_, rfl, ?_⟩
  clear henv a; intro a henv
  replace hst := hst.call hb
  clear hb
  refine sv (v := .bool false) henv rfl (rn_un henv rfl rfl) ?_
  clear henv a; intro a henv
  refine wpList_nil ?_
  refine th_n ?_
  refine if_f henv rfl (rfl) ?_
  refine wp_skip ?_
  refine th_n ?_
  refine wp_seq ?_
  refine wp_seq ?_
  refine region_seq ?_
  revert a
  refine mA rfl rfl ?_
  refine sA (v := .int .i64 (n0 : Nat)) rfl (fun _ henv => rn_len henv Tryd.underlying22 rfl) ?_
  refine sA (v := .bool (decide (((n0 : Nat) : Int) > (60 : Int)))) rfl (fun _ henv => rn_bin henv rfl rfl rfl) ?_
  intro a henv
  rw [show (decide (((n0 : Nat) : Int) > (60 : Int))) = true from (decide_eq_true (by omega))] at henv
  refine wpList_nil ?_
  refine th_n ?_
  refine if_t henv rfl (rfl) ?_
  refine wp_seq ?_
  refine region_seq ?_
  refine sv (v := .bool true) henv rfl (rn_assign henv rfl) ?_
  clear henv a; intro a henv
  refine wpList_nil ?_
  refine th_n ?_
  refine wp_ret ?_
  refine th_r ?_
  refine leave henv (res1 Tryd.results3 (RV.tmp henv rfl)) ?_
  exact ⟨rfl, hst.below⟩
set_option maxRecDepth 100000 in
set_option maxHeartbeats 4000000 in
theorem pats_bad {A0 : Option Addr} {n0 c0 : Nat} {es0 : List Int} {pa pb : Int} {w0 : World} (h0 : (pfRow fI FI 1 A0 n0 c0 es0).P w0) (hI0 : I64 es0) (hl : n0 ≤ 60) (hbad : n0 = 0 ∨ ¬ (I16 pa ∧ I16 pb)) :
    Calls Tryd.prog 3 #[.slice A0 n0 c0, .agg #[.int .i64 pa, .int .i64 pb]] w0 fun e w' => e = .returned (.bool true) ∧ Below w0.heap.size w0 w' := by
  refine enter Tryd.func3 rfl Tryd.ntmps3 rfl ?_
  intro a henv hst
  have hlen0 := h0.2.1
  have hbig0 := Nat.le_trans h0.1.cap h0.1.big
  unfold maxLen at hbig0
  replace hst := hst.argRow h0
  clear h0
  have hk0 : Zk 2 es0 := i64_zk hI0
  have htx := fun h => text_i64 hI0 (Nat.le_trans (Nat.le_of_eq hlen0) h)
  refine wp_seq ?_
  refine region_seq ?_
  refine seq_step rfl (op_box (c := #[.int .i64 pa, .int .i64 pb]) henv hst rfl rfl rfl ?_)
  clear henv hst a; intro a w52 g51 henv hst
  refine sv (v := .bool false) henv rfl (rn_assign henv rfl) ?_
  clear henv a; intro a henv
  refine wpList_nil ?_
  refine th_n ?_
  refine wp_seq ?_
  refine wp_seq ?_
  refine region_seq ?_
  refine seq_step rfl (op_call henv rfl Tryd.call10 rfl p20_works ?_)
  rintro e w53 ⟨rfl, hb⟩
  refine ⟨_, rfl, ?_⟩
  clear henv a; intro a henv
  replace hst := hst.call hb
  clear hb
  refine sv (v := .bool false) henv rfl (rn_un henv rfl rfl) ?_
  clear henv a; intro a henv
  refine wpList_nil ?_
  refine th_n ?_
  refine if_f henv rfl (rfl) ?_
  refine wp_skip ?_
  refine th_n ?_
  refine wp_seq ?_
  refine wp_seq ?_
  refine region_seq ?_
  revert a
  refine mA rfl rfl ?_
  refine sA (v := .int .i64 (n0 : Nat)) rfl (fun _ henv => rn_len henv Tryd.underlying22 rfl) ?_
  refine sA (v := .bool (decide (((n0 : Nat) : Int) > (60 : Int)))) rfl (fun _ henv => rn_bin henv rfl rfl rfl) ?_
  intro a henv
  rw [show (decide (((n0 : Nat) : Int) > (60 : Int))) = false from (decide_eq_false (by omega))] at henv
  refine wpList_nil ?_
  refine th_n ?_
  refine if_f henv rfl (rfl) ?_
  refine wp_skip ?_
  refine th_n ?_
  refine wp_seq ?_
  refine cut (fun a w => ∃ g55 : Nat, ∃ ps56 : List NE, ∃ es59 : List NE, ∃ A63 : Option Addr, ∃ c64 : Nat, ∃ g67 : Nat, Env 46 a [(0, .slice A0 n0 c0), (1, .agg #[.int .i64 pa, .int .i64 pb]), (3, .pointer (some ⟨g51, 0, none⟩)), (4, .bool false), (7, .bool true), (8, .bool false), (9, .slice A0 n0 c0), (10, .int .i64 (n0 : Nat)), (11, .bool false), (5, .pointer (some ⟨g67, 0, none⟩)), (6, .int .i64 2)] ∧ St w0 w [bk g67 #[.bool (neg 0), .slice A63 (zl 0) c64] 28, bk g51 #[.int .i64 pa, .int .i64 pb] 24] [pfZ A63 c64 0, pfRow fN FN 2 (some ⟨g55, 0, none⟩) n0 (n0 + 2) es59, pfRow fN FN 2 (some ⟨g55, 0, none⟩) (n0 + 2) (n0 + 2) ps56, pfRow fI FI 1 A0 n0 c0 es0]) ?_ ?_
  · refine region_any (n := 10) (Sk [bk g51 #[.int .i64 pa, .int .i64 pb] 24] [pfRow fI FI 1 A0 n0 c0 es0] [8] []) mixed rfl henv hst ?_
    clear henv hst; intro w54 henv hst
    refine tM (i := 0) [1, 3, 4, 5, 6, 8, 9] rfl (by kernel_rfl) (fun _ _ _ h => h) henv rfl rfl ?_
    clear henv a; intro a henv
    refine tL (i := 2) 0 0 [3, 4, 5, 6, 8, 9] rfl (by kernel_rfl) (fun _ _ _ h => h) henv rfl ty_anvil_api_Point rfl hst rfl rfl rfl ?_
    clear henv a; intro a henv
    refine sAny_all (rs := [1, 7]) (by kernel_rfl) (by simp) ?_
    simp only [List.forall_mem_cons, List.not_mem_nil, false_implies, implies_true, and_true]
    refine ⟨?_, ?_⟩
    · refine ⟨_, rfl, rfl, op_call henv rfl Tryd.call12 rfl (p20_list (es0 := es0) (hst.pat (k := 0) rfl) hI0 (by omega)) ?_⟩
      rintro e w62 ⟨_, rfl, ⟨g55, ps56, rfl, hr, hl57, hz58⟩, hb⟩
      refine ⟨_, rfl, ?_⟩
      clear henv a; intro a henv
      replace hst := hst.freshRd hb hr hl57 (ap_N hr.2.1 ⟨nou_bk rfl, trivial⟩)
      clear hr
      obtain ⟨es59, hst, hl60, hz61⟩ := hst.listRow (k := 0) (n := n0) rfl hz58 (hlen0)
      clear hb
      refine ⟨.inr ⟨hst.kn.pick [0] [2], .inr (hst.kn.pick [] [])⟩, ?_⟩
      refine sAny_all (rs := [3, 7]) (by kernel_rfl) (by simp) ?_
      simp only [List.forall_mem_cons, List.not_mem_nil, false_implies, implies_true, and_true]
      refine ⟨?_, ?_⟩
      · refine ⟨_, rfl, rfl, op_call henv rfl Tryd.call11 rfl (p_at_bad (hst.pat (k := 0) rfl) hz61 hbad) ?_⟩
        rintro e w66 ⟨_, rfl, ⟨A63, c64, rfl, hz65⟩, hb⟩
        refine ⟨_, rfl, ?_⟩
        clear henv a; intro a henv
        replace hst := (hst.call hb).addZ hz65 ⟨nou_bk rfl, trivial⟩
        clear hz65
        clear hb
        refine ⟨.inr ⟨hst.kn.pick [0] [3], .inr (hst.kn.pick [] [])⟩, ?_⟩
        refine tM (i := 4) [5, 6, 8, 9] rfl (by kernel_rfl) (fun _ _ _ h => h) henv rfl rfl ?_
        clear henv a; intro a henv
        refine tA (i := 5) [8, 9] (v := .agg #[.bool (neg 0), .slice A63 (zl 0) c64]) rfl (by kernel_rfl) (fun _ _ _ h => h) henv rfl (fun _ => rn_extract henv rfl rfl) ?_
        clear henv a; intro a henv
        refine tA (i := 6) [9] (v := .int .i64 2) rfl (by kernel_rfl) (fun _ _ _ h => h) henv rfl (fun _ => rn_extract henv rfl rfl) ?_
        clear henv a; intro a henv
        refine sAny_one (i := 7) (by kernel_rfl) rfl rfl (op_alloc (c := #[.bool (neg 0), .slice none (zl 0) 0]) henv hst rfl zero_anvil_integer_Int zcells ?_)
        clear henv hst a; intro a w68 g67 henv hst
        refine ⟨.inr ⟨hst.kn.pick [1] [3], .inr (hst.kn.pick [] [])⟩, ?_⟩
        refine sAny_one (i := 8) (by kernel_rfl) rfl rfl (op_store (k := 0) (c' := #[.bool (neg 0), .slice A63 (zl 0) c64]) henv hst (ty_anvil_integer_Int.size) rfl rfl rfl rfl (by simp) rfl rfl ?_)
        clear henv hst a; intro a w69 henv hst
        refine ⟨.inr ⟨hst.kn.pick [1] [3], .inl rfl⟩, ?_⟩
        refine tA (i := 9) [] (v := .int .i64 2) rfl (by kernel_rfl) (fun _ _ _ h => h) henv rfl (fun _ => rn_assign henv rfl) ?_
        clear henv a; intro a henv
        refine sAny_done (by kernel_rfl) ?_ _
        exact th_n ⟨g55, ps56, es59, A63, c64, g67, henv.sub ⟨rfl, rfl, rfl, rfl, rfl, rfl, rfl, rfl, rfl, rfl, rfl, trivial⟩, hst.pick [0, 1] [0, 1, 2, 3] (by decide)⟩
      · refine ⟨_, rfl, rfl, op_alloc (c := #[.bool (neg 0), .slice none (zl 0) 0]) henv hst rfl zero_anvil_integer_Int zcells ?_⟩
        clear henv hst a; intro a w71 g70 henv hst
        refine ⟨.inr ⟨hst.kn.pick [1] [2], .inr (hst.kn.pick [] [])⟩, ?_⟩
        refine sAny_one (i := 3) (by kernel_rfl) rfl rfl (op_call henv rfl Tryd.call11 rfl (p_at_bad (hst.pat (k := 0) rfl) hz61 hbad) ?_)
        rintro e w75 ⟨_, rfl, ⟨A72, c73, rfl, hz74⟩, hb⟩
        refine ⟨_, rfl, ?_⟩
        clear henv a; intro a henv
        replace hst := (hst.call hb).addZ hz74 ⟨nou_bk rfl, nou_bk rfl, trivial⟩
        clear hz74
        clear hb
        refine ⟨.inr ⟨hst.kn.pick [1] [3], .inr (hst.kn.pick [] [])⟩, ?_⟩
        refine tM (i := 4) [5, 6, 8, 9] rfl (by kernel_rfl) (fun _ _ _ h => h) henv rfl rfl ?_
        clear henv a; intro a henv
        refine tA (i := 5) [8, 9] (v := .agg #[.bool (neg 0), .slice A72 (zl 0) c73]) rfl (by kernel_rfl) (fun _ _ _ h => h) henv rfl (fun _ => rn_extract henv rfl rfl) ?_
        clear henv a; intro a henv
        refine tA (i := 6) [9] (v := .int .i64 2) rfl (by kernel_rfl) (fun _ _ _ h => h) henv rfl (fun _ => rn_extract henv rfl rfl) ?_
        clear henv a; intro a henv
        refine sAny_one (i := 8) (by kernel_rfl) rfl rfl (op_store (k := 0) (c' := #[.bool (neg 0), .slice A72 (zl 0) c73]) henv hst (ty_anvil_integer_Int.size) rfl rfl rfl rfl (by simp) rfl rfl ?_)
        clear henv hst a; intro a w76 henv hst
        refine ⟨.inr ⟨hst.kn.pick [1] [3], .inl rfl⟩, ?_⟩
        refine tA (i := 9) [] (v := .int .i64 2) rfl (by kernel_rfl) (fun _ _ _ h => h) henv rfl (fun _ => rn_assign henv rfl) ?_
        clear henv a; intro a henv
        refine sAny_done (by kernel_rfl) ?_ _
        exact th_n ⟨g55, ps56, es59, A72, c73, g70, henv.sub ⟨rfl, rfl, rfl, rfl, rfl, rfl, rfl, rfl, rfl, rfl, rfl, trivial⟩, hst.pick [0, 1] [0, 1, 2, 3] (by decide)⟩
    · refine ⟨_, rfl, rfl, op_alloc (c := #[.bool (neg 0), .slice none (zl 0) 0]) henv hst rfl zero_anvil_integer_Int zcells ?_⟩
      clear henv hst a; intro a w78 g77 henv hst
      refine ⟨.inr ⟨hst.kn.pick [1] [0], .inr (hst.kn.pick [] [])⟩, ?_⟩
      refine sAny_one (i := 1) (by kernel_rfl) rfl rfl (op_call henv rfl Tryd.call12 rfl (p20_list (es0 := es0) (hst.pat (k := 0) rfl) hI0 (by omega)) ?_)
      rintro e w86 ⟨_, rfl, ⟨g79, ps80, rfl, hr, hl81, hz82⟩, hb⟩
      refine ⟨_, rfl, ?_⟩
      clear henv a; intro a henv
      replace hst := hst.freshRd hb hr hl81 (ap_N hr.2.1 ⟨nou_bk rfl, nou_bk rfl, trivial⟩)
      clear hr
      obtain ⟨es83, hst, hl84, hz85⟩ := hst.listRow (k := 0) (n := n0) rfl hz82 (hlen0)
      clear hb
      refine ⟨.inr ⟨hst.kn.pick [1] [2], .inr (hst.kn.pick [] [])⟩, ?_⟩
      refine sAny_one (i := 3) (by kernel_rfl) rfl rfl (op_call henv rfl Tryd.call11 rfl (p_at_bad (hst.pat (k := 0) rfl) hz85 hbad) ?_)
      rintro e w90 ⟨_, rfl, ⟨A87, c88, rfl, hz89⟩, hb⟩
      refine ⟨_, rfl, ?_⟩
      clear henv a; intro a henv
      replace hst := (hst.call hb).addZ hz89 ⟨nou_bk rfl, nou_bk rfl, trivial⟩
      clear hz89
      clear hb
      refine ⟨.inr ⟨hst.kn.pick [1] [3], .inr (hst.kn.pick [] [])⟩, ?_⟩
      refine tM (i := 4) [5, 6, 8, 9] rfl (by kernel_rfl) (fun _ _ _ h => h) henv rfl rfl ?_
      clear henv a; intro a henv
      refine tA (i := 5) [8, 9] (v := .agg #[.bool (neg 0), .slice A87 (zl 0) c88]) rfl (by kernel_rfl) (fun _ _ _ h => h) henv rfl (fun _ => rn_extract henv rfl rfl) ?_
      clear henv a; intro a henv
      refine tA (i := 6) [9] (v := .int .i64 2) rfl (by kernel_rfl) (fun _ _ _ h => h) henv rfl (fun _ => rn_extract henv rfl rfl) ?_
      clear henv a; intro a henv
      refine sAny_one (i := 8) (by kernel_rfl) rfl rfl (op_store (k := 0) (c' := #[.bool (neg 0), .slice A87 (zl 0) c88]) henv hst (ty_anvil_integer_Int.size) rfl rfl rfl rfl (by simp) rfl rfl ?_)
      clear henv hst a; intro a w91 henv hst
      refine ⟨.inr ⟨hst.kn.pick [1] [3], .inl rfl⟩, ?_⟩
      refine tA (i := 9) [] (v := .int .i64 2) rfl (by kernel_rfl) (fun _ _ _ h => h) henv rfl (fun _ => rn_assign henv rfl) ?_
      clear henv a; intro a henv
      refine sAny_done (by kernel_rfl) ?_ _
      exact th_n ⟨g79, ps80, es83, A87, c88, g77, henv.sub ⟨rfl, rfl, rfl, rfl, rfl, rfl, rfl, rfl, rfl, rfl, rfl, trivial⟩, hst.pick [0, 1] [0, 1, 2, 3] (by decide)⟩
  clear henv hst a
  rintro a w92 ⟨g55, ps56, es59, A63, c64, g67, henv, hst⟩
  refine wp_seq ?_
  refine wp_seq ?_
  refine region_seq ?_
  revert a
  refine mA rfl rfl ?_
  refine sA (v := .int .i64 (n0 : Nat)) rfl (fun _ henv => rn_len henv Tryd.underlying22 rfl) ?_
  refine sA (v := .bool (((n0 : Nat) : Int) == (0 : Int))) rfl (fun _ henv => rn_bin henv rfl rfl rfl) ?_
  refine mA rfl rfl ?_
  intro a henv
  rcases bool_em (((n0 : Nat) : Int) == (0 : Int)) with hg93 | hg93
  · rw [hg93] at henv
    revert a
    refine kA rfl rfl rfl rfl rfl ?_
    refine kA rfl rfl rfl rfl rfl ?_
    refine kA rfl rfl rfl rfl rfl ?_
    refine sA (v := .bool true) rfl (fun _ henv => rn_pick henv rfl rfl) ?_
    intro a henv
    refine wpList_nil ?_
    refine th_n ?_
    refine if_t henv rfl (rfl) ?_
    refine wp_seq ?_
    refine region_seq ?_
    refine sv (v := .agg #[.bool (neg 0), .slice A63 (zl 0) c64]) henv rfl (rn_load0 henv ty_anvil_integer_Int rfl (hst.oat (k := 0) rfl) rfl) ?_
    clear henv a; intro a henv
    refine seq_step rfl (op_call henv rfl Tryd.call14 rfl (sign_z (z := 0)) ?_)
    rintro e w94 ⟨rfl, hb⟩
    refine ⟨_, rfl, ?_⟩
    clear henv a; intro a henv
    replace hst := hst.call hb
    clear hb
    refine sv (v := .bool ((0 : Int).sign == (0 : Int))) henv rfl (rn_bin henv rfl rfl rfl) ?_
    clear henv a; intro a henv
    rw [show ((0 : Int).sign == (0 : Int)) = true from (by decide)] at henv
    revert a
    refine mA rfl rfl ?_
    refine gA (v := .int .i64 2) rfl rfl rfl rfl (fun _ henv => rn_move henv rfl) ?_
    refine gA (v := .bool true) rfl rfl rfl rfl (fun _ henv => rn_bin henv rfl rfl rfl) ?_
    refine sA (v := .bool true) rfl (fun _ henv => rn_pick henv rfl rfl) ?_
    refine aA rfl rfl ?_
    intro a henv
    refine wpList_nil ?_
    refine th_n ?_
    refine wp_ret ?_
    refine th_r ?_
    refine leave henv (res1 Tryd.results3 (RV.tmp henv rfl)) ?_
    exact ⟨rfl, hst.below⟩
  · rw [hg93] at henv
    have hne : n0 ≠ 0 := by have := ne_of_beq_false hg93; omega
    refine seq_g rfl henv rfl rfl (op_val (v := .agg #[.int .i64 pa, .int .i64 pb]) henv rfl (rn_load0 henv ty_anvil_api_Point rfl (hst.oat (k := 1) rfl) rfl) ?_)
    clear henv a; intro a henv
    refine seq_g rfl henv rfl rfl (op_call henv rfl Tryd.call13 rfl (ref_in (pa := pa) (pb := pb)) ?_)
    rintro e w95 ⟨rfl, hb⟩
    refine ⟨_, rfl, ?_⟩
    clear henv a; intro a henv
    replace hst := hst.call hb
    clear hb
    rw [show (decide (I16 pa ∧ I16 pb)) = false from (decide_eq_false (hbad.resolve_left hne))] at henv
    revert a
    refine gA (v := .bool true) rfl rfl rfl rfl (fun _ henv => rn_un henv rfl rfl) ?_
    refine sA (v := .bool true) rfl (fun _ henv => rn_pick henv rfl rfl) ?_
    intro a henv
    refine wpList_nil ?_
    refine th_n ?_
    refine if_t henv rfl (rfl) ?_
    refine wp_seq ?_
    refine region_seq ?_
    refine sv (v := .agg #[.bool (neg 0), .slice A63 (zl 0) c64]) henv rfl (rn_load0 henv ty_anvil_integer_Int rfl (hst.oat (k := 0) rfl) rfl) ?_
    clear henv a; intro a henv
    refine seq_step rfl (op_call henv rfl Tryd.call14 rfl (sign_z (z := 0)) ?_)
    rintro e w96 ⟨rfl, hb⟩
    refine ⟨_, rfl, ?_⟩
    clear henv a; intro a henv
    replace hst := hst.call hb
    clear hb
    refine sv (v := .bool ((0 : Int).sign == (0 : Int))) henv rfl (rn_bin henv rfl rfl rfl) ?_
    clear henv a; intro a henv
    rw [show ((0 : Int).sign == (0 : Int)) = true from (by decide)] at henv
    revert a
    refine mA rfl rfl ?_
    refine gA (v := .int .i64 2) rfl rfl rfl rfl (fun _ henv => rn_move henv rfl) ?_
    refine gA (v := .bool true) rfl rfl rfl rfl (fun _ henv => rn_bin henv rfl rfl rfl) ?_
    refine sA (v := .bool true) rfl (fun _ henv => rn_pick henv rfl rfl) ?_
    refine aA rfl rfl ?_
    intro a henv
    refine wpList_nil ?_
    refine th_n ?_
    refine wp_ret ?_
    refine th_r ?_
    refine leave henv (res1 Tryd.results3 (RV.tmp henv rfl)) ?_
    exact ⟨rfl, hst.below⟩
set_option maxRecDepth 100000 in
set_option maxHeartbeats 4000000 in
theorem pats_ok {A0 : Option Addr} {n0 c0 : Nat} {es0 : List Int} {pa pb : Int} {w0 : World} (h0 : (pfRow fI FI 1 A0 n0 c0 es0).P w0) (hI0 : I64 es0) (hl : n0 ≤ 60) (hp : 0 < n0) (hI : I16 pa ∧ I16 pb) :
    Calls Tryd.prog 3 #[.slice A0 n0 c0, .agg #[.int .i64 pa, .int .i64 pb]] w0 fun e w' => e = .returned (.bool true) ∧ Below w0.heap.size w0 w' := by
  refine enter Tryd.func3 rfl Tryd.ntmps3 rfl ?_
  intro a henv hst
  have hlen0 := h0.2.1
  have hbig0 := Nat.le_trans h0.1.cap h0.1.big
  unfold maxLen at hbig0
  replace hst := hst.argRow h0
  clear h0
  have hk0 : Zk 2 es0 := i64_zk hI0
  have htx := fun h => text_i64 hI0 (Nat.le_trans (Nat.le_of_eq hlen0) h)
  have hsz := hval_sz hI.1 hI.2 hk0
  rw [hlen0] at hsz
  have hds := dl_zl (hval pa pb es0)
  refine wp_seq ?_
  refine region_seq ?_
  refine seq_step rfl (op_box (c := #[.int .i64 pa, .int .i64 pb]) henv hst rfl rfl rfl ?_)
  clear henv hst a; intro a w52 g51 henv hst
  refine sv (v := .bool false) henv rfl (rn_assign henv rfl) ?_
  clear henv a; intro a henv
  refine wpList_nil ?_
  refine th_n ?_
  refine wp_seq ?_
  refine wp_seq ?_
  refine region_seq ?_
  refine seq_step rfl (op_call henv rfl Tryd.call10 rfl p20_works ?_)
  rintro e w53 ⟨rfl, hb⟩
  refine ⟨_, rfl, ?_⟩
  clear henv a; intro a henv
  replace hst := hst.call hb
  clear hb
  refine sv (v := .bool false) henv rfl (rn_un henv rfl rfl) ?_
  clear henv a; intro a henv
  refine wpList_nil ?_
  refine th_n ?_
  refine if_f henv rfl (rfl) ?_
  refine wp_skip ?_
  refine th_n ?_
  refine wp_seq ?_
  refine wp_seq ?_
  refine region_seq ?_
  revert a
  refine mA rfl rfl ?_
  refine sA (v := .int .i64 (n0 : Nat)) rfl (fun _ henv => rn_len henv Tryd.underlying22 rfl) ?_
  refine sA (v := .bool (decide (((n0 : Nat) : Int) > (60 : Int)))) rfl (fun _ henv => rn_bin henv rfl rfl rfl) ?_
  intro a henv
  rw [show (decide (((n0 : Nat) : Int) > (60 : Int))) = false from (decide_eq_false (by omega))] at henv
  refine wpList_nil ?_
  refine th_n ?_
  refine if_f henv rfl (rfl) ?_
  refine wp_skip ?_
  refine th_n ?_
  refine wp_seq ?_
  refine cut (fun a w => ∃ g55 : Nat, ∃ ps56 : List NE, ∃ es59 : List NE, ∃ A63 : Option Addr, ∃ c64 : Nat, ∃ g67 : Nat, Env 46 a [(0, .slice A0 n0 c0), (1, .agg #[.int .i64 pa, .int .i64 pb]), (3, .pointer (some ⟨g51, 0, none⟩)), (4, .bool false), (7, .bool true), (8, .bool false), (9, .slice A0 n0 c0), (10, .int .i64 (n0 : Nat)), (11, .bool false), (5, .pointer (some ⟨g67, 0, none⟩)), (6, .int .i64 0)] ∧ St w0 w [bk g67 #[.bool (neg (hval pa pb es0)), .slice A63 (zl (hval pa pb es0)) c64] 28, bk g51 #[.int .i64 pa, .int .i64 pb] 24] [pfZ A63 c64 (hval pa pb es0), pfRow fN FN 2 (some ⟨g55, 0, none⟩) n0 (n0 + 2) es59, pfRow fN FN 2 (some ⟨g55, 0, none⟩) (n0 + 2) (n0 + 2) ps56, pfRow fI FI 1 A0 n0 c0 es0]) ?_ ?_
  · refine region_any (n := 10) (Sk [bk g51 #[.int .i64 pa, .int .i64 pb] 24] [pfRow fI FI 1 A0 n0 c0 es0] [8] []) mixed rfl henv hst ?_
    clear henv hst; intro w54 henv hst
    refine tM (i := 0) [1, 3, 4, 5, 6, 8, 9] rfl (by kernel_rfl) (fun _ _ _ h => h) henv rfl rfl ?_
    clear henv a; intro a henv
    refine tL (i := 2) 0 0 [3, 4, 5, 6, 8, 9] rfl (by kernel_rfl) (fun _ _ _ h => h) henv rfl ty_anvil_api_Point rfl hst rfl rfl rfl ?_
    clear henv a; intro a henv
    refine sAny_all (rs := [1, 7]) (by kernel_rfl) (by simp) ?_
    simp only [List.forall_mem_cons, List.not_mem_nil, false_implies, implies_true, and_true]
    refine ⟨?_, ?_⟩
    · refine ⟨_, rfl, rfl, op_call henv rfl Tryd.call12 rfl (p20_list (es0 := es0) (hst.pat (k := 0) rfl) hI0 (by omega)) ?_⟩
      rintro e w62 ⟨_, rfl, ⟨g55, ps56, rfl, hr, hl57, hz58⟩, hb⟩
      refine ⟨_, rfl, ?_⟩
      clear henv a; intro a henv
      replace hst := hst.freshRd hb hr hl57 (ap_N hr.2.1 ⟨nou_bk rfl, trivial⟩)
      clear hr
      obtain ⟨es59, hst, hl60, hz61⟩ := hst.listRow (k := 0) (n := n0) rfl hz58 (hlen0)
      clear hb
      refine ⟨.inr ⟨hst.kn.pick [0] [2], .inr (hst.kn.pick [] [])⟩, ?_⟩
      refine sAny_all (rs := [3, 7]) (by kernel_rfl) (by simp) ?_
      simp only [List.forall_mem_cons, List.not_mem_nil, false_implies, implies_true, and_true]
      refine ⟨?_, ?_⟩
      · refine ⟨_, rfl, rfl, op_call henv rfl Tryd.call11 rfl (p_at (hst.pat (k := 0) rfl) hz61 hp hI (hk0.mono (by decide)) (by omega)) ?_⟩
        rintro e w66 ⟨_, rfl, ⟨A63, c64, rfl, hz65⟩, hb⟩
        refine ⟨_, rfl, ?_⟩
        clear henv a; intro a henv
        replace hst := (hst.call hb).addZ hz65 ⟨nou_bk rfl, trivial⟩
        clear hz65
        clear hb
        refine ⟨.inr ⟨hst.kn.pick [0] [3], .inr (hst.kn.pick [] [])⟩, ?_⟩
        refine tM (i := 4) [5, 6, 8, 9] rfl (by kernel_rfl) (fun _ _ _ h => h) henv rfl rfl ?_
        clear henv a; intro a henv
        refine tA (i := 5) [8, 9] (v := .agg #[.bool (neg (hval pa pb es0)), .slice A63 (zl (hval pa pb es0)) c64]) rfl (by kernel_rfl) (fun _ _ _ h => h) henv rfl (fun _ => rn_extract henv rfl rfl) ?_
        clear henv a; intro a henv
        refine tA (i := 6) [9] (v := .int .i64 0) rfl (by kernel_rfl) (fun _ _ _ h => h) henv rfl (fun _ => rn_extract henv rfl rfl) ?_
        clear henv a; intro a henv
        refine sAny_one (i := 7) (by kernel_rfl) rfl rfl (op_alloc (c := #[.bool (neg 0), .slice none (zl 0) 0]) henv hst rfl zero_anvil_integer_Int zcells ?_)
        clear henv hst a; intro a w68 g67 henv hst
        refine ⟨.inr ⟨hst.kn.pick [1] [3], .inr (hst.kn.pick [] [])⟩, ?_⟩
        refine sAny_one (i := 8) (by kernel_rfl) rfl rfl (op_store (k := 0) (c' := #[.bool (neg (hval pa pb es0)), .slice A63 (zl (hval pa pb es0)) c64]) henv hst (ty_anvil_integer_Int.size) rfl rfl rfl rfl (by simp) rfl rfl ?_)
        clear henv hst a; intro a w69 henv hst
        refine ⟨.inr ⟨hst.kn.pick [1] [3], .inl rfl⟩, ?_⟩
        refine tA (i := 9) [] (v := .int .i64 0) rfl (by kernel_rfl) (fun _ _ _ h => h) henv rfl (fun _ => rn_assign henv rfl) ?_
        clear henv a; intro a henv
        refine sAny_done (by kernel_rfl) ?_ _
        exact th_n ⟨g55, ps56, es59, A63, c64, g67, henv.sub ⟨rfl, rfl, rfl, rfl, rfl, rfl, rfl, rfl, rfl, rfl, rfl, trivial⟩, hst.pick [0, 1] [0, 1, 2, 3] (by decide)⟩
      · refine ⟨_, rfl, rfl, op_alloc (c := #[.bool (neg 0), .slice none (zl 0) 0]) henv hst rfl zero_anvil_integer_Int zcells ?_⟩
        clear henv hst a; intro a w71 g70 henv hst
        refine ⟨.inr ⟨hst.kn.pick [1] [2], .inr (hst.kn.pick [] [])⟩, ?_⟩
        refine sAny_one (i := 3) (by kernel_rfl) rfl rfl (op_call henv rfl Tryd.call11 rfl (p_at (hst.pat (k := 0) rfl) hz61 hp hI (hk0.mono (by decide)) (by omega)) ?_)
        rintro e w75 ⟨_, rfl, ⟨A72, c73, rfl, hz74⟩, hb⟩
        refine ⟨_, rfl, ?_⟩
        clear henv a; intro a henv
        replace hst := (hst.call hb).addZ hz74 ⟨nou_bk rfl, nou_bk rfl, trivial⟩
        clear hz74
        clear hb
        refine ⟨.inr ⟨hst.kn.pick [1] [3], .inr (hst.kn.pick [] [])⟩, ?_⟩
        refine tM (i := 4) [5, 6, 8, 9] rfl (by kernel_rfl) (fun _ _ _ h => h) henv rfl rfl ?_
        clear henv a; intro a henv
        refine tA (i := 5) [8, 9] (v := .agg #[.bool (neg (hval pa pb es0)), .slice A72 (zl (hval pa pb es0)) c73]) rfl (by kernel_rfl) (fun _ _ _ h => h) henv rfl (fun _ => rn_extract henv rfl rfl) ?_
        clear henv a; intro a henv
        refine tA (i := 6) [9] (v := .int .i64 0) rfl (by kernel_rfl) (fun _ _ _ h => h) henv rfl (fun _ => rn_extract henv rfl rfl) ?_
        clear henv a; intro a henv
        refine sAny_one (i := 8) (by kernel_rfl) rfl rfl (op_store (k := 0) (c' := #[.bool (neg (hval pa pb es0)), .slice A72 (zl (hval pa pb es0)) c73]) henv hst (ty_anvil_integer_Int.size) rfl rfl rfl rfl (by simp) rfl rfl ?_)
        clear henv hst a; intro a w76 henv hst
        refine ⟨.inr ⟨hst.kn.pick [1] [3], .inl rfl⟩, ?_⟩
        refine tA (i := 9) [] (v := .int .i64 0) rfl (by kernel_rfl) (fun _ _ _ h => h) henv rfl (fun _ => rn_assign henv rfl) ?_
        clear henv a; intro a henv
        refine sAny_done (by kernel_rfl) ?_ _
        exact th_n ⟨g55, ps56, es59, A72, c73, g70, henv.sub ⟨rfl, rfl, rfl, rfl, rfl, rfl, rfl, rfl, rfl, rfl, rfl, trivial⟩, hst.pick [0, 1] [0, 1, 2, 3] (by decide)⟩
    · refine ⟨_, rfl, rfl, op_alloc (c := #[.bool (neg 0), .slice none (zl 0) 0]) henv hst rfl zero_anvil_integer_Int zcells ?_⟩
      clear henv hst a; intro a w78 g77 henv hst
      refine ⟨.inr ⟨hst.kn.pick [1] [0], .inr (hst.kn.pick [] [])⟩, ?_⟩
      refine sAny_one (i := 1) (by kernel_rfl) rfl rfl (op_call henv rfl Tryd.call12 rfl (p20_list (es0 := es0) (hst.pat (k := 0) rfl) hI0 (by omega)) ?_)
      rintro e w86 ⟨_, rfl, ⟨g79, ps80, rfl, hr, hl81, hz82⟩, hb⟩
      refine ⟨_, rfl, ?_⟩
      clear henv a; intro a henv
      replace hst := hst.freshRd hb hr hl81 (ap_N hr.2.1 ⟨nou_bk rfl, nou_bk rfl, trivial⟩)
      clear hr
      obtain ⟨es83, hst, hl84, hz85⟩ := hst.listRow (k := 0) (n := n0) rfl hz82 (hlen0)
      clear hb
      refine ⟨.inr ⟨hst.kn.pick [1] [2], .inr (hst.kn.pick [] [])⟩, ?_⟩
      refine sAny_one (i := 3) (by kernel_rfl) rfl rfl (op_call henv rfl Tryd.call11 rfl (p_at (hst.pat (k := 0) rfl) hz85 hp hI (hk0.mono (by decide)) (by omega)) ?_)
      rintro e w90 ⟨_, rfl, ⟨A87, c88, rfl, hz89⟩, hb⟩
      refine ⟨_, rfl, ?_⟩
      clear henv a; intro a henv
      replace hst := (hst.call hb).addZ hz89 ⟨nou_bk rfl, nou_bk rfl, trivial⟩
      clear hz89
      clear hb
      refine ⟨.inr ⟨hst.kn.pick [1] [3], .inr (hst.kn.pick [] [])⟩, ?_⟩
      refine tM (i := 4) [5, 6, 8, 9] rfl (by kernel_rfl) (fun _ _ _ h => h) henv rfl rfl ?_
      clear henv a; intro a henv
      refine tA (i := 5) [8, 9] (v := .agg #[.bool (neg (hval pa pb es0)), .slice A87 (zl (hval pa pb es0)) c88]) rfl (by kernel_rfl) (fun _ _ _ h => h) henv rfl (fun _ => rn_extract henv rfl rfl) ?_
      clear henv a; intro a henv
      refine tA (i := 6) [9] (v := .int .i64 0) rfl (by kernel_rfl) (fun _ _ _ h => h) henv rfl (fun _ => rn_extract henv rfl rfl) ?_
      clear henv a; intro a henv
      refine sAny_one (i := 8) (by kernel_rfl) rfl rfl (op_store (k := 0) (c' := #[.bool (neg (hval pa pb es0)), .slice A87 (zl (hval pa pb es0)) c88]) henv hst (ty_anvil_integer_Int.size) rfl rfl rfl rfl (by simp) rfl rfl ?_)
      clear henv hst a; intro a w91 henv hst
      refine ⟨.inr ⟨hst.kn.pick [1] [3], .inl rfl⟩, ?_⟩
      refine tA (i := 9) [] (v := .int .i64 0) rfl (by kernel_rfl) (fun _ _ _ h => h) henv rfl (fun _ => rn_assign henv rfl) ?_
      clear henv a; intro a henv
      refine sAny_done (by kernel_rfl) ?_ _
      exact th_n ⟨g79, ps80, es83, A87, c88, g77, henv.sub ⟨rfl, rfl, rfl, rfl, rfl, rfl, rfl, rfl, rfl, rfl, rfl, trivial⟩, hst.pick [0, 1] [0, 1, 2, 3] (by decide)⟩
  clear henv hst a
  rintro a w92 ⟨g55, ps56, es59, A63, c64, g67, henv, hst⟩
  refine wp_seq ?_
  refine wp_seq ?_
  refine region_seq ?_
  revert a
  refine mA rfl rfl ?_
  refine sA (v := .int .i64 (n0 : Nat)) rfl (fun _ henv => rn_len henv Tryd.underlying22 rfl) ?_
  refine sA (v := .bool (((n0 : Nat) : Int) == (0 : Int))) rfl (fun _ henv => rn_bin henv rfl rfl rfl) ?_
  intro a henv
  rw [show (((n0 : Nat) : Int) == (0 : Int)) = false from (beq_eq_false_iff_ne.2 (by omega))] at henv
  revert a
  refine mA rfl rfl ?_
  refine gA (v := .agg #[.int .i64 pa, .int .i64 pb]) rfl rfl rfl rfl (fun _ henv => rn_load0 henv ty_anvil_api_Point rfl (hst.oat (k := 1) rfl) rfl) ?_
  intro a henv
  refine seq_g rfl henv rfl rfl (op_call henv rfl Tryd.call13 rfl (ref_in (pa := pa) (pb := pb)) ?_)
  rintro e w93 ⟨rfl, hb⟩
  refine ⟨_, rfl, ?_⟩
  clear henv a; intro a henv
  replace hst := hst.call hb
  clear hb
  rw [show (decide (I16 pa ∧ I16 pb)) = true from (decide_eq_true hI)] at henv
  revert a
  refine gA (v := .bool false) rfl rfl rfl rfl (fun _ henv => rn_un henv rfl rfl) ?_
  refine sA (v := .bool false) rfl (fun _ henv => rn_pick henv rfl rfl) ?_
  intro a henv
  refine wpList_nil ?_
  refine th_n ?_
  refine if_f henv rfl (rfl) ?_
  refine wp_skip ?_
  refine th_n ?_
  refine wp_seq ?_
  refine region_any (n := 13) (Sk [bk g67 #[.bool (neg (hval pa pb es0)), .slice A63 (zl (hval pa pb es0)) c64] 28, bk g51 #[.int .i64 pa, .int .i64 pb] 24] [pfZ A63 c64 (hval pa pb es0), pfRow fN FN 2 (some ⟨g55, 0, none⟩) n0 (n0 + 2) es59, pfRow fN FN 2 (some ⟨g55, 0, none⟩) (n0 + 2) (n0 + 2) ps56, pfRow fI FI 1 A0 n0 c0 es0] [] []) mixed rfl henv hst ?_
  clear henv hst; intro w94 henv hst
  refine tM (i := 0) (rg 1 12) rfl (by kernel_rfl) (fun _ _ _ h => h) henv rfl rfl ?_
  clear henv a; intro a henv
  refine tA (i := 1) (rg 2 11) (v := .bool true) rfl (by kernel_rfl) (fun _ _ _ h => h) henv rfl (fun _ => rn_bin henv rfl rfl rfl) ?_
  clear henv a; intro a henv
  refine tM (i := 2) (rg 3 10) rfl (by kernel_rfl) (fun _ _ _ h => h) henv rfl rfl ?_
  clear henv a; intro a henv
  refine tLg (i := 3) 0 0 [4, 6, 8, 9, 10, 11, 12] rfl (by kernel_rfl) (fun _ _ _ h => h) henv rfl rfl rfl rfl ty_anvil_integer_Int rfl hst rfl rfl rfl ?_
  clear henv a; intro a henv
  refine tAg (i := 5) [6, 8, 9, 10, 11, 12] (v := .slice A0 n0 c0) rfl (by kernel_rfl) (fun _ _ _ h => h) henv rfl rfl rfl rfl (fun _ => rn_move henv rfl) ?_
  clear henv a; intro a henv
  refine tLg (i := 7) 1 1 (rg 8 5) rfl (by kernel_rfl) (fun _ _ _ h => h) henv rfl rfl rfl rfl ty_anvil_api_Point rfl hst rfl rfl rfl ?_
  clear henv a; intro a henv
  refine sAny_oneg (i := 4) (by kernel_rfl) rfl rfl henv rfl rfl rfl (op_call henv rfl Tryd.call15 rfl (text_z (z := (hval pa pb es0)) (show ZIn _ A63 c64 (hval pa pb es0) from hst.pat (k := 0) rfl) (by omega)) ?_)
  rintro e w95 ⟨rfl, hb⟩
  refine ⟨_, rfl, ?_⟩
  clear henv a; intro a henv
  replace hst := hst.call hb
  clear hb
  refine ⟨.inr ⟨hst.kn.pick [0, 1] (rg 0 4), .inr (hst.kn.pick [] [])⟩, ?_⟩
  refine sAny_oneg (i := 6) (by kernel_rfl) rfl rfl henv rfl rfl rfl (op_call henv rfl Tryd.call18 rfl (p20_ref (es0 := es0) (hst.pat (k := 3) rfl) hI0 (by omega)) ?_)
  rintro e w102 ⟨_, rfl, ⟨A96, c97, es98, rfl, hr, hl99, hz100, hn101⟩, hb⟩
  refine ⟨_, rfl, ?_⟩
  clear henv a; intro a henv
  replace hst := hst.freshRd hb hr hl99 (ap_M hr.2.1 ⟨nou_bk rfl, nou_bk rfl, trivial⟩)
  clear hr
  clear hb
  refine ⟨.inr ⟨hst.kn.pick [0, 1] (rg 1 4), .inr (hst.kn.pick [] [])⟩, ?_⟩
  refine sAny_oneg (i := 8) (by kernel_rfl) rfl rfl henv rfl rfl rfl (op_call henv rfl Tryd.call17 rfl (ref_at (hst.pat (k := 0) rfl) hz100 hI (hk0.mono (by decide)) (by omega)) ?_)
  rintro e w106 ⟨_, rfl, ⟨A103, c104, rfl, hz105⟩, hb⟩
  refine ⟨_, rfl, ?_⟩
  clear henv a; intro a henv
  replace hst := (hst.call hb).addR hz105 ⟨nou_bk rfl, nou_bk rfl, trivial⟩
  clear hz105
  clear hb
  refine ⟨.inr ⟨hst.kn.pick [0, 1] (rg 2 4), .inr (hst.kn.pick [] [])⟩, ?_⟩
  refine sAny_oneg (i := 9) (by kernel_rfl) rfl rfl henv rfl rfl rfl (op_call henv rfl Tryd.call16 rfl (text_r (z := (hval pa pb es0)) (show RIn _ A103 c104 (hval pa pb es0) from hst.pat (k := 0) rfl) (by omega)) ?_)
  rintro e w107 ⟨rfl, hb⟩
  refine ⟨_, rfl, ?_⟩
  clear henv a; intro a henv
  replace hst := hst.call hb
  clear hb
  refine ⟨.inr ⟨hst.kn.pick [0, 1] (rg 2 4), .inr (hst.kn.pick [] [])⟩, ?_⟩
  refine tAg (i := 10) [11, 12] (v := .bool (decide ((textZ (hval pa pb es0)) = (textZ (hval pa pb es0))))) rfl (by kernel_rfl) (fun _ _ _ h => h) henv rfl rfl rfl rfl (fun _ => rn_eqls (s := (textZ (hval pa pb es0))) (t := (textZ (hval pa pb es0))) henv rfl rfl) ?_
  clear henv a; intro a henv
  rw [show (decide ((textZ (hval pa pb es0)) = (textZ (hval pa pb es0)))) = true from (decide_eq_true rfl)] at henv
  refine tA (i := 11) [12] (v := .bool true) rfl (by kernel_rfl) (fun _ _ _ h => h) henv rfl (fun _ => rn_pick henv rfl rfl) ?_
  clear henv a; intro a henv
  refine tA (i := 12) [] (v := .bool true) rfl (by kernel_rfl) (fun _ _ _ h => h) henv rfl (fun _ => rn_assign henv rfl) ?_
  clear henv a; intro a henv
  refine sAny_done (by kernel_rfl) ?_ _
  refine th_n ?_
  refine wp_ret ?_
  refine leave henv (res1 Tryd.results3 (RV.tmp henv rfl)) ?_
  exact ⟨rfl, hst.below⟩
theorem pats_law {A0 : Option Addr} {n0 c0 : Nat} {es0 : List Int} {pa pb : Int} {w0 : World} (h0 : (pfRow fI FI 1 A0 n0 c0 es0).P w0) (hI : I64 es0) :
    Calls Tryd.prog 3 #[.slice A0 n0 c0, .agg #[.int .i64 pa, .int .i64 pb]] w0 fun e w' => e = .returned (.bool true) ∧ Below w0.heap.size w0 w' := by
  rcases Nat.lt_or_ge 60 n0 with h1 | h1
  · exact pats_long h0 hI h1
  by_cases h2 : n0 = 0 ∨ ¬ (I16 pa ∧ I16 pb)
  · exact pats_bad h0 hI h1 h2
  · exact pats_ok h0 hI h1 (by omega) (Decidable.of_not_not fun h => h2 (.inr h))
end Go.Proofs.YtghaenkacjgdnaaDoor.W
