/- row.Over, Content, Primitive; the reference's Over, Content, Zero, Primitive. Printed by pv/gen_row9.py. No condition. -/
import Derived.Test.YtghaenkacjgdnaaDoorM48
import Derived.Test.YtghaenkacjgdnaaDoorM11
import Derived.Test.YtghaenkacjgdnaaDoorM36
import Derived.Test.YtghaenkacjgdnaaDoorM49
import Derived.Test.YtghaenkacjgdnaaDoorM45
import Derived.Test.YtghaenkacjgdnaaDoorM22
import Derived.Test.YtghaenkacjgdnaaDoorM34
import Derived.Test.YtghaenkacjgdnaaDoorM20
import Derived.Test.YtghaenkacjgdnaaDoorM16

namespace Go.Proofs.YtghaenkacjgdnaaDoor.W
open Go.RowKit Anv Go.Lib
def ovr (x y : Int) : Int := if x % y = 0 then x / y else 0
theorem divs_step {es : List NE} {xs : List Int} {j : Nat} {A : Option Addr} {c : Nat} {z m : Int} (hz : es.map zz = xs) (hd : divs m (xs.take j)) (he : es[j]? = some (A, c, z)) (h : z % m = 0) : divs m (xs.take (j + 1)) := by
  rw [ztake_snoc hz he]
  intro x hx
  rcases List.mem_append.1 hx with hx | hx
  · exact hd x hx
  · rw [List.mem_singleton.1 hx]; exact h
end Go.Proofs.YtghaenkacjgdnaaDoor.W

/- RowSums: the law's walk. Printed by pv/gen_rowA.py. No condition. -/
namespace Go.Proofs.YtghaenkacjgdnaaDoor.W
open Go.RowKit Anv Go.Lib
theorem Zk.zb {k : Nat} {es : List NE} (h : Zk k (es.map zz)) : ZB k es := h.es rfl
end Go.Proofs.YtghaenkacjgdnaaDoor.W

/- RowTexts, RowReads: the laws' walks. Printed by pv/gen_rowE.py. No condition. -/
namespace Go.Proofs.YtghaenkacjgdnaaDoor.W
open Go.RowKit Anv Go.Lib
theorem pre_len (zs : List Int) : 2 * zs.length + 1 ≤ (preT zs).length := by
  unfold preT
  rw [List.length_cons]
  induction zs with
  | nil => simp
  | cons z zs ih =>
    have h := rz_pos (rz_text z)
    rw [List.flatMap_cons, List.length_append, List.length_append, List.length_cons, List.length_cons, List.length_nil]
    omega
theorem row_read_ok {s : List UInt8} {zs : List Int} {n : Nat} {w0 : World} (h : Rd0 s (.inl zs)) (hn : zs.length = n) (hl : s.length < 8193) :
    Calls Tryd.prog 78 #[.string ⟨s.toArray⟩] w0 fun e w' => ∃ v, e = .returned (.tuple #[v, .agg #[.int .i64 0, .int .i64 0]]) ∧ ZRow w0.heap.size w' v n zs ∧ Below w0.heap.size w0 w' := by
  refine (row_read (by omega)).mono fun e w' ⟨hp, hb⟩ => ?_
  rcases hp with ⟨zs', n', v, h1, h2, _, he, hz⟩ | ⟨b, h1, _⟩ | ⟨p, zs', h1, h2, h3, _⟩
  · obtain rfl : zs = zs' := Sum.inl.inj (rd0_det h h1)
    obtain rfl : n = n' := hn.symm.trans h2
    exact ⟨v, he, hz, hb⟩
  · cases rd0_det h h1
  · have h4 := pre_len zs'
    rw [← h3, List.length_take] at h4
    omega
theorem row_read_bad {s : List UInt8} {b : Nat} {w0 : World} (h : Rd0 s (.inr b)) (hl : s.length < 8193) :
    Calls Tryd.prog 78 #[.string ⟨s.toArray⟩] w0 fun e w' => e = .returned (.tuple #[.slice none 0 0, .agg #[.int .i64 6, .int .i64 (b : Nat)]]) ∧ Below w0.heap.size w0 w' := by
  refine (row_read (by omega)).mono fun e w' ⟨hp, hb⟩ => ?_
  rcases hp with ⟨zs', n', v, h1, _⟩ | ⟨c, h1, he⟩ | ⟨p, zs', h1, h2, h3, _⟩
  · cases rd0_det h h1
  · obtain rfl : b = c := Sum.inr.inj (rd0_det h h1)
    exact ⟨he, hb⟩
  · have h4 := pre_len zs'
    rw [← h3, List.length_take] at h4
    omega
theorem row_text' {A0 : Option Addr} {n0 c0 : Nat} {es0 : List NE} {xs : List Int} {w0 : World} (h0 : (pfRow fN FN 2 A0 n0 c0 es0).P w0) (hz0 : es0.map zz = xs) (hk : Zk 90000 xs) (hn : n0 ≤ 1000000) :
    Calls Tryd.prog 79 #[.slice A0 n0 c0] w0 fun e w' => e = .returned (.string ⟨(textRow xs).toArray⟩) ∧ Below w0.heap.size w0 w' := by
  subst hz0
  exact row_text h0 hk.zb hn
end Go.Proofs.YtghaenkacjgdnaaDoor.W

/- anvillaw20's list, ref, is, works; slices.Clone, poly.Trim, Same, Text, Read. Printed by pv/gen_po1.py. No condition. -/
namespace Go.Proofs.YtghaenkacjgdnaaDoor.W
open Go.RowKit Anv Go.Lib
def LRowS (B : Nat) (w : World) (v : Value) (n : Nat) (zs : List Int) : Prop := ∃ g es, v = .slice (some ⟨g, 0, none⟩) n (n + 2) ∧ NewRow notU 28 2 fN FN B w (some ⟨g, 0, none⟩) (n + 2) (n + 2) es ∧ es.length = n + 2 ∧ es.map zz = zs ++ [0, 0]
def ZRowN (B : Nat) (w : World) (v : Value) (n : Nat) (zs : List Int) : Prop := ∃ A c es, v = .slice A n c ∧ NewRow notU 28 2 fN FN B w A n c es ∧ es.length = n ∧ es.map zz = zs ∧ (n = 0 → A = none)
def MRowN (B : Nat) (w : World) (v : Value) (n : Nat) (zs : List Int) : Prop := ∃ A c es, v = .slice A n c ∧ NewRow notU 39 2 fM FM B w A n c es ∧ es.length = n ∧ es.map zz = zs ∧ (n = 0 → A = none)
theorem zrown_nil {B n : Nat} {w : World} {zs : List Int} (hn : n = 0) (hz : zs = []) : ZRowN B w (.slice none 0 0) n zs := by
  subst hn hz
  exact ⟨none, 0, [], rfl, ⟨⟨World.ownsRow_nil w 0 _ 2, fun g hg => by simp [Value.ownBlock] at hg⟩, es_nil FN w, fun a h => by cases h⟩, rfl, rfl, fun _ => rfl⟩
theorem lst_step {ps : List NE} {es : List Int} {j m c : Nat} {A : Option Addr} {x : Int} (ho : ps.map zz = es.take j ++ List.replicate (m - j) 0) (he : es[j]? = some x) (hm : j < m) : (ps.set j (A, c, x)).map zz = es.take (j + 1) ++ List.replicate (m - (j + 1)) 0 := by
  have hl : (es.take j).length = j := by
    rw [List.length_take]
    have := (List.getElem?_eq_some_iff.1 he).1
    omega
  rw [List.map_set, ho, List.set_append_right _ _ (by omega), hl, Nat.sub_self, show m - j = (m - (j + 1)) + 1 by omega, List.replicate_succ, List.set_cons_zero, take_one he, List.append_assoc]
  rfl
theorem row_some {α : Type} {f : α → List Value} {F : α → PF} {z n c : Nat} {A : Option Addr} {es : List α} {w : World} (hn : 0 < n) (h : (pfRow f F z A n c es).P w) : A.isNone = false := by
  obtain ⟨b, off, rfl, _⟩ := h.1.cells hn
  rfl
theorem row_none {α : Type} {f : α → List Value} {F : α → PF} {z n c : Nat} {A : Option Addr} {es : List α} {w : World} (h : (pfRow f F z A n c es).P w) (hA : A = none) : n = 0 := by
  subst hA
  rcases Nat.eq_zero_or_pos n with h0 | h0
  · exact h0
  · obtain ⟨b, off, e, _⟩ := h.1.cells h0
    cases e
theorem nil_eq {A : Option Addr} {n : Nat} (h : n = 0 → A = none) (h' : A = none → n = 0) : (A.isNone == (((n : Nat) : Int) == (0 : Int))) = true := by
  rcases Nat.eq_zero_or_pos n with h0 | h0
  · rw [h h0, h0]; rfl
  · cases A with
    | none => exact absurd (h' rfl) (by omega)
    | some a =>
      rw [beq_eq_false_iff_ne.2 (show ((n : Nat) : Int) ≠ 0 by omega)]
      rfl
theorem St.listRow {w0 w : World} {own ps : List PF} {k n m c : Nat} {A : Option Addr} {es : List NE} {zs : List Int} (h : St w0 w own ps) (hk : ps[k]? = some (pfRow fN FN 2 A m c es)) (hz : es.map zz = zs ++ [0, 0]) (hl : zs.length = n) : ∃ es' : List NE, St w0 w own (pfRow fN FN 2 A n c es' :: ps) ∧ es'.length = n ∧ es'.map zz = zs := by
  have h1 : es.length = m := (h.pat hk).2.1
  have h2 := congrArg List.length hz
  rw [List.length_map, List.length_append] at h2
  simp only [List.length_cons, List.length_nil] at h2
  refine ⟨es.take n, h.preRow hk n fN_len (by omega), by rw [List.length_take]; omega, ?_⟩
  rw [List.map_take, hz, List.take_left' hl]
set_option maxRecDepth 100000 in
set_option maxHeartbeats 2000000 in
theorem p20_list {A0 : Option Addr} {n0 c0 : Nat} {es0 : List Int} {w0 : World} (h0 : (pfRow fI FI 1 A0 n0 c0 es0).P w0) (hI : I64 es0) (hn : n0 ≤ 10000000) :
    Calls Tryd.prog 12 #[.slice A0 n0 c0] w0 fun e w' => ∃ v, e = .returned v ∧ LRowS w0.heap.size w' v n0 es0 ∧ Below w0.heap.size w0 w' := by
  refine enter Tryd.func12 rfl Tryd.ntmps12 rfl ?_
  intro a henv hst
  have hlen0 := h0.2.1
  have hbig0 := Nat.le_trans h0.1.cap h0.1.big
  unfold maxLen at hbig0
  replace hst := hst.argRow h0
  clear h0
  refine wp_seq ?_
  refine region_seq ?_
  refine sv (v := .slice none 0 0) henv rfl (rn_assign henv rfl) ?_
  clear henv a; intro a henv
  refine wpList_nil ?_
  refine th_n ?_
  refine wp_seq ?_
  refine region_seq ?_
  revert a
  refine mA rfl rfl ?_
  refine sA (v := .int .i64 (n0 : Nat)) rfl (fun _ henv => rn_len henv Tryd.underlying22 rfl) ?_
  refine sA (v := .int .i64 (n0 + 2 : Nat)) rfl (fun _ henv => rn_add henv rfl rfl (by rw [IntWalk.i64_in _ (by omega)]; omega)) ?_
  intro a henv
  refine seq_step rfl (op_makeC (f := fN) (e0 := (none, 0, 0)) (q := notU) (n := 0) (m := n0 + 2) henv hst rfl Tryd.underlying32 inf_anvil_integer_Int rfl rfl fN_zero rfl rfl rfl (by omega) (by omega) (by unfold maxLen; omega) ?_)
  clear henv hst a; intro a w52 g51 henv hst
  have hzl : zl 0 = 0 := zl_zero
  replace hst := hst.addNs (es_zeros (n0 + 2) _) ⟨nou_rowS, trivial⟩
  refine sv (v := .slice (some ⟨g51, 0, none⟩) 0 (n0 + 2)) henv rfl (rn_assign henv rfl) ?_
  clear henv a; intro a henv
  refine wpList_nil ?_
  refine th_n ?_
  refine wp_seq ?_
  refine wp_seq ?_
  refine region_seq ?_
  revert a
  refine mA rfl rfl ?_
  refine sA (v := .int .i64 (n0 : Nat)) rfl (fun _ henv => rn_len henv Tryd.underlying22 rfl) ?_
  refine mA rfl rfl ?_
  intro a henv
  refine wpList_nil ?_
  refine th_n ?_
  refine wp_block ?_
  refine wp_loop_ghost (fun mz a w => ∃ j : Nat, ∃ ps : List NE, n0 - j = mz ∧ Env 23 a [(10, .slice A0 n0 c0), (11, .int .i64 (n0 : Nat)), (12, .int .i64 (j : Nat)), (3, .slice (some ⟨g51, 0, none⟩) j (n0 + 2))] ∧ St w0 w [rowS notU 28 2 (some ⟨g51, 0, none⟩) (n0 + 2) (n0 + 2) (fl fN ps)] [pfRow fI FI 1 A0 n0 c0 es0, pfEs FN ps] ∧ j ≤ n0 ∧ ps.map zz = es0.take j ++ List.replicate (n0 + 2 - j) 0) _ ⟨0, (List.replicate (n0 + 2) (none, 0, 0)), rfl, henv.sub ⟨rfl, rfl, rfl, rfl, trivial⟩, hst.pick [0] [1, 0] (by decide), (Nat.zero_le _), (by rw [List.map_replicate]; rfl)⟩ ?_
  clear henv hst a
  rintro mz a w53 ⟨j, ps, rfl, henv, hst, hj, ho⟩
  refine wp_seq ?_
  refine region_seq ?_
  refine sv (v := .bool (decide (((j : Nat) : Int) < ((n0 : Nat) : Int)))) henv rfl (rn_bin henv rfl rfl rfl) ?_
  clear henv a; intro a henv
  refine wpList_nil ?_
  refine th_n ?_
  refine wp_seq ?_
  refine if_split henv rfl (fun hc54 => ?_) (fun hc54 => ?_)
  · have hlt : j < n0 := by have := of_decide_eq_true hc54; omega
    obtain ⟨x, he0⟩ : ∃ x, es0[j]? = some x := ⟨_, List.getElem?_eq_getElem (by omega)⟩
    have hx := hI.at he0
    have hpl : ps.length = n0 + 2 := map_len ho (by simp; omega)
    refine wp_skip ?_
    refine th_n ?_
    refine wp_seq ?_
    refine wp_block ?_
    refine wp_seq ?_
    refine region_seq ?_
    revert a
    refine sA (v := .pointer (some ⟨ab A0, ao A0 + j * 1, none⟩)) rfl (fun _ henv => rn_idxR (i := j) henv Tryd.underlying22 (ty_int64.size) rfl rfl (by omega) rfl (show (pfRow fI FI 1 A0 n0 c0 es0).P _ from (hst.pat (k := 0) rfl)).1) ?_
    refine sA (v := .int .i64 x) rfl (fun _ henv => rn_loadE1 (i := j) (j := 0) (e := x) henv ty_int64 rfl rfl fI_len (by decide) (show (pfRow fI FI 1 A0 n0 c0 es0).P _ from (hst.pat (k := 0) rfl)).1 (by omega) he0 rfl) ?_
    refine aA rfl rfl ?_
    intro a henv
    refine wpList_nil ?_
    refine th_n ?_
    refine region_seq ?_
    revert a
    refine mA rfl rfl ?_
    refine mA rfl rfl ?_
    intro a henv
    refine seq_step rfl (op_call henv rfl Tryd.call34 rfl (of_z (n := x) (by omega) (by omega)) ?_)
    rintro e w58 ⟨_, rfl, ⟨A55, c56, rfl, hz57⟩, hb⟩
    refine ⟨_, rfl, ?_⟩
    clear henv a; intro a henv
    replace hst := (hst.call hb).addZ hz57 ⟨nou_rowS, trivial⟩
    clear hz57
    clear hb
    refine seq_step rfl (op_buildSlice (z := 2) (pv := #[(0, .agg #[.bool (neg x), .slice A55 (zl x) c56])]) (c := #[.bool (neg x), .slice A55 (zl x) c56]) henv hst rfl Tryd.underlying32 (ty_anvil_integer_Int.size) zero_anvil_integer_Int (by decide) (by decide) rfl (by kernel_rfl) ?_)
    clear henv hst a; intro a w60 g59 henv hst
    refine seq_step rfl (op_appendIn (f := fN) (e := (A55, c56, x)) (k := 1) (j := 0) henv hst rfl Tryd.underlying32 (ty_anvil_integer_Int.size) rfl rfl rfl rfl fN_len rfl (by omega) hpl rfl rfl ?_)
    clear henv hst a; intro a w61 henv hst
    replace hst := hst.setEs (e := (A55, c56, x)) (i := 2) (j := 0) rfl rfl j
    refine sv (v := .slice (some ⟨g51, 0, none⟩) (j + 1) (n0 + 2)) henv rfl (rn_assign henv rfl) ?_
    clear henv a; intro a henv
    refine wpList_nil ?_
    refine bl_n (th_n ?_)
    refine region_seq ?_
    revert a
    refine sA (v := .int .i64 (j + 1 : Nat)) rfl (fun _ henv => rn_add henv rfl rfl (by rw [IntWalk.i64_in _ (by omega)]; omega)) ?_
    refine mA rfl rfl ?_
    intro a henv
    refine wpList_nil ?_
    exact th_n ⟨_, (by omega), ⟨j + 1, (ps.set j (A55, c56, x)), rfl, henv.sub ⟨rfl, rfl, rfl, rfl, trivial⟩, hst.pick [1] [2, 0] (by decide), (by omega), (lst_step ho he0 (by omega))⟩⟩
  · obtain rfl : n0 = j := by have := of_decide_eq_false hc54; omega
    refine wp_exit ?_
    refine th_x (th_x (bl_x (th_n ?_)))
    refine wp_seq ?_
    refine region_seq ?_
    revert a
    refine mA rfl rfl ?_
    refine aA rfl rfl ?_
    intro a henv
    refine wpList_nil ?_
    refine th_n ?_
    refine wp_ret ?_
    refine leave henv (res1 Tryd.results12 (RV.tmp henv rfl)) ?_
    rw [List.take_of_length_le (by omega)] at ho
    exact ⟨_, rfl, ⟨_, ps, rfl, hst.newRow (k := 0) (j := 1) rfl rfl, map_len ho (by simp; omega), by rw [ho, show n0 + 2 - n0 = 2 by omega]; rfl⟩, hst.below⟩
set_option maxRecDepth 100000 in
set_option maxHeartbeats 2000000 in
theorem p20_ref {A0 : Option Addr} {n0 c0 : Nat} {es0 : List Int} {w0 : World} (h0 : (pfRow fI FI 1 A0 n0 c0 es0).P w0) (hI : I64 es0) (hn : n0 ≤ 10000000) :
    Calls Tryd.prog 18 #[.slice A0 n0 c0] w0 fun e w' => ∃ v, e = .returned v ∧ MRowN w0.heap.size w' v n0 es0 ∧ Below w0.heap.size w0 w' := by
  refine enter Tryd.func18 rfl Tryd.ntmps18 rfl ?_
  intro a henv hst
  have hlen0 := h0.2.1
  have hbig0 := Nat.le_trans h0.1.cap h0.1.big
  unfold maxLen at hbig0
  replace hst := hst.argRow h0
  clear h0
  refine wp_seq ?_
  refine region_seq ?_
  refine sv (v := .slice none 0 0) henv rfl (rn_assign henv rfl) ?_
  clear henv a; intro a henv
  refine wpList_nil ?_
  refine th_n ?_
  refine wp_seq ?_
  refine region_seq ?_
  refine sv (v := .slice none 0 0) henv rfl (rn_assign henv rfl) ?_
  clear henv a; intro a henv
  refine wpList_nil ?_
  refine th_n ?_
  refine wp_seq ?_
  refine wp_seq ?_
  refine region_seq ?_
  revert a
  refine mA rfl rfl ?_
  refine sA (v := .int .i64 (n0 : Nat)) rfl (fun _ henv => rn_len henv Tryd.underlying22 rfl) ?_
  refine mA rfl rfl ?_
  intro a henv
  refine wpList_nil ?_
  refine th_n ?_
  refine wp_block ?_
  replace hst := (hst.addRowS notU 39 2).nilEs FM
  replace hst : St w0 _ [rowS notU 39 2 none 0 0 (fl fM ([]))] [pfEs FM ([]), pfRow fI FI 1 A0 n0 c0 es0] := hst
  refine wp_loop_ghost (fun mz a w => ∃ j : Nat, ∃ B : Option Addr, ∃ d : Nat, ∃ os : List NE, n0 - j = mz ∧ Env 19 a [(6, .slice A0 n0 c0), (7, .int .i64 (n0 : Nat)), (8, .int .i64 (j : Nat)), (3, .slice B j d)] ∧ St w0 w [rowS notU 39 2 B j d (fl fM os)] [pfRow fI FI 1 A0 n0 c0 es0, pfEs FM os] ∧ j ≤ n0 ∧ os.map zz = es0.take j ∧ (j = 0 → B = none)) _ ⟨0, none, 0, [], rfl, henv.sub ⟨rfl, rfl, rfl, rfl, trivial⟩, hst.pick [0] [1, 0] (by decide), (Nat.zero_le _), rfl, (fun _ => rfl)⟩ ?_
  clear henv hst a
  rintro mz a w51 ⟨j, B, d, os, rfl, henv, hst, hj, ho, hB⟩
  refine wp_seq ?_
  refine region_seq ?_
  refine sv (v := .bool (decide (((j : Nat) : Int) < ((n0 : Nat) : Int)))) henv rfl (rn_bin henv rfl rfl rfl) ?_
  clear henv a; intro a henv
  refine wpList_nil ?_
  refine th_n ?_
  refine wp_seq ?_
  refine if_split henv rfl (fun hc52 => ?_) (fun hc52 => ?_)
  · have hlt : j < n0 := by have := of_decide_eq_true hc52; omega
    obtain ⟨x, he0⟩ : ∃ x, es0[j]? = some x := ⟨_, List.getElem?_eq_getElem (by omega)⟩
    have hx := hI.at he0
    refine wp_skip ?_
    refine th_n ?_
    refine wp_seq ?_
    refine wp_block ?_
    refine wp_seq ?_
    refine region_seq ?_
    revert a
    refine sA (v := .pointer (some ⟨ab A0, ao A0 + j * 1, none⟩)) rfl (fun _ henv => rn_idxR (i := j) henv Tryd.underlying22 (ty_int64.size) rfl rfl (by omega) rfl (show (pfRow fI FI 1 A0 n0 c0 es0).P _ from (hst.pat (k := 0) rfl)).1) ?_
    refine sA (v := .int .i64 x) rfl (fun _ henv => rn_loadE1 (i := j) (j := 0) (e := x) henv ty_int64 rfl rfl fI_len (by decide) (show (pfRow fI FI 1 A0 n0 c0 es0).P _ from (hst.pat (k := 0) rfl)).1 (by omega) he0 rfl) ?_
    refine aA rfl rfl ?_
    intro a henv
    refine wpList_nil ?_
    refine th_n ?_
    refine region_seq ?_
    revert a
    refine mA rfl rfl ?_
    refine mA rfl rfl ?_
    intro a henv
    refine seq_step rfl (op_call henv rfl Tryd.call36 rfl (of_r (n := x) (by omega) (by omega)) ?_)
    rintro e w56 ⟨_, rfl, ⟨A53, c54, rfl, hz55⟩, hb⟩
    refine ⟨_, rfl, ?_⟩
    clear henv a; intro a henv
    replace hst := (hst.call hb).addR hz55 ⟨nou_rowS, trivial⟩
    clear hz55
    clear hb
    refine seq_step rfl (op_buildSlice (z := 2) (pv := #[(0, .agg #[.bool (neg x), .slice A53 (dl x) c54])]) (c := #[.bool (neg x), .slice A53 (dl x) c54]) henv hst rfl Tryd.underlying42 (ty_anvil_anvilref02_Int.size) zero_anvil_anvilref02_Int (by decide) (by decide) rfl (by kernel_rfl) ?_)
    clear henv hst a; intro a w58 g57 henv hst
    refine seq_step rfl (op_appendS (k := 1) (j := 0) henv hst rfl Tryd.underlying42 inf_anvil_anvilref02_Int rfl rfl rfl rfl rfl rfl rfl rfl rfl rfl rfl (by unfold maxLen; omega) (by omega) ?_)
    clear henv hst a; intro a w61 g59 c60 henv hst
    rw [show fl fM os ++ (#[.bool (neg x), .slice A53 (dl x) c54] : Array Value).toList = fl fM (os ++ [(A53, c54, x)]) from fl_snoc (f := fM) os (A53, c54, x)] at hst
    replace hst := hst.snocEs (e := (A53, c54, x)) (i := 2) (j := 0) rfl rfl
    refine sv (v := .slice (some ⟨g59, 0, none⟩) (j + 1) c60) henv rfl (rn_assign henv rfl) ?_
    clear henv a; intro a henv
    refine wpList_nil ?_
    refine bl_n (th_n ?_)
    refine region_seq ?_
    revert a
    refine sA (v := .int .i64 (j + 1 : Nat)) rfl (fun _ henv => rn_add henv rfl rfl (by rw [IntWalk.i64_in _ (by omega)]; omega)) ?_
    refine mA rfl rfl ?_
    intro a henv
    refine wpList_nil ?_
    exact th_n ⟨_, (by omega), ⟨j + 1, (some ⟨g59, 0, none⟩), c60, (os ++ [(A53, c54, x)]), rfl, henv.sub ⟨rfl, rfl, rfl, rfl, trivial⟩, hst.pick [1] [2, 0] (by decide), (by omega), (step_ints ho he0), (fun h => absurd h (by omega))⟩⟩
  · obtain rfl : n0 = j := by have := of_decide_eq_false hc52; omega
    refine wp_exit ?_
    refine th_x (th_x (bl_x (th_n ?_)))
    refine wp_seq ?_
    refine region_seq ?_
    revert a
    refine mA rfl rfl ?_
    refine aA rfl rfl ?_
    intro a henv
    refine wpList_nil ?_
    refine th_n ?_
    refine wp_ret ?_
    refine leave henv (res1 Tryd.results18 (RV.tmp henv rfl)) ?_
    exact ⟨_, rfl, ⟨_, _, os, rfl, hst.newRow (k := 0) (j := 1) rfl rfl, map_len ho (by rw [List.length_take]; omega), (ho.trans (List.take_of_length_le (by omega))), hB⟩, hst.below⟩
set_option maxRecDepth 100000 in
set_option maxHeartbeats 2000000 in
theorem z_clone {A0 : Option Addr} {n0 c0 : Nat} {es0 : List NE} {xs : List Int} {w0 : World} (h0 : (pfRow fN FN 2 A0 n0 c0 es0).P w0) (hz0 : es0.map zz = xs) (hp : 0 < n0) (hn : n0 ≤ 10000000) :
    Calls Tryd.prog 61 #[.slice A0 n0 c0] w0 fun e w' => ∃ v, e = .returned v ∧ ZRow w0.heap.size w' v n0 xs ∧ Below w0.heap.size w0 w' := by
  have hnn := row_some hp h0
  refine enter Tryd.func61 rfl Tryd.ntmps61 rfl ?_
  intro a henv hst
  have hlen0 := h0.2.1
  have hbig0 := Nat.le_trans h0.1.cap h0.1.big
  unfold maxLen at hbig0
  replace hst := hst.argRow h0
  clear h0
  refine wp_seq ?_
  refine region_seq ?_
  refine sv (v := .slice none 0 0) henv rfl (rn_assign henv rfl) ?_
  clear henv a; intro a henv
  refine wpList_nil ?_
  refine th_n ?_
  refine wp_seq ?_
  refine wp_seq ?_
  refine region_seq ?_
  revert a
  refine mA rfl rfl ?_
  refine sA (v := .bool A0.isNone) rfl (fun _ henv => rn_nilS henv Tryd.underlying32 rfl) ?_
  intro a henv
  rw [show A0.isNone = false from hnn] at henv
  refine wpList_nil ?_
  refine th_n ?_
  refine if_f henv rfl (rfl) ?_
  refine wp_skip ?_
  refine th_n ?_
  refine wp_seq ?_
  refine region_seq ?_
  refine seq_step rfl (op_buildSlice0 henv hst rfl Tryd.underlying32 (ty_anvil_integer_Int.size) ?_)
  clear henv hst a; intro a w52 g51 henv hst
  replace hst := (hst.bkRow0 (k := 0) rfl 2).nilEs FN
  replace hst : St w0 _ [rowS notU 28 2 (some ⟨g51, 0, none⟩) 0 0 (fl fN ([]))] [pfEs FN ([]), pfRow fN FN 2 A0 n0 c0 es0] := hst
  refine sv (v := .slice A0 n0 c0) henv rfl (rn_move henv rfl) ?_
  clear henv a; intro a henv
  refine seq_step rfl (op_appendR (k := 0) henv hst rfl Tryd.underlying32 inf_anvil_integer_Int rfl rfl rfl rfl rfl (hst.pat (k := 1) rfl).1 (fl_all (fun _ => rfl) _) (fl_all (fun _ => rfl) _) rfl (by omega) (by unfold maxLen; omega) (by omega) ?_)
  clear henv hst a; intro a w55 g53 c54 henv hst
  rw [show fl fN ([]) ++ fl fN es0 = fl fN es0 from rfl] at hst
  replace hst := hst.rowEs (i := 1) rfl
  replace hst : St w0 _ [rowS notU 28 2 (some ⟨g53, 0, none⟩) (0 + n0) c54 (fl fN es0)] [pfEs FN es0, pfEs FN ([]), pfRow fN FN 2 A0 n0 c0 es0] := hst
  refine sv (v := .slice (some ⟨g53, 0, none⟩) (0 + n0) c54) henv rfl (rn_assign henv rfl) ?_
  clear henv a; intro a henv
  refine wpList_nil ?_
  refine th_n ?_
  refine wp_ret ?_
  refine leave henv (res1 Tryd.results61 (RV.tmp henv rfl)) ?_
  exact ⟨_, rfl, ⟨_, _, es0, congrArg (fun k => Value.slice _ k _) (Nat.zero_add _), (Nat.zero_add n0 ▸ hst.newRow (k := 0) (j := 0) rfl rfl), hlen0, hz0⟩, hst.below⟩
set_option maxRecDepth 100000 in
set_option maxHeartbeats 2000000 in
theorem p_trim {A0 : Option Addr} {n0 c0 : Nat} {es0 : List NE} {xs : List Int} {w0 : World} (h0 : (pfRow fN FN 2 A0 n0 c0 es0).P w0) (hz0 : es0.map zz = xs) (hn : n0 ≤ 10000000) :
    Calls Tryd.prog 27 #[.slice A0 n0 c0] w0 fun e w' => ∃ v, e = .returned v ∧ ZRowN w0.heap.size w' v (degN xs) (trimN xs) ∧ Below w0.heap.size w0 w' := by
  have hdl : degN xs ≤ n0 := by have := deg_len xs; rw [← hz0, List.length_map, h0.2.1] at this; rw [← hz0]; exact this
  have hcap0 := h0.1.cap
  refine enter Tryd.func27 rfl Tryd.ntmps27 rfl ?_
  intro a henv hst
  have hlen0 := h0.2.1
  have hbig0 := Nat.le_trans h0.1.cap h0.1.big
  unfold maxLen at hbig0
  replace hst := hst.argRow h0
  clear h0
  refine wp_seq ?_
  refine region_seq ?_
  refine sv (v := .slice none 0 0) henv rfl (rn_assign henv rfl) ?_
  clear henv a; intro a henv
  refine wpList_nil ?_
  refine th_n ?_
  refine wp_seq ?_
  refine region_seq ?_
  refine sv (v := .slice A0 n0 c0) henv rfl (rn_move henv rfl) ?_
  clear henv a; intro a henv
  refine seq_step rfl (op_call henv rfl Tryd.call23 rfl (p_deg (hst.pat (k := 0) rfl) hz0 (by omega)) ?_)
  rintro e w51 ⟨rfl, hb⟩
  refine ⟨_, rfl, ?_⟩
  clear henv a; intro a henv
  replace hst := hst.call hb
  clear hb
  revert a
  refine sA (v := .int .i64 (degN xs : Nat)) rfl (fun _ henv => rn_add henv rfl rfl (by rw [IntWalk.i64_in _ (by omega)]; omega)) ?_
  refine aA rfl rfl ?_
  intro a henv
  refine wpList_nil ?_
  refine th_n ?_
  refine wp_seq ?_
  refine wp_seq ?_
  refine region_seq ?_
  revert a
  refine mA rfl rfl ?_
  refine sA (v := .bool (((degN xs : Nat) : Int) == (0 : Int))) rfl (fun _ henv => rn_bin henv rfl rfl rfl) ?_
  intro a henv
  refine wpList_nil ?_
  refine th_n ?_
  refine if_split henv rfl (fun hc52 => ?_) (fun hc52 => ?_)
  · replace hc52 := eq_of_beq hc52
    have hd0 : degN xs = 0 := by omega
    refine wp_seq ?_
    refine region_seq ?_
    refine sv (v := .slice none 0 0) henv rfl (rn_assign henv rfl) ?_
    clear henv a; intro a henv
    refine wpList_nil ?_
    refine th_n ?_
    refine wp_ret ?_
    refine th_r ?_
    refine leave henv (res1 Tryd.results27 (RV.tmp henv rfl)) ?_
    exact ⟨_, rfl, zrown_nil hd0 (by rw [trimN, hd0]; rfl), hst.below⟩
  · replace hc52 := ne_of_beq_false hc52
    have hpos : 0 < degN xs := by omega
    refine wp_skip ?_
    refine th_n ?_
    refine wp_seq ?_
    refine region_seq ?_
    revert a
    refine mA rfl rfl ?_
    refine mA rfl rfl ?_
    refine sA (v := .slice A0 (degN xs) c0) rfl (fun _ henv => rn_sliceTo (m := degN xs) henv Tryd.underlying32 (ty_anvil_integer_Int.size) rfl rfl (by omega)) ?_
    intro a henv
    refine seq_step rfl (op_call henv rfl Tryd.call61 rfl (z_clone (xs := trimN xs) (row_pre fN_len (hst.pat (k := 0) rfl) hdl) (by rw [List.map_take, hz0]; rfl) hpos (by omega)) ?_)
    rintro e w59 ⟨_, rfl, ⟨A53, c54, es55, rfl, hr, hl56, hz57⟩, hb⟩
    refine ⟨_, rfl, ?_⟩
    clear henv a; intro a henv
    replace hst := hst.freshRow hb hr (ap_N hr.2.1 ⟨nou_rowS, trivial⟩)
    clear hr
    clear hb
    refine sv (v := .slice A53 (degN xs) c54) henv rfl (rn_assign henv rfl) ?_
    clear henv a; intro a henv
    refine wpList_nil ?_
    refine th_n ?_
    refine wp_ret ?_
    refine leave henv (res1 Tryd.results27 (RV.tmp henv rfl)) ?_
    exact ⟨_, rfl, ⟨_, _, _, rfl, hst.newRow (k := 0) (j := 0) rfl rfl, hl56, hz57, fun h => absurd h (by omega)⟩, hst.below⟩
set_option maxRecDepth 100000 in
set_option maxHeartbeats 2000000 in
theorem ps_one {A B : Option Addr} {c d : Nat} {x y : Int} {w0 : World} (hx : ZIn w0 A c x) (hy : ZIn w0 B d y) :
    Calls Tryd.prog 56 #[.agg #[.bool (neg x), .slice A (zl x) c], .agg #[.bool (neg y), .slice B (zl y) d]] w0 fun e w' => e = .returned (.bool (decide (x = y))) ∧ Below w0.heap.size w0 w' := by
  refine enter Tryd.func56 rfl Tryd.ntmps56 rfl ?_
  intro a henv hst
  replace hst := (hst.addZ hx trivial).addZ hy trivial
  clear hx hy
  refine wp_seq ?_
  refine region_seq ?_
  refine seq_step rfl (op_box (c := #[.bool (neg x), .slice A (zl x) c]) henv hst rfl rfl rfl ?_)
  clear henv hst a; intro a w52 g51 henv hst
  refine seq_step rfl (op_box (c := #[.bool (neg y), .slice B (zl y) d]) henv hst rfl rfl rfl ?_)
  clear henv hst a; intro a w54 g53 henv hst
  refine sv (v := .bool false) henv rfl (rn_assign henv rfl) ?_
  clear henv a; intro a henv
  refine wpList_nil ?_
  refine th_n ?_
  refine wp_seq ?_
  refine region_seq ?_
  revert a
  refine sA (v := .agg #[.bool (neg x), .slice A (zl x) c]) rfl (fun _ henv => rn_load0 henv ty_anvil_integer_Int rfl (hst.oat (k := 1) rfl) rfl) ?_
  refine sA (v := .agg #[.bool (neg y), .slice B (zl y) d]) rfl (fun _ henv => rn_load0 henv ty_anvil_integer_Int rfl (hst.oat (k := 0) rfl) rfl) ?_
  intro a henv
  refine seq_step rfl (op_call henv rfl Tryd.call42 rfl (cmp_z (x := x) (y := y) (show ZIn _ A c x from hst.pat (k := 1) rfl) (show ZIn _ B d y from hst.pat (k := 0) rfl)) ?_)
  rintro e w55 ⟨rfl, hb⟩
  refine ⟨_, rfl, ?_⟩
  clear henv a; intro a henv
  replace hst := hst.call hb
  clear hb
  revert a
  refine sA (v := .bool ((x - y).sign == (0 : Int))) rfl (fun _ henv => rn_bin henv rfl rfl rfl) ?_
  refine aA rfl rfl ?_
  intro a henv
  refine wpList_nil ?_
  refine th_n ?_
  refine wp_ret ?_
  refine leave henv (res1 Tryd.results56 (RV.tmp henv rfl)) ?_
  exact ⟨congrArg (fun b => Ending.returned (Value.bool b)) (sub_dec x y), hst.below⟩
set_option maxRecDepth 100000 in
set_option maxHeartbeats 2000000 in
theorem ps_func {A0 A1 : Option Addr} {n0 n1 c0 c1 : Nat} {es0 es1 : List NE} {xs ys : List Int} {w0 : World} (h0 : (pfRow fN FN 2 A0 n0 c0 es0).P w0) (hz0 : es0.map zz = xs) (h1 : (pfRow fN FN 2 A1 n1 c1 es1).P w0) (hz1 : es1.map zz = ys) :
    Calls Tryd.prog 55 #[.slice A0 n0 c0, .slice A1 n1 c1, .func (.func 56) #[] #[]] w0 fun e w' => e = .returned (.bool (decide (xs = ys))) ∧ Below w0.heap.size w0 w' := by
  refine enter Tryd.func55 rfl Tryd.ntmps55 rfl ?_
  intro a henv hst
  have hlen0 := h0.2.1
  have hlen1 := h1.2.1
  have hbig0 := Nat.le_trans h0.1.cap h0.1.big
  unfold maxLen at hbig0
  replace hst := (hst.argRow h1).argRow h0
  clear h0 h1
  refine wp_seq ?_
  refine region_seq ?_
  refine sv (v := .bool false) henv rfl (rn_assign henv rfl) ?_
  clear henv a; intro a henv
  refine wpList_nil ?_
  refine th_n ?_
  refine wp_seq ?_
  refine wp_seq ?_
  refine region_seq ?_
  revert a
  refine mA rfl rfl ?_
  refine sA (v := .int .i64 (n0 : Nat)) rfl (fun _ henv => rn_len henv Tryd.underlying32 rfl) ?_
  refine mA rfl rfl ?_
  refine sA (v := .int .i64 (n1 : Nat)) rfl (fun _ henv => rn_len henv Tryd.underlying32 rfl) ?_
  refine sA (v := .bool (((n0 : Nat) : Int) != ((n1 : Nat) : Int))) rfl (fun _ henv => rn_bin henv rfl rfl rfl) ?_
  intro a henv
  refine wpList_nil ?_
  refine th_n ?_
  refine if_split henv rfl (fun hc51 => ?_) (fun hc51 => ?_)
  · have hne : n0 ≠ n1 := by have := hc51; simp at this; omega
    refine wp_seq ?_
    refine region_seq ?_
    refine sv (v := .bool false) henv rfl (rn_assign henv rfl) ?_
    clear henv a; intro a henv
    refine wpList_nil ?_
    refine th_n ?_
    refine wp_ret ?_
    refine th_r ?_
    refine leave henv (res1 Tryd.results55 (RV.tmp henv rfl)) ?_
    first | exact ⟨by rw [decide_eq_false (eq_ne hz0 hlen0 hz1 hlen1 hne)], hst.below⟩ | exact ⟨by rw [decide_eq_false (eq_at hz0 hz1 he0 he1 hxy)], hst.below⟩
  · have hnn : n0 = n1 := by have := hc51; simp at this; omega
    refine wp_skip ?_
    refine th_n ?_
    refine wp_seq ?_
    refine wp_seq ?_
    refine region_seq ?_
    revert a
    refine mA rfl rfl ?_
    refine sA (v := .int .i64 (n0 : Nat)) rfl (fun _ henv => rn_len henv Tryd.underlying32 rfl) ?_
    refine mA rfl rfl ?_
    intro a henv
    refine wpList_nil ?_
    refine th_n ?_
    refine wp_block ?_
    refine wp_loop_ghost (fun mz a w => ∃ j : Nat, n0 - j = mz ∧ Env 32 a [(1, .slice A1 n1 c1), (2, .func (.func 56) #[] #[]), (15, .slice A0 n0 c0), (16, .int .i64 (n0 : Nat)), (17, .int .i64 (j : Nat))] ∧ St w0 w [] [pfRow fN FN 2 A0 n0 c0 es0, pfRow fN FN 2 A1 n1 c1 es1] ∧ j ≤ n0 ∧ xs.take j = ys.take j) _ ⟨0, rfl, henv.sub ⟨rfl, rfl, rfl, rfl, rfl, trivial⟩, hst.pick [] [0, 1] (by decide), (Nat.zero_le _), rfl⟩ ?_
    clear henv hst a
    rintro mz a w52 ⟨j, rfl, henv, hst, hj, he⟩
    refine wp_seq ?_
    refine region_seq ?_
    refine sv (v := .bool (decide (((j : Nat) : Int) < ((n0 : Nat) : Int)))) henv rfl (rn_bin henv rfl rfl rfl) ?_
    clear henv a; intro a henv
    refine wpList_nil ?_
    refine th_n ?_
    refine wp_seq ?_
    refine if_split henv rfl (fun hc53 => ?_) (fun hc53 => ?_)
    · have hlt : j < n0 := by have := of_decide_eq_true hc53; omega
      obtain ⟨⟨A, c, x⟩, he0⟩ : ∃ e, es0[j]? = some e := ⟨_, List.getElem?_eq_getElem (by omega)⟩
      replace hst := hst.elem (k := 0) rfl he0
      replace hst : St w0 _ [] [pfZ A c x, pfRow fN FN 2 A0 n0 c0 es0, pfRow fN FN 2 A1 n1 c1 es1] := hst
      obtain ⟨⟨C, d, y⟩, he1⟩ : ∃ e, es1[j]? = some e := ⟨_, List.getElem?_eq_getElem (by omega)⟩
      replace hst := hst.elem (k := 2) rfl he1
      replace hst : St w0 _ [] [pfZ C d y, pfZ A c x, pfRow fN FN 2 A0 n0 c0 es0, pfRow fN FN 2 A1 n1 c1 es1] := hst
      refine wp_skip ?_
      refine th_n ?_
      refine wp_seq ?_
      refine wp_block ?_
      refine wp_seq ?_
      refine region_seq ?_
      revert a
      refine mA rfl rfl ?_
      refine sA (v := .pointer (some ⟨ab A0, ao A0 + j * 2, none⟩)) rfl (fun _ henv => rn_idxR (i := j) henv Tryd.underlying32 (ty_anvil_integer_Int.size) rfl rfl (by omega) rfl (show (pfRow fN FN 2 A0 n0 c0 es0).P _ from (hst.pat (k := 2) rfl)).1) ?_
      refine sA (v := .agg #[.bool (neg x), .slice A (zl x) c]) rfl (fun _ henv => rn_loadE (i := j) (e := (A, c, x)) henv ty_anvil_integer_Int rfl rfl fN_len (show (pfRow fN FN 2 A0 n0 c0 es0).P _ from (hst.pat (k := 2) rfl)).1 (by omega) he0 rfl) ?_
      intro a henv
      refine seq_step rfl (op_alloc (c := #[.bool (neg 0), .slice none (zl 0) 0]) henv hst rfl zero_anvil_integer_Int zcells ?_)
      clear henv hst a; intro a w55 g54 henv hst
      refine sv (v := .int .i64 (j : Nat)) henv rfl (rn_assign henv rfl) ?_
      clear henv a; intro a henv
      refine seq_step rfl (op_store (k := 0) (c' := #[.bool (neg x), .slice A (zl x) c]) henv hst (ty_anvil_integer_Int.size) rfl rfl rfl rfl (by simp) rfl rfl ?_)
      clear henv hst a; intro a w56 henv hst
      refine wpList_nil ?_
      refine th_n ?_
      refine wp_seq ?_
      refine region_seq ?_
      revert a
      refine mA rfl rfl ?_
      refine mA rfl rfl ?_
      refine sA (v := .pointer (some ⟨ab A1, ao A1 + j * 2, none⟩)) rfl (fun _ henv => rn_idxR (i := j) henv Tryd.underlying32 (ty_anvil_integer_Int.size) rfl rfl (by omega) rfl (show (pfRow fN FN 2 A1 n1 c1 es1).P _ from (hst.pat (k := 3) rfl)).1) ?_
      refine sA (v := .agg #[.bool (neg y), .slice C (zl y) d]) rfl (fun _ henv => rn_loadE (i := j) (e := (C, d, y)) henv ty_anvil_integer_Int rfl rfl fN_len (show (pfRow fN FN 2 A1 n1 c1 es1).P _ from (hst.pat (k := 3) rfl)).1 (by omega) he1 rfl) ?_
      intro a henv
      refine seq_step rfl (op_alloc (c := #[.bool (neg 0), .slice none (zl 0) 0]) henv hst rfl zero_anvil_integer_Int zcells ?_)
      clear henv hst a; intro a w58 g57 henv hst
      refine seq_step rfl (op_store (k := 0) (c' := #[.bool (neg y), .slice C (zl y) d]) henv hst (ty_anvil_integer_Int.size) rfl rfl rfl rfl (by simp) rfl rfl ?_)
      clear henv hst a; intro a w59 henv hst
      refine wpList_nil ?_
      refine th_n ?_
      refine wp_seq ?_
      refine region_seq ?_
      revert a
      refine mA rfl rfl ?_
      refine sA (v := .agg #[.bool (neg x), .slice A (zl x) c]) rfl (fun _ henv => rn_load0 henv ty_anvil_integer_Int rfl (hst.oat (k := 1) rfl) rfl) ?_
      refine sA (v := .agg #[.bool (neg y), .slice C (zl y) d]) rfl (fun _ henv => rn_load0 henv ty_anvil_integer_Int rfl (hst.oat (k := 0) rfl) rfl) ?_
      intro a henv
      refine seq_step rfl (op_callc (vs := #[.agg #[.bool (neg x), .slice A (zl x) c], .agg #[.bool (neg y), .slice C (zl y) d]]) henv rfl Tryd.call56 rfl rfl (calls_app (by simp) (ps_one (x := x) (y := y) (show ZIn _ A c x from hst.pat (k := 1) rfl) (show ZIn _ C d y from hst.pat (k := 0) rfl))) ?_)
      rintro e w60 ⟨rfl, hb⟩
      refine ⟨_, rfl, ?_⟩
      clear henv a; intro a henv
      replace hst := hst.call hb
      clear hb
      refine sv (v := .bool (!(decide (x = y)))) henv rfl (rn_un henv rfl rfl) ?_
      clear henv a; intro a henv
      refine wpList_nil ?_
      refine th_n ?_
      refine if_split henv rfl (fun hc61 => ?_) (fun hc61 => ?_)
      · have hxy : ¬ x = y := by have := hc61; simpa using this
        refine wp_seq ?_
        refine region_seq ?_
        refine sv (v := .bool false) henv rfl (rn_assign henv rfl) ?_
        clear henv a; intro a henv
        refine wpList_nil ?_
        refine th_n ?_
        refine wp_ret ?_
        refine bl_r (th_r (th_r (bl_r (th_r ?_))))
        refine leave henv (res1 Tryd.results55 (RV.tmp henv rfl)) ?_
        first | exact ⟨by rw [decide_eq_false (eq_ne hz0 hlen0 hz1 hlen1 hne)], hst.below⟩ | exact ⟨by rw [decide_eq_false (eq_at hz0 hz1 he0 he1 hxy)], hst.below⟩
      · have hxy : x = y := by have := hc61; simpa using this
        refine wp_skip ?_
        refine bl_n (th_n ?_)
        refine region_seq ?_
        revert a
        refine sA (v := .int .i64 (j + 1 : Nat)) rfl (fun _ henv => rn_add henv rfl rfl (by rw [IntWalk.i64_in _ (by omega)]; omega)) ?_
        refine mA rfl rfl ?_
        intro a henv
        refine wpList_nil ?_
        exact th_n ⟨_, (by omega), ⟨j + 1, rfl, henv.sub ⟨rfl, rfl, rfl, rfl, rfl, trivial⟩, hst.pick [] [2, 3] (by decide), (by omega), (by rw [zts hz0 he0, zts hz1 he1, he, hxy])⟩⟩
    · have hjn : j = n0 := by have := of_decide_eq_false hc53; omega
      refine wp_exit ?_
      refine th_x (th_x (bl_x (th_n ?_)))
      refine wp_seq ?_
      refine region_seq ?_
      refine sv (v := .bool true) henv rfl (rn_assign henv rfl) ?_
      clear henv a; intro a henv
      refine wpList_nil ?_
      refine th_n ?_
      refine wp_ret ?_
      refine leave henv (res1 Tryd.results55 (RV.tmp henv rfl)) ?_
      have hall : xs = ys := eq_full hz0 hlen0 hz1 hlen1 (hnn ▸ rfl) (hjn ▸ he)
      exact ⟨by rw [decide_eq_true hall], hst.below⟩
set_option maxRecDepth 100000 in
set_option maxHeartbeats 2000000 in
theorem p_same {A0 A1 : Option Addr} {n0 n1 c0 c1 : Nat} {es0 es1 : List NE} {xs ys : List Int} {w0 : World} (h0 : (pfRow fN FN 2 A0 n0 c0 es0).P w0) (hz0 : es0.map zz = xs) (h1 : (pfRow fN FN 2 A1 n1 c1 es1).P w0) (hz1 : es1.map zz = ys) (hn0 : n0 ≤ 10000000) (hn1 : n1 ≤ 10000000) :
    Calls Tryd.prog 19 #[.slice A0 n0 c0, .slice A1 n1 c1] w0 fun e w' => e = .returned (.bool (decide (trimN xs = trimN ys))) ∧ Below w0.heap.size w0 w' := by
  refine enter Tryd.func19 rfl Tryd.ntmps19 rfl ?_
  intro a henv hst
  have hlen0 := h0.2.1
  have hlen1 := h1.2.1
  have hbig0 := Nat.le_trans h0.1.cap h0.1.big
  unfold maxLen at hbig0
  replace hst := (hst.argRow h1).argRow h0
  clear h0 h1
  refine wp_seq ?_
  refine region_seq ?_
  refine sv (v := .bool false) henv rfl (rn_assign henv rfl) ?_
  clear henv a; intro a henv
  refine wpList_nil ?_
  refine th_n ?_
  refine wp_seq ?_
  refine region_seq ?_
  refine sv (v := .slice A0 n0 c0) henv rfl (rn_move henv rfl) ?_
  clear henv a; intro a henv
  refine seq_step rfl (op_call henv rfl Tryd.call27 rfl (p_trim (hst.pat (k := 0) rfl) hz0 (by omega)) ?_)
  rintro e w57 ⟨_, rfl, ⟨A51, c52, es53, rfl, hr, hl54, hz55, hn56⟩, hb⟩
  refine ⟨_, rfl, ?_⟩
  clear henv a; intro a henv
  replace hst := hst.freshRd hb hr hl54 (ap_N hr.2.1 trivial)
  clear hr
  clear hb
  refine sv (v := .slice A1 n1 c1) henv rfl (rn_move henv rfl) ?_
  clear henv a; intro a henv
  refine seq_step rfl (op_call henv rfl Tryd.call27 rfl (p_trim (hst.pat (k := 2) rfl) hz1 (by omega)) ?_)
  rintro e w64 ⟨_, rfl, ⟨A58, c59, es60, rfl, hr, hl61, hz62, hn63⟩, hb⟩
  refine ⟨_, rfl, ?_⟩
  clear henv a; intro a henv
  replace hst := hst.freshRd hb hr hl61 (ap_N hr.2.1 trivial)
  clear hr
  clear hb
  refine seq_step rfl (op_call henv rfl Tryd.call55 rfl (ps_func (hst.pat (k := 1) rfl) hz55 (hst.pat (k := 0) rfl) hz62) ?_)
  rintro e w65 ⟨rfl, hb⟩
  refine ⟨_, rfl, ?_⟩
  clear henv a; intro a henv
  replace hst := hst.call hb
  clear hb
  refine sv (v := .bool (decide (trimN xs = trimN ys))) henv rfl (rn_assign henv rfl) ?_
  clear henv a; intro a henv
  refine wpList_nil ?_
  refine th_n ?_
  refine wp_ret ?_
  refine leave henv (res1 Tryd.results19 (RV.tmp henv rfl)) ?_
  exact ⟨rfl, hst.below⟩
set_option maxRecDepth 100000 in
set_option maxHeartbeats 2000000 in
theorem is20_one {A B : Option Addr} {c d : Nat} {x y : Int} {w0 : World} (hx : ZIn w0 A c x) (hy : RIn w0 B d y) (hn : zl x ≤ 20000) (hm : dl y ≤ 60000) :
    Calls Tryd.prog 60 #[.agg #[.bool (neg x), .slice A (zl x) c], .agg #[.bool (neg y), .slice B (dl y) d]] w0 fun e w' => e = .returned (.bool (decide (x = y))) ∧ Below w0.heap.size w0 w' := by
  refine enter Tryd.func60 rfl Tryd.ntmps60 rfl ?_
  intro a henv hst
  replace hst := (hst.addZ hx trivial).addR hy trivial
  clear hx hy
  refine wp_seq ?_
  refine region_seq ?_
  refine seq_step rfl (op_box (c := #[.bool (neg x), .slice A (zl x) c]) henv hst rfl rfl rfl ?_)
  clear henv hst a; intro a w52 g51 henv hst
  refine seq_step rfl (op_box (c := #[.bool (neg y), .slice B (dl y) d]) henv hst rfl rfl rfl ?_)
  clear henv hst a; intro a w54 g53 henv hst
  refine sv (v := .bool false) henv rfl (rn_assign henv rfl) ?_
  clear henv a; intro a henv
  refine wpList_nil ?_
  refine th_n ?_
  refine wp_seq ?_
  refine region_any (n := 6) (Sk [bk g53 #[.bool (neg y), .slice B (dl y) d] 39, bk g51 #[.bool (neg x), .slice A (zl x) c] 28] [pfR B d y, pfZ A c x] [] []) mixed rfl henv hst ?_
  clear henv hst; intro w55 henv hst
  refine tL (i := 0) 1 1 [1, 3, 4, 5] rfl (by kernel_rfl) (fun _ _ _ h => h) henv rfl ty_anvil_integer_Int rfl hst rfl rfl rfl ?_
  clear henv a; intro a henv
  refine tL (i := 2) 0 0 [3, 4, 5] rfl (by kernel_rfl) (fun _ _ _ h => h) henv rfl ty_anvil_anvilref02_Int rfl hst rfl rfl rfl ?_
  clear henv a; intro a henv
  refine sAny_one (i := 1) (by kernel_rfl) rfl rfl (op_call henv rfl Tryd.call15 rfl (text_z (z := x) (show ZIn _ A c x from hst.pat (k := 1) rfl) (by omega)) ?_)
  rintro e w56 ⟨rfl, hb⟩
  refine ⟨_, rfl, ?_⟩
  clear henv a; intro a henv
  replace hst := hst.call hb
  clear hb
  refine ⟨.inr ⟨hst.kn.pick [0, 1] [0, 1], .inr (hst.kn.pick [] [])⟩, ?_⟩
  refine sAny_one (i := 3) (by kernel_rfl) rfl rfl (op_call henv rfl Tryd.call16 rfl (text_r (z := y) (show RIn _ B d y from hst.pat (k := 0) rfl) (by omega)) ?_)
  rintro e w57 ⟨rfl, hb⟩
  refine ⟨_, rfl, ?_⟩
  clear henv a; intro a henv
  replace hst := hst.call hb
  clear hb
  refine ⟨.inr ⟨hst.kn.pick [0, 1] [0, 1], .inr (hst.kn.pick [] [])⟩, ?_⟩
  refine tA (i := 4) [5] (v := .bool (decide ((textZ x) = (textZ y)))) rfl (by kernel_rfl) (fun _ _ _ h => h) henv rfl (fun _ => rn_eqls (s := (textZ x)) (t := (textZ y)) henv rfl rfl) ?_
  clear henv a; intro a henv
  refine tA (i := 5) [] (v := .bool (decide ((textZ x) = (textZ y)))) rfl (by kernel_rfl) (fun _ _ _ h => h) henv rfl (fun _ => rn_assign henv rfl) ?_
  clear henv a; intro a henv
  refine sAny_done (by kernel_rfl) ?_ _
  refine th_n ?_
  refine wp_ret ?_
  refine leave henv (res1 Tryd.results60 (RV.tmp henv rfl)) ?_
  exact ⟨congrArg (fun b => Ending.returned (Value.bool b)) (decide_eq_decide.2 tz_iff), hst.below⟩
set_option maxRecDepth 100000 in
set_option maxHeartbeats 2000000 in
theorem eq20_func {A0 A1 : Option Addr} {n0 n1 c0 c1 : Nat} {es0 es1 : List NE} {xs ys : List Int} {w0 : World} (h0 : (pfRow fN FN 2 A0 n0 c0 es0).P w0) (hz0 : es0.map zz = xs) (h1 : (pfRow fM FM 2 A1 n1 c1 es1).P w0) (hz1 : es1.map zz = ys) (hk0 : Zk 20000 xs) (hk1 : Zk 20000 ys) :
    Calls Tryd.prog 59 #[.slice A0 n0 c0, .slice A1 n1 c1, .func (.func 60) #[] #[]] w0 fun e w' => e = .returned (.bool (decide (xs = ys))) ∧ Below w0.heap.size w0 w' := by
  have hb0 := hk0.es hz0
  have hb1 := hk1.es hz1
  refine enter Tryd.func59 rfl Tryd.ntmps59 rfl ?_
  intro a henv hst
  have hlen0 := h0.2.1
  have hlen1 := h1.2.1
  have hbig0 := Nat.le_trans h0.1.cap h0.1.big
  unfold maxLen at hbig0
  replace hst := (hst.argRow h1).argRow h0
  clear h0 h1
  refine wp_seq ?_
  refine region_seq ?_
  refine sv (v := .bool false) henv rfl (rn_assign henv rfl) ?_
  clear henv a; intro a henv
  refine wpList_nil ?_
  refine th_n ?_
  refine wp_seq ?_
  refine wp_seq ?_
  refine region_seq ?_
  revert a
  refine mA rfl rfl ?_
  refine sA (v := .int .i64 (n0 : Nat)) rfl (fun _ henv => rn_len henv Tryd.underlying32 rfl) ?_
  refine mA rfl rfl ?_
  refine sA (v := .int .i64 (n1 : Nat)) rfl (fun _ henv => rn_len henv Tryd.underlying42 rfl) ?_
  refine sA (v := .bool (((n0 : Nat) : Int) != ((n1 : Nat) : Int))) rfl (fun _ henv => rn_bin henv rfl rfl rfl) ?_
  intro a henv
  refine wpList_nil ?_
  refine th_n ?_
  refine if_split henv rfl (fun hc51 => ?_) (fun hc51 => ?_)
  · have hne : n0 ≠ n1 := by have := hc51; simp at this; omega
    refine wp_seq ?_
    refine region_seq ?_
    refine sv (v := .bool false) henv rfl (rn_assign henv rfl) ?_
    clear henv a; intro a henv
    refine wpList_nil ?_
    refine th_n ?_
    refine wp_ret ?_
    refine th_r ?_
    refine leave henv (res1 Tryd.results59 (RV.tmp henv rfl)) ?_
    first | exact ⟨by rw [decide_eq_false (eq_ne hz0 hlen0 hz1 hlen1 hne)], hst.below⟩ | exact ⟨by rw [decide_eq_false (eq_at hz0 hz1 he0 he1 hxy)], hst.below⟩
  · have hnn : n0 = n1 := by have := hc51; simp at this; omega
    refine wp_skip ?_
    refine th_n ?_
    refine wp_seq ?_
    refine wp_seq ?_
    refine region_seq ?_
    revert a
    refine mA rfl rfl ?_
    refine sA (v := .int .i64 (n0 : Nat)) rfl (fun _ henv => rn_len henv Tryd.underlying32 rfl) ?_
    refine mA rfl rfl ?_
    intro a henv
    refine wpList_nil ?_
    refine th_n ?_
    refine wp_block ?_
    refine wp_loop_ghost (fun mz a w => ∃ j : Nat, n0 - j = mz ∧ Env 32 a [(1, .slice A1 n1 c1), (2, .func (.func 60) #[] #[]), (15, .slice A0 n0 c0), (16, .int .i64 (n0 : Nat)), (17, .int .i64 (j : Nat))] ∧ St w0 w [] [pfRow fN FN 2 A0 n0 c0 es0, pfRow fM FM 2 A1 n1 c1 es1] ∧ j ≤ n0 ∧ xs.take j = ys.take j) _ ⟨0, rfl, henv.sub ⟨rfl, rfl, rfl, rfl, rfl, trivial⟩, hst.pick [] [0, 1] (by decide), (Nat.zero_le _), rfl⟩ ?_
    clear henv hst a
    rintro mz a w52 ⟨j, rfl, henv, hst, hj, he⟩
    refine wp_seq ?_
    refine region_seq ?_
    refine sv (v := .bool (decide (((j : Nat) : Int) < ((n0 : Nat) : Int)))) henv rfl (rn_bin henv rfl rfl rfl) ?_
    clear henv a; intro a henv
    refine wpList_nil ?_
    refine th_n ?_
    refine wp_seq ?_
    refine if_split henv rfl (fun hc53 => ?_) (fun hc53 => ?_)
    · have hlt : j < n0 := by have := of_decide_eq_true hc53; omega
      obtain ⟨⟨A, c, x⟩, he0⟩ : ∃ e, es0[j]? = some e := ⟨_, List.getElem?_eq_getElem (by omega)⟩
      replace hst := hst.elem (k := 0) rfl he0
      replace hst : St w0 _ [] [pfZ A c x, pfRow fN FN 2 A0 n0 c0 es0, pfRow fM FM 2 A1 n1 c1 es1] := hst
      obtain ⟨⟨C, d, y⟩, he1⟩ : ∃ e, es1[j]? = some e := ⟨_, List.getElem?_eq_getElem (by omega)⟩
      replace hst := hst.elem (k := 2) rfl he1
      replace hst : St w0 _ [] [pfR C d y, pfZ A c x, pfRow fN FN 2 A0 n0 c0 es0, pfRow fM FM 2 A1 n1 c1 es1] := hst
      have hx1 := hb0.at he0
      have hy1 := hb1.at he1
      have hdy := dl_zl y
      refine wp_skip ?_
      refine th_n ?_
      refine wp_seq ?_
      refine wp_block ?_
      refine wp_seq ?_
      refine region_seq ?_
      revert a
      refine mA rfl rfl ?_
      refine sA (v := .pointer (some ⟨ab A0, ao A0 + j * 2, none⟩)) rfl (fun _ henv => rn_idxR (i := j) henv Tryd.underlying32 (ty_anvil_integer_Int.size) rfl rfl (by omega) rfl (show (pfRow fN FN 2 A0 n0 c0 es0).P _ from (hst.pat (k := 2) rfl)).1) ?_
      refine sA (v := .agg #[.bool (neg x), .slice A (zl x) c]) rfl (fun _ henv => rn_loadE (i := j) (e := (A, c, x)) henv ty_anvil_integer_Int rfl rfl fN_len (show (pfRow fN FN 2 A0 n0 c0 es0).P _ from (hst.pat (k := 2) rfl)).1 (by omega) he0 rfl) ?_
      intro a henv
      refine seq_step rfl (op_alloc (c := #[.bool (neg 0), .slice none (zl 0) 0]) henv hst rfl zero_anvil_integer_Int zcells ?_)
      clear henv hst a; intro a w55 g54 henv hst
      refine sv (v := .int .i64 (j : Nat)) henv rfl (rn_assign henv rfl) ?_
      clear henv a; intro a henv
      refine seq_step rfl (op_store (k := 0) (c' := #[.bool (neg x), .slice A (zl x) c]) henv hst (ty_anvil_integer_Int.size) rfl rfl rfl rfl (by simp) rfl rfl ?_)
      clear henv hst a; intro a w56 henv hst
      refine wpList_nil ?_
      refine th_n ?_
      refine wp_seq ?_
      refine region_seq ?_
      revert a
      refine mA rfl rfl ?_
      refine mA rfl rfl ?_
      refine sA (v := .pointer (some ⟨ab A1, ao A1 + j * 2, none⟩)) rfl (fun _ henv => rn_idxR (i := j) henv Tryd.underlying42 (ty_anvil_anvilref02_Int.size) rfl rfl (by omega) rfl (show (pfRow fM FM 2 A1 n1 c1 es1).P _ from (hst.pat (k := 3) rfl)).1) ?_
      refine sA (v := .agg #[.bool (neg y), .slice C (dl y) d]) rfl (fun _ henv => rn_loadE (i := j) (e := (C, d, y)) henv ty_anvil_anvilref02_Int rfl rfl fM_len (show (pfRow fM FM 2 A1 n1 c1 es1).P _ from (hst.pat (k := 3) rfl)).1 (by omega) he1 rfl) ?_
      intro a henv
      refine seq_step rfl (op_alloc (c := #[.bool (neg 0), .slice none (dl 0) 0]) henv hst rfl zero_anvil_anvilref02_Int rcells ?_)
      clear henv hst a; intro a w58 g57 henv hst
      refine seq_step rfl (op_store (k := 0) (c' := #[.bool (neg y), .slice C (dl y) d]) henv hst (ty_anvil_anvilref02_Int.size) rfl rfl rfl rfl (by simp) rfl rfl ?_)
      clear henv hst a; intro a w59 henv hst
      refine wpList_nil ?_
      refine th_n ?_
      refine wp_seq ?_
      refine region_seq ?_
      revert a
      refine mA rfl rfl ?_
      refine sA (v := .agg #[.bool (neg x), .slice A (zl x) c]) rfl (fun _ henv => rn_load0 henv ty_anvil_integer_Int rfl (hst.oat (k := 1) rfl) rfl) ?_
      refine sA (v := .agg #[.bool (neg y), .slice C (dl y) d]) rfl (fun _ henv => rn_load0 henv ty_anvil_anvilref02_Int rfl (hst.oat (k := 0) rfl) rfl) ?_
      intro a henv
      refine seq_step rfl (op_callc (vs := #[.agg #[.bool (neg x), .slice A (zl x) c], .agg #[.bool (neg y), .slice C (dl y) d]]) henv rfl Tryd.call60 rfl rfl (calls_app (by simp) (is20_one (x := x) (y := y) (show ZIn _ A c x from hst.pat (k := 1) rfl) (show RIn _ C d y from hst.pat (k := 0) rfl) (by omega) (by omega))) ?_)
      rintro e w60 ⟨rfl, hb⟩
      refine ⟨_, rfl, ?_⟩
      clear henv a; intro a henv
      replace hst := hst.call hb
      clear hb
      refine sv (v := .bool (!(decide (x = y)))) henv rfl (rn_un henv rfl rfl) ?_
      clear henv a; intro a henv
      refine wpList_nil ?_
      refine th_n ?_
      refine if_split henv rfl (fun hc61 => ?_) (fun hc61 => ?_)
      · have hxy : ¬ x = y := by have := hc61; simpa using this
        refine wp_seq ?_
        refine region_seq ?_
        refine sv (v := .bool false) henv rfl (rn_assign henv rfl) ?_
        clear henv a; intro a henv
        refine wpList_nil ?_
        refine th_n ?_
        refine wp_ret ?_
        refine bl_r (th_r (th_r (bl_r (th_r ?_))))
        refine leave henv (res1 Tryd.results59 (RV.tmp henv rfl)) ?_
        first | exact ⟨by rw [decide_eq_false (eq_ne hz0 hlen0 hz1 hlen1 hne)], hst.below⟩ | exact ⟨by rw [decide_eq_false (eq_at hz0 hz1 he0 he1 hxy)], hst.below⟩
      · have hxy : x = y := by have := hc61; simpa using this
        refine wp_skip ?_
        refine bl_n (th_n ?_)
        refine region_seq ?_
        revert a
        refine sA (v := .int .i64 (j + 1 : Nat)) rfl (fun _ henv => rn_add henv rfl rfl (by rw [IntWalk.i64_in _ (by omega)]; omega)) ?_
        refine mA rfl rfl ?_
        intro a henv
        refine wpList_nil ?_
        exact th_n ⟨_, (by omega), ⟨j + 1, rfl, henv.sub ⟨rfl, rfl, rfl, rfl, rfl, trivial⟩, hst.pick [] [2, 3] (by decide), (by omega), (by rw [zts hz0 he0, zts hz1 he1, he, hxy])⟩⟩
    · have hjn : j = n0 := by have := of_decide_eq_false hc53; omega
      refine wp_exit ?_
      refine th_x (th_x (bl_x (th_n ?_)))
      refine wp_seq ?_
      refine region_seq ?_
      refine sv (v := .bool true) henv rfl (rn_assign henv rfl) ?_
      clear henv a; intro a henv
      refine wpList_nil ?_
      refine th_n ?_
      refine wp_ret ?_
      refine leave henv (res1 Tryd.results59 (RV.tmp henv rfl)) ?_
      have hall : xs = ys := eq_full hz0 hlen0 hz1 hlen1 (hnn ▸ rfl) (hjn ▸ he)
      exact ⟨by rw [decide_eq_true hall], hst.below⟩
set_option maxRecDepth 100000 in
set_option maxHeartbeats 2000000 in
theorem p20_is {A0 A1 : Option Addr} {n0 n1 c0 c1 : Nat} {es0 es1 : List NE} {xs ys : List Int} {w0 : World} (h0 : (pfRow fN FN 2 A0 n0 c0 es0).P w0) (hz0 : es0.map zz = xs) (h1 : (pfRow fM FM 2 A1 n1 c1 es1).P w0) (hz1 : es1.map zz = ys) (hk0 : Zk 20000 xs) (hk1 : Zk 20000 ys) (hnil : n0 = 0 → A0 = none) :
    Calls Tryd.prog 26 #[.slice A0 n0 c0, .slice A1 n1 c1] w0 fun e w' => e = .returned (.bool (decide (xs = ys))) ∧ Below w0.heap.size w0 w' := by
  refine enter Tryd.func26 rfl Tryd.ntmps26 rfl ?_
  intro a henv hst
  have hlen0 := h0.2.1
  have hlen1 := h1.2.1
  have hbig0 := Nat.le_trans h0.1.cap h0.1.big
  unfold maxLen at hbig0
  replace hst := (hst.argRow h1).argRow h0
  clear h0 h1
  refine wp_seq ?_
  refine region_seq ?_
  refine sv (v := .bool false) henv rfl (rn_assign henv rfl) ?_
  clear henv a; intro a henv
  refine wpList_nil ?_
  refine th_n ?_
  refine wp_seq ?_
  refine region_seq ?_
  revert a
  refine mA rfl rfl ?_
  refine mA rfl rfl ?_
  intro a henv
  refine seq_step rfl (op_call henv rfl Tryd.call59 rfl (eq20_func (hst.pat (k := 0) rfl) hz0 (hst.pat (k := 1) rfl) hz1 hk0 hk1) ?_)
  rintro e w51 ⟨rfl, hb⟩
  refine ⟨_, rfl, ?_⟩
  clear henv a; intro a henv
  replace hst := hst.call hb
  clear hb
  refine sv (v := .bool (decide (xs = ys))) henv rfl (rn_move henv rfl) ?_
  clear henv a; intro a henv
  rcases bool_em (decide (xs = ys)) with hg52 | hg52
  · rw [hg52] at henv
    revert a
    refine gA (v := .slice A0 n0 c0) rfl rfl rfl rfl (fun _ henv => rn_move henv rfl) ?_
    refine gA (v := .bool A0.isNone) rfl rfl rfl rfl (fun _ henv => rn_nilS henv Tryd.underlying32 rfl) ?_
    refine gA (v := .slice A0 n0 c0) rfl rfl rfl rfl (fun _ henv => rn_move henv rfl) ?_
    refine gA (v := .int .i64 (n0 : Nat)) rfl rfl rfl rfl (fun _ henv => rn_len henv Tryd.underlying32 rfl) ?_
    refine gA (v := .bool (((n0 : Nat) : Int) == (0 : Int))) rfl rfl rfl rfl (fun _ henv => rn_bin henv rfl rfl rfl) ?_
    refine gA (v := .bool (A0.isNone == (((n0 : Nat) : Int) == (0 : Int)))) rfl rfl rfl rfl (fun _ henv => rn_eqlb henv Tryd.underlying4 rfl rfl) ?_
    intro a henv
    rw [show (A0.isNone == (((n0 : Nat) : Int) == (0 : Int))) = true from (nil_eq hnil (row_none (hst.pat (k := 0) rfl)))] at henv
    revert a
    refine sA (v := .bool true) rfl (fun _ henv => rn_pick henv rfl rfl) ?_
    refine aA rfl rfl ?_
    intro a henv
    refine wpList_nil ?_
    refine th_n ?_
    refine wp_ret ?_
    refine leave henv (res1 Tryd.results26 (RV.tmp henv rfl)) ?_
    exact ⟨by rw [hg52], hst.below⟩
  · rw [hg52] at henv
    revert a
    refine kA rfl rfl rfl rfl rfl ?_
    refine kA rfl rfl rfl rfl rfl ?_
    refine kA rfl rfl rfl rfl rfl ?_
    refine kA rfl rfl rfl rfl rfl ?_
    refine kA rfl rfl rfl rfl rfl ?_
    refine kA rfl rfl rfl rfl rfl ?_
    refine sA (v := .bool false) rfl (fun _ henv => rn_pick henv rfl rfl) ?_
    refine aA rfl rfl ?_
    intro a henv
    refine wpList_nil ?_
    refine th_n ?_
    refine wp_ret ?_
    refine leave henv (res1 Tryd.results26 (RV.tmp henv rfl)) ?_
    exact ⟨by rw [hg52], hst.below⟩
set_option maxRecDepth 100000 in
set_option maxHeartbeats 2000000 in
theorem p_text {A0 : Option Addr} {n0 c0 : Nat} {es0 : List NE} {xs : List Int} {w0 : World} (h0 : (pfRow fN FN 2 A0 n0 c0 es0).P w0) (hz0 : es0.map zz = xs) (hk : Zk 90000 xs) (hn : n0 ≤ 1000000) :
    Calls Tryd.prog 45 #[.slice A0 n0 c0] w0 fun e w' => e = .returned (.string ⟨(textRow xs).toArray⟩) ∧ Below w0.heap.size w0 w' := by
  refine enter Tryd.func45 rfl Tryd.ntmps45 rfl ?_
  intro a henv hst
  have hlen0 := h0.2.1
  have hbig0 := Nat.le_trans h0.1.cap h0.1.big
  unfold maxLen at hbig0
  replace hst := hst.argRow h0
  clear h0
  refine wp_seq ?_
  refine region_seq ?_
  refine sv (v := .string ⟨#[]⟩) henv rfl (rn_assign henv rfl) ?_
  clear henv a; intro a henv
  refine wpList_nil ?_
  refine th_n ?_
  refine wp_seq ?_
  refine region_seq ?_
  refine sv (v := .slice A0 n0 c0) henv rfl (rn_move henv rfl) ?_
  clear henv a; intro a henv
  refine seq_step rfl (op_call henv rfl Tryd.call79 rfl (row_text' (hst.pat (k := 0) rfl) hz0 hk hn) ?_)
  rintro e w51 ⟨rfl, hb⟩
  refine ⟨_, rfl, ?_⟩
  clear henv a; intro a henv
  replace hst := hst.call hb
  clear hb
  refine sv (v := .string ⟨(textRow xs).toArray⟩) henv rfl (rn_assign henv rfl) ?_
  clear henv a; intro a henv
  refine wpList_nil ?_
  refine th_n ?_
  refine wp_ret ?_
  refine leave henv (res1 Tryd.results45 (RV.tmp henv rfl)) ?_
  exact ⟨rfl, hst.below⟩
set_option maxRecDepth 100000 in
set_option maxHeartbeats 2000000 in
theorem p_read_bad {s : List UInt8} {b : Nat} {w0 : World} (hr : Rd0 s (.inr b)) (hl : s.length < 8193) :
    Calls Tryd.prog 44 #[.string ⟨s.toArray⟩] w0 fun e w' => e = .returned (.tuple #[.slice none 0 0, .agg #[.int .i64 6, .int .i64 (b : Nat)]]) ∧ Below w0.heap.size w0 w' := by
  refine enter Tryd.func44 rfl Tryd.ntmps44 rfl ?_
  intro a henv hst
  refine wp_seq ?_
  refine region_seq ?_
  refine sv (v := .slice none 0 0) henv rfl (rn_assign henv rfl) ?_
  clear henv a; intro a henv
  refine seq_step rfl (op_alloc (c := #[.int .i64 0, .int .i64 0]) henv hst rfl zero_anvil_api_Spot rfl ?_)
  clear henv hst a; intro a w52 g51 henv hst
  refine wpList_nil ?_
  refine th_n ?_
  refine wp_seq ?_
  refine region_seq ?_
  refine sv (v := .string ⟨s.toArray⟩) henv rfl (rn_move henv rfl) ?_
  clear henv a; intro a henv
  refine seq_step rfl (op_call henv rfl Tryd.call78 rfl (row_read_bad hr hl) ?_)
  rintro e w53 ⟨rfl, hb⟩
  refine ⟨_, rfl, ?_⟩
  clear henv a; intro a henv
  replace hst := hst.call hb
  clear hb
  revert a
  refine mA rfl rfl ?_
  refine sA (v := .slice none 0 0) rfl (fun _ henv => rn_extract henv rfl rfl) ?_
  refine sA (v := .agg #[.int .i64 6, .int .i64 (b : Nat)]) rfl (fun _ henv => rn_extract henv rfl rfl) ?_
  intro a henv
  refine seq_step rfl (op_alloc (c := #[.int .i64 0, .int .i64 0]) henv hst rfl zero_anvil_api_Spot rfl ?_)
  clear henv hst a; intro a w55 g54 henv hst
  refine sv (v := .slice none 0 0) henv rfl (rn_assign henv rfl) ?_
  clear henv a; intro a henv
  refine seq_step rfl (op_store (k := 0) (c' := #[.int .i64 6, .int .i64 (b : Nat)]) henv hst (ty_anvil_api_Spot.size) rfl rfl rfl rfl (by simp) rfl rfl ?_)
  clear henv hst a; intro a w56 henv hst
  refine wpList_nil ?_
  refine th_n ?_
  refine wp_seq ?_
  refine wp_seq ?_
  refine region_seq ?_
  revert a
  refine mA rfl rfl ?_
  refine sA (v := .int .i64 0) rfl (fun _ henv => rn_len henv Tryd.underlying32 rfl) ?_
  refine sA (v := .bool true) rfl (fun _ henv => rn_bin henv rfl rfl rfl) ?_
  intro a henv
  refine wpList_nil ?_
  refine th_n ?_
  refine if_t henv rfl (rfl) ?_
  refine wp_seq ?_
  refine region_any (n := 3) (Sk [bk g54 #[.int .i64 6, .int .i64 (b : Nat)] 71] [] [2] []) mixed rfl henv hst ?_
  clear henv hst; intro w57 henv hst
  refine tL (i := 0) 0 0 [2] rfl (by kernel_rfl) (fun _ _ _ h => h) henv rfl ty_anvil_api_Spot rfl hst rfl rfl rfl ?_
  clear henv a; intro a henv
  refine tA (i := 1) [2] (v := .slice none 0 0) rfl (by kernel_rfl) (fun _ _ _ h => h) henv rfl (fun _ => rn_assign henv rfl) ?_
  clear henv a; intro a henv
  refine sAny_one (i := 2) (by kernel_rfl) rfl rfl (op_store (k := 1) (c' := #[.int .i64 6, .int .i64 (b : Nat)]) henv hst (ty_anvil_api_Spot.size) rfl rfl rfl rfl (by simp) rfl rfl ?_)
  clear henv hst a; intro a w58 henv hst
  refine ⟨.inr ⟨hst.kn.pick [0] [], .inl rfl⟩, ?_⟩
  refine sAny_done (by kernel_rfl) ?_ _
  refine th_n ?_
  refine wp_ret ?_
  refine th_r ?_
  refine leave henv (res2 Tryd.results44 (RV.tmp henv rfl) (RV.cell henv ty_anvil_api_Spot rfl (hst.oat (k := 1) rfl) rfl)) ?_
  exact ⟨rfl, hst.below⟩
set_option maxRecDepth 100000 in
set_option maxHeartbeats 2000000 in
theorem p_read_ok {s : List UInt8} {zs : List Int} {n : Nat} {w0 : World} (hr0 : Rd0 s (.inl zs)) (hn : zs.length = n) (hl : s.length < 8193) :
    Calls Tryd.prog 44 #[.string ⟨s.toArray⟩] w0 fun e w' => ∃ v, e = .returned (.tuple #[v, .agg #[.int .i64 0, .int .i64 0]]) ∧ ZRowN w0.heap.size w' v n zs ∧ Below w0.heap.size w0 w' := by
  refine enter Tryd.func44 rfl Tryd.ntmps44 rfl ?_
  intro a henv hst
  refine wp_seq ?_
  refine region_seq ?_
  refine sv (v := .slice none 0 0) henv rfl (rn_assign henv rfl) ?_
  clear henv a; intro a henv
  refine seq_step rfl (op_alloc (c := #[.int .i64 0, .int .i64 0]) henv hst rfl zero_anvil_api_Spot rfl ?_)
  clear henv hst a; intro a w52 g51 henv hst
  refine wpList_nil ?_
  refine th_n ?_
  refine wp_seq ?_
  refine region_seq ?_
  refine sv (v := .string ⟨s.toArray⟩) henv rfl (rn_move henv rfl) ?_
  clear henv a; intro a henv
  refine seq_step rfl (op_call henv rfl Tryd.call78 rfl (row_read_ok hr0 hn hl) ?_)
  rintro e w59 ⟨_, rfl, ⟨A53, c54, es55, rfl, hr, hl56, hz57⟩, hb⟩
  refine ⟨_, rfl, ?_⟩
  clear henv a; intro a henv
  replace hst := hst.freshRow hb hr (ap_N hr.2.1 ⟨nou_rowS, ⟨nou_bk rfl, trivial⟩⟩)
  clear hr
  clear hb
  revert a
  refine mA rfl rfl ?_
  refine sA (v := .slice A53 n c54) rfl (fun _ henv => rn_extract henv rfl rfl) ?_
  refine sA (v := .agg #[.int .i64 0, .int .i64 0]) rfl (fun _ henv => rn_extract henv rfl rfl) ?_
  intro a henv
  refine seq_step rfl (op_alloc (c := #[.int .i64 0, .int .i64 0]) henv hst rfl zero_anvil_api_Spot rfl ?_)
  clear henv hst a; intro a w61 g60 henv hst
  refine sv (v := .slice A53 n c54) henv rfl (rn_assign henv rfl) ?_
  clear henv a; intro a henv
  refine seq_step rfl (op_store (k := 0) (c' := #[.int .i64 0, .int .i64 0]) henv hst (ty_anvil_api_Spot.size) rfl rfl rfl rfl (by simp) rfl rfl ?_)
  clear henv hst a; intro a w62 henv hst
  refine wpList_nil ?_
  refine th_n ?_
  refine wp_seq ?_
  refine wp_seq ?_
  refine region_seq ?_
  revert a
  refine mA rfl rfl ?_
  refine sA (v := .int .i64 (n : Nat)) rfl (fun _ henv => rn_len henv Tryd.underlying32 rfl) ?_
  refine sA (v := .bool (((n : Nat) : Int) == (0 : Int))) rfl (fun _ henv => rn_bin henv rfl rfl rfl) ?_
  intro a henv
  refine wpList_nil ?_
  refine th_n ?_
  refine if_split henv rfl (fun hc63 => ?_) (fun hc63 => ?_)
  · replace hc63 := eq_of_beq hc63
    have hn0 : n = 0 := by omega
    refine wp_seq ?_
    refine region_any (n := 3) (Sk [bk g60 #[.int .i64 0, .int .i64 0] 71, rowS notU 28 2 A53 n c54 (fl fN es55)] [pfEs FN es55] [2] []) mixed rfl henv hst ?_
    clear henv hst; intro w64 henv hst
    refine tL (i := 0) 0 0 [2] rfl (by kernel_rfl) (fun _ _ _ h => h) henv rfl ty_anvil_api_Spot rfl hst rfl rfl rfl ?_
    clear henv a; intro a henv
    refine tA (i := 1) [2] (v := .slice none 0 0) rfl (by kernel_rfl) (fun _ _ _ h => h) henv rfl (fun _ => rn_assign henv rfl) ?_
    clear henv a; intro a henv
    refine sAny_one (i := 2) (by kernel_rfl) rfl rfl (op_store (k := 2) (c' := #[.int .i64 0, .int .i64 0]) henv hst (ty_anvil_api_Spot.size) rfl rfl rfl rfl (by simp) rfl rfl ?_)
    clear henv hst a; intro a w65 henv hst
    refine ⟨.inr ⟨hst.kn.pick [0, 1] [0], .inl rfl⟩, ?_⟩
    refine sAny_done (by kernel_rfl) ?_ _
    refine th_n ?_
    refine wp_ret ?_
    refine th_r ?_
    refine leave henv (res2 Tryd.results44 (RV.tmp henv rfl) (RV.cell henv ty_anvil_api_Spot rfl (hst.oat (k := 2) rfl) rfl)) ?_
    exact ⟨_, rfl, zrown_nil hn0 (List.eq_nil_of_length_eq_zero (hn.trans hn0)), hst.below⟩
  · replace hc63 := ne_of_beq_false hc63
    have hn0 : ¬ n = 0 := by omega
    refine wp_skip ?_
    refine th_n ?_
    refine wp_seq ?_
    refine region_any (n := 4) (Sk [bk g60 #[.int .i64 0, .int .i64 0] 71, rowS notU 28 2 A53 n c54 (fl fN es55)] [pfEs FN es55] [3] []) mixed rfl henv hst ?_
    clear henv hst; intro w66 henv hst
    refine tM (i := 0) [2, 3] rfl (by kernel_rfl) (fun _ _ _ h => h) henv rfl rfl ?_
    clear henv a; intro a henv
    refine tL (i := 1) 0 0 [3] rfl (by kernel_rfl) (fun _ _ _ h => h) henv rfl ty_anvil_api_Spot rfl hst rfl rfl rfl ?_
    clear henv a; intro a henv
    refine tA (i := 2) [3] (v := .slice A53 n c54) rfl (by kernel_rfl) (fun _ _ _ h => h) henv rfl (fun _ => rn_assign henv rfl) ?_
    clear henv a; intro a henv
    refine sAny_one (i := 3) (by kernel_rfl) rfl rfl (op_store (k := 2) (c' := #[.int .i64 0, .int .i64 0]) henv hst (ty_anvil_api_Spot.size) rfl rfl rfl rfl (by simp) rfl rfl ?_)
    clear henv hst a; intro a w67 henv hst
    refine ⟨.inr ⟨hst.kn.pick [0, 1] [0], .inl rfl⟩, ?_⟩
    refine sAny_done (by kernel_rfl) ?_ _
    refine th_n ?_
    refine wp_ret ?_
    refine leave henv (res2 Tryd.results44 (RV.tmp henv rfl) (RV.cell henv ty_anvil_api_Spot rfl (hst.oat (k := 2) rfl) rfl)) ?_
    exact ⟨_, rfl, ⟨_, _, _, rfl, hst.newRow (k := 1) (j := 0) rfl rfl, hl56, hz57, fun h => absurd h hn0⟩, hst.below⟩
set_option maxRecDepth 100000 in
set_option maxHeartbeats 4000000 in
theorem p20_works {w0 : World} :
    Calls Tryd.prog 10 #[] w0 fun e w' => e = .returned (.bool true) ∧ Below w0.heap.size w0 w' := by
  refine enter Tryd.func10 rfl Tryd.ntmps10 rfl ?_
  intro a henv hst
  refine wp_seq ?_
  refine region_seq ?_
  refine sv (v := .bool false) henv rfl (rn_assign henv rfl) ?_
  clear henv a; intro a henv
  refine wpList_nil ?_
  refine th_n ?_
  refine wp_seq ?_
  refine region_seq ?_
  refine seq_step rfl (op_buildSlice (z := 1) (pv := #[(0, .int .i64 1), (1, .int .i64 2)]) (c := #[.int .i64 1, .int .i64 2]) henv hst rfl Tryd.underlying22 (ty_int64.size) zero_int64 (by decide) (by decide) rfl (by kernel_rfl) ?_)
  clear henv hst a; intro a w52 g51 henv hst
  replace hst := hst.giveBk (f := fI) (F := FI) (k := 0) (n := 2) (es := [1, 2]) rfl rfl fI_len rfl (by decide) (esT_P (fun _ => rfl) _ _) (fun _ _ _ _ => esT_foot (fun _ => rfl))
  refine seq_step rfl (op_call henv rfl Tryd.call12 rfl (p20_list (es0 := [1, 2]) (hst.pat (k := 0) rfl) (by unfold I64; decide) (by omega)) ?_)
  rintro e w60 ⟨_, rfl, ⟨g53, ps54, rfl, hr, hl55, hz56⟩, hb⟩
  refine ⟨_, rfl, ?_⟩
  clear henv a; intro a henv
  replace hst := hst.freshRd hb hr hl55 (ap_N hr.2.1 trivial)
  clear hr
  obtain ⟨es57, hst, hl58, hz59⟩ := hst.listRow (k := 0) (n := 2) rfl hz56 (rfl)
  clear hb
  refine seq_step rfl (op_buildSlice (z := 1) (pv := #[(0, .int .i64 3), (1, .int .i64 4), (2, .int .i64 5)]) (c := #[.int .i64 3, .int .i64 4, .int .i64 5]) henv hst rfl Tryd.underlying22 (ty_int64.size) zero_int64 (by decide) (by decide) rfl (by kernel_rfl) ?_)
  clear henv hst a; intro a w62 g61 henv hst
  replace hst := hst.giveBk (f := fI) (F := FI) (k := 0) (n := 3) (es := [3, 4, 5]) rfl rfl fI_len rfl (by decide) (esT_P (fun _ => rfl) _ _) (fun _ _ _ _ => esT_foot (fun _ => rfl))
  refine seq_step rfl (op_call henv rfl Tryd.call12 rfl (p20_list (es0 := [3, 4, 5]) (hst.pat (k := 0) rfl) (by unfold I64; decide) (by omega)) ?_)
  rintro e w70 ⟨_, rfl, ⟨g63, ps64, rfl, hr, hl65, hz66⟩, hb⟩
  refine ⟨_, rfl, ?_⟩
  clear henv a; intro a henv
  replace hst := hst.freshRd hb hr hl65 (ap_N hr.2.1 trivial)
  clear hr
  obtain ⟨es67, hst, hl68, hz69⟩ := hst.listRow (k := 0) (n := 3) rfl hz66 (rfl)
  clear hb
  refine seq_step rfl (op_call henv rfl Tryd.call24 rfl (p_mul (xs := [1, 2]) (ys := [3, 4, 5]) (hst.pat (k := 4) rfl) hz59 (hst.pat (k := 0) rfl) hz69 (zk_small (by decide)) (zk_small (by decide)) (by decide) (by decide) (by decide) (by decide)) ?_)
  rintro e w76 ⟨_, rfl, ⟨A71, c72, es73, rfl, hr, hl74, hz75⟩, hb⟩
  refine ⟨_, rfl, ?_⟩
  clear henv a; intro a henv
  replace hst := hst.freshRd hb hr hl74 (ap_N hr.2.1 trivial)
  clear hr
  clear hb
  revert a
  refine mA rfl rfl ?_
  refine sA (v := .slice A71 4 c72) rfl (fun _ henv => rn_extract henv rfl rfl) ?_
  refine sA (v := .int .i64 6) rfl (fun _ henv => rn_extract henv rfl rfl) ?_
  refine aA rfl rfl ?_
  refine aA rfl rfl ?_
  intro a henv
  refine wpList_nil ?_
  refine th_n ?_
  refine wp_seq ?_
  refine region_seq ?_
  revert a
  refine mA rfl rfl ?_
  refine sA (v := .bool true) rfl (fun _ henv => rn_bin henv rfl rfl rfl) ?_
  refine mA rfl rfl ?_
  refine gA (v := .slice A71 4 c72) rfl rfl rfl rfl (fun _ henv => rn_move henv rfl) ?_
  intro a henv
  refine seq_g rfl henv rfl rfl (op_buildSlice (z := 1) (pv := #[(0, .int .i64 3), (1, .int .i64 10), (2, .int .i64 13), (3, .int .i64 10)]) (c := #[.int .i64 3, .int .i64 10, .int .i64 13, .int .i64 10]) henv hst rfl Tryd.underlying22 (ty_int64.size) zero_int64 (by decide) (by decide) rfl (by kernel_rfl) ?_)
  clear henv hst a; intro a w78 g77 henv hst
  replace hst := hst.giveBk (f := fI) (F := FI) (k := 0) (n := 4) (es := [3, 10, 13, 10]) rfl rfl fI_len rfl (by decide) (esT_P (fun _ => rfl) _ _) (fun _ _ _ _ => esT_foot (fun _ => rfl))
  refine seq_g rfl henv rfl rfl (op_call henv rfl Tryd.call18 rfl (p20_ref (es0 := [3, 10, 13, 10]) (hst.pat (k := 0) rfl) (by unfold I64; decide) (by omega)) ?_)
  rintro e w85 ⟨_, rfl, ⟨A79, c80, es81, rfl, hr, hl82, hz83, hn84⟩, hb⟩
  refine ⟨_, rfl, ?_⟩
  clear henv a; intro a henv
  replace hst := hst.freshRd hb hr hl82 (ap_M hr.2.1 trivial)
  clear hr
  clear hb
  refine seq_g rfl henv rfl rfl (op_call henv rfl Tryd.call26 rfl (p20_is (xs := [3, 10, 13, 10]) (ys := [3, 10, 13, 10]) (hst.pat (k := 3) rfl) (hz75.trans (show _ = [3, 10, 13, 10] by decide)) (hst.pat (k := 0) rfl) hz83 (zk_small (by decide)) (zk_small (by decide)) (fun h => absurd h (by decide))) ?_)
  rintro e w86 ⟨rfl, hb⟩
  refine ⟨_, rfl, ?_⟩
  clear henv a; intro a henv
  replace hst := hst.call hb
  clear hb
  rw [show (decide (([3, 10, 13, 10] : List Int) = [3, 10, 13, 10])) = true from (decide_eq_true rfl)] at henv
  revert a
  refine sA (v := .bool true) rfl (fun _ henv => rn_pick henv rfl rfl) ?_
  refine mA rfl rfl ?_
  refine gA (v := .slice A71 4 c72) rfl rfl rfl rfl (fun _ henv => rn_move henv rfl) ?_
  intro a henv
  refine seq_g rfl henv rfl rfl (op_call henv rfl Tryd.call45 rfl (p_text (xs := [3, 10, 13, 10]) (hst.pat (k := 3) rfl) (hz75.trans (show _ = [3, 10, 13, 10] by decide)) (zk_small (by decide)) (by omega)) ?_)
  rintro e w87 ⟨rfl, hb⟩
  refine ⟨_, rfl, ?_⟩
  clear henv a; intro a henv
  replace hst := hst.call hb
  clear hb
  refine seq_g rfl henv rfl rfl (op_val (v := .bool (decide ((textRow ([3, 10, 13, 10])) = [91, 51, 32, 49, 48, 32, 49, 51, 32, 49, 48, 93]))) henv rfl (rn_eqls (s := (textRow ([3, 10, 13, 10]))) (t := [91, 51, 32, 49, 48, 32, 49, 51, 32, 49, 48, 93]) henv rfl rfl) ?_)
  clear henv a; intro a henv
  rw [show (decide ((textRow ([3, 10, 13, 10])) = [91, 51, 32, 49, 48, 32, 49, 51, 32, 49, 48, 93])) = true from (decide_eq_true (by decide +kernel))] at henv
  revert a
  refine sA (v := .bool true) rfl (fun _ henv => rn_pick henv rfl rfl) ?_
  refine mA rfl rfl ?_
  refine gA (v := .slice A71 4 c72) rfl rfl rfl rfl (fun _ henv => rn_move henv rfl) ?_
  intro a henv
  refine seq_g rfl henv rfl rfl (op_call henv rfl Tryd.call23 rfl (p_deg (xs := [3, 10, 13, 10]) (hst.pat (k := 3) rfl) (hz75.trans (show _ = [3, 10, 13, 10] by decide)) (by omega)) ?_)
  rintro e w88 ⟨rfl, hb⟩
  refine ⟨_, rfl, ?_⟩
  clear henv a; intro a henv
  replace hst := hst.call hb
  clear hb
  revert a
  refine gA (v := .bool true) rfl rfl rfl rfl (fun _ henv => rn_bin henv rfl rfl rfl) ?_
  refine sA (v := .bool true) rfl (fun _ henv => rn_pick henv rfl rfl) ?_
  refine aA rfl rfl ?_
  intro a henv
  refine wpList_nil ?_
  refine th_n ?_
  refine wp_ret ?_
  refine leave henv (res1 Tryd.results10 (RV.tmp henv rfl)) ?_
  exact ⟨rfl, hst.below⟩
end Go.Proofs.YtghaenkacjgdnaaDoor.W

/- PolyTexts, PolyBack: the laws' walks. Printed by pv/gen_po2.py. No condition. -/
namespace Go.Proofs.YtghaenkacjgdnaaDoor.W
open Go.RowKit Anv Go.Lib
end Go.Proofs.YtghaenkacjgdnaaDoor.W

/- point.In, poly.At, the reference's; PolyAts. Printed by pv/gen_po3.py. No condition. -/
namespace Go.Proofs.YtghaenkacjgdnaaDoor.W
open Go.RowKit Anv Go.Lib
theorem zl_16 {b : Int} (h : I16 b) : zl b ≤ 1 := nl_le_of_lt (by unfold I16 at h; show b.natAbs < _; omega)
theorem zl_p16 {b : Int} (h : I16 b) (n : Nat) : zl (b ^ n) ≤ n + 1 := by
  have h1 := zl_pow b n
  have h2 := Nat.mul_le_mul_left n (zl_16 h)
  omega
theorem hval_sz {a b : Int} {k : Nat} (ha : I16 a) (hb : I16 b) : ∀ {xs : List Int}, Zk k xs → zl (hval a b xs) ≤ k + 2 + 3 * xs.length
  | [], _ => by rw [hval, zl_zero]; omega
  | x :: xs, h => by
    have h1 := hval_sz ha hb (xs := xs) fun z hz => h z (List.mem_cons_of_mem _ hz)
    have h2 := zl_addm (hval a b xs * a) (x * b ^ xs.length)
    have h3 := zl_mul (hval a b xs) a
    have h4 := zl_mul x (b ^ xs.length)
    have h5 := zl_16 ha
    have h6 := zl_p16 hb xs.length
    have h7 := h x (List.mem_cons_self ..)
    rw [hval, List.length_cons]
    omega
theorem Zk.drop {k : Nat} {zs : List Int} (h : Zk k zs) (j : Nat) : Zk k (zs.drop j) := fun z hz => h z (List.mem_of_mem_drop hz)
theorem hval_last {a b : Int} {xs : List Int} {x : Int} (h : xs[xs.length - 1]? = some x) : hval a b (xs.drop (xs.length - 1)) = x := by
  have h1 : xs.length - 1 < xs.length := (List.getElem?_eq_some_iff.1 h).1
  rw [hv_drop a b h, List.drop_eq_nil_of_le (by omega), hval, Int.zero_mul, Nat.sub_self, Int.pow_zero, Int.mul_one, Int.zero_add]
theorem hval_step {a b v p x : Int} {xs : List Int} {n j : Nat} (hv : v = hval a b (xs.drop (j + 1))) (hp : p = b ^ (n - 1 - (j + 1))) (hl : xs.length = n) (hx : xs[j]? = some x) (hj : j + 1 ≤ n - 1) : v * a + x * (p * b) = hval a b (xs.drop j) := by
  rw [hv_drop a b hx, ← hv, hp, ← Int.pow_succ, hl, show (n - 1 - (j + 1)).succ = n - 1 - j by omega]
set_option maxRecDepth 100000 in
set_option maxHeartbeats 2000000 in
theorem pt_within {n : Int} {w0 : World} :
    Calls Tryd.prog 73 #[.int .i64 n] w0 fun e w' => e = .returned (.bool (decide (I16 n))) ∧ Below w0.heap.size w0 w' := by
  refine enter Tryd.func73 rfl Tryd.ntmps73 rfl ?_
  intro a henv hst
  refine wp_seq ?_
  refine region_seq ?_
  refine sv (v := .bool false) henv rfl (rn_assign henv rfl) ?_
  clear henv a; intro a henv
  refine wpList_nil ?_
  refine th_n ?_
  refine wp_seq ?_
  refine region_seq ?_
  revert a
  refine mA rfl rfl ?_
  refine sA (v := .bool (decide (n ≥ (-16)))) rfl (fun _ henv => rn_bin henv rfl rfl rfl) ?_
  refine mA rfl rfl ?_
  intro a henv
  rcases bool_em (decide (n ≥ (-16))) with hg51 | hg51
  · rw [hg51] at henv
    have hx52 := of_decide_eq_true hg51
    revert a
    refine gA (v := .int .i64 n) rfl rfl rfl rfl (fun _ henv => rn_move henv rfl) ?_
    refine gA (v := .bool (decide (n ≤ (16 : Int)))) rfl rfl rfl rfl (fun _ henv => rn_bin henv rfl rfl rfl) ?_
    refine sA (v := .bool (decide (n ≤ (16 : Int)))) rfl (fun _ henv => rn_pick henv rfl rfl) ?_
    refine aA rfl rfl ?_
    intro a henv
    refine wpList_nil ?_
    refine th_n ?_
    refine wp_ret ?_
    refine leave henv (res1 Tryd.results73 (RV.tmp henv rfl)) ?_
    exact ⟨congrArg (fun b => Ending.returned (Value.bool b)) (decide_eq_decide.2 (by unfold I16 at *; omega)), hst.below⟩
  · rw [hg51] at henv
    have hx53 := of_decide_eq_false hg51
    revert a
    refine kA rfl rfl rfl rfl rfl ?_
    refine kA rfl rfl rfl rfl rfl ?_
    refine sA (v := .bool false) rfl (fun _ henv => rn_pick henv rfl rfl) ?_
    refine aA rfl rfl ?_
    intro a henv
    refine wpList_nil ?_
    refine th_n ?_
    refine wp_ret ?_
    refine leave henv (res1 Tryd.results73 (RV.tmp henv rfl)) ?_
    exact ⟨by rw [decide_eq_false fun h => by unfold I16 at *; omega], hst.below⟩
set_option maxRecDepth 100000 in
set_option maxHeartbeats 2000000 in
theorem pt_in {pa pb : Int} {w0 : World} :
    Calls Tryd.prog 40 #[.agg #[.int .i64 pa, .int .i64 pb]] w0 fun e w' => e = .returned (.bool (decide (I16 pa ∧ I16 pb))) ∧ Below w0.heap.size w0 w' := by
  refine enter Tryd.func40 rfl Tryd.ntmps40 rfl ?_
  intro a henv hst
  refine wp_seq ?_
  refine region_seq ?_
  refine seq_step rfl (op_box (c := #[.int .i64 pa, .int .i64 pb]) henv hst rfl rfl rfl ?_)
  clear henv hst a; intro a w52 g51 henv hst
  refine sv (v := .bool false) henv rfl (rn_assign henv rfl) ?_
  clear henv a; intro a henv
  refine wpList_nil ?_
  refine th_n ?_
  refine wp_seq ?_
  refine region_seq ?_
  revert a
  refine sA (v := .pointer (some ⟨g51, 0, none⟩)) rfl (fun _ henv => rn_fieldAddr henv fd_anvil_api_Point_0 (ty_int.size) (by decide) rfl) ?_
  refine sA (v := .int .i64 pa) rfl (fun _ henv => rn_load1 henv ty_int rfl (hst.oat (k := 0) rfl) rfl) ?_
  intro a henv
  refine seq_step rfl (op_call henv rfl Tryd.call73 rfl (pt_within (n := pa)) ?_)
  rintro e w53 ⟨rfl, hb⟩
  refine ⟨_, rfl, ?_⟩
  clear henv a; intro a henv
  replace hst := hst.call hb
  clear hb
  refine sv (v := .bool (decide (I16 pa))) henv rfl (rn_move henv rfl) ?_
  clear henv a; intro a henv
  rcases bool_em (decide (I16 pa)) with hg54 | hg54
  · rw [hg54] at henv
    have hx55 := of_decide_eq_true hg54
    revert a
    refine gA (v := .pointer (some ⟨g51, 1, none⟩)) rfl rfl rfl rfl (fun _ henv => rn_fieldAddr henv fd_anvil_api_Point_1 (ty_int.size) (by decide) rfl) ?_
    refine gA (v := .int .i64 pb) rfl rfl rfl rfl (fun _ henv => rn_load1 henv ty_int rfl (hst.oat (k := 0) rfl) rfl) ?_
    intro a henv
    refine seq_g rfl henv rfl rfl (op_call henv rfl Tryd.call73 rfl (pt_within (n := pb)) ?_)
    rintro e w56 ⟨rfl, hb⟩
    refine ⟨_, rfl, ?_⟩
    clear henv a; intro a henv
    replace hst := hst.call hb
    clear hb
    revert a
    refine sA (v := .bool (decide (I16 pb))) rfl (fun _ henv => rn_pick henv rfl rfl) ?_
    refine aA rfl rfl ?_
    intro a henv
    refine wpList_nil ?_
    refine th_n ?_
    refine wp_ret ?_
    refine leave henv (res1 Tryd.results40 (RV.tmp henv rfl)) ?_
    exact ⟨congrArg (fun b => Ending.returned (Value.bool b)) (decide_eq_decide.2 (by unfold I16 at *; omega)), hst.below⟩
  · rw [hg54] at henv
    have hx57 := of_decide_eq_false hg54
    revert a
    refine kA rfl rfl rfl rfl rfl ?_
    refine kA rfl rfl rfl rfl rfl ?_
    refine kA rfl rfl rfl rfl rfl ?_
    refine sA (v := .bool false) rfl (fun _ henv => rn_pick henv rfl rfl) ?_
    refine aA rfl rfl ?_
    intro a henv
    refine wpList_nil ?_
    refine th_n ?_
    refine wp_ret ?_
    refine leave henv (res1 Tryd.results40 (RV.tmp henv rfl)) ?_
    exact ⟨by rw [decide_eq_false fun h => by unfold I16 at *; omega], hst.below⟩
set_option maxRecDepth 100000 in
set_option maxHeartbeats 4000000 in
theorem p_at {A0 : Option Addr} {n0 c0 : Nat} {es0 : List NE} {xs : List Int} {pa pb : Int} {w0 : World} (h0 : (pfRow fN FN 2 A0 n0 c0 es0).P w0) (hz0 : es0.map zz = xs) (hp : 0 < n0) (hI : I16 pa ∧ I16 pb) (hk : Zk 1000 xs) (hn : n0 ≤ 200) :
    Calls Tryd.prog 11 #[.slice A0 n0 c0, .agg #[.int .i64 pa, .int .i64 pb]] w0 fun e w' => ∃ v, e = .returned (.tuple #[v, .int .i64 0]) ∧ ZAt w' v (hval pa pb xs) ∧ Below w0.heap.size w0 w' := by
  have ha16 : -16 ≤ pa ∧ pa ≤ 16 := hI.1
  have hb16 : -16 ≤ pb ∧ pb ≤ 16 := hI.2
  refine enter Tryd.func11 rfl Tryd.ntmps11 rfl ?_
  intro a henv hst
  have hlen0 := h0.2.1
  have hbig0 := Nat.le_trans h0.1.cap h0.1.big
  unfold maxLen at hbig0
  replace hst := hst.argRow h0
  clear h0
  have hlx : xs.length = n0 := by rw [← hz0, List.length_map]; exact hlen0
  refine wp_seq ?_
  refine region_seq ?_
  refine seq_step rfl (op_box (c := #[.int .i64 pa, .int .i64 pb]) henv hst rfl rfl rfl ?_)
  clear henv hst a; intro a w52 g51 henv hst
  refine seq_step rfl (op_alloc (c := #[.bool (neg 0), .slice none (zl 0) 0]) henv hst rfl zero_anvil_integer_Int zcells ?_)
  clear henv hst a; intro a w54 g53 henv hst
  refine sv (v := .int .i64 0) henv rfl (rn_assign henv rfl) ?_
  clear henv a; intro a henv
  refine wpList_nil ?_
  refine th_n ?_
  refine wp_seq ?_
  refine wp_seq ?_
  refine region_seq ?_
  revert a
  refine mA rfl rfl ?_
  refine sA (v := .int .i64 (n0 : Nat)) rfl (fun _ henv => rn_len henv Tryd.underlying32 rfl) ?_
  refine sA (v := .bool (((n0 : Nat) : Int) == (0 : Int))) rfl (fun _ henv => rn_bin henv rfl rfl rfl) ?_
  intro a henv
  rw [show (((n0 : Nat) : Int) == (0 : Int)) = false from (beq_eq_false_iff_ne.2 (by omega))] at henv
  revert a
  refine mA rfl rfl ?_
  refine gA (v := .agg #[.int .i64 pa, .int .i64 pb]) rfl rfl rfl rfl (fun _ henv => rn_load0 henv ty_anvil_api_Point rfl (hst.oat (k := 1) rfl) rfl) ?_
  intro a henv
  refine seq_g rfl henv rfl rfl (op_call henv rfl Tryd.call40 rfl (pt_in (pa := pa) (pb := pb)) ?_)
  rintro e w55 ⟨rfl, hb⟩
  refine ⟨_, rfl, ?_⟩
  clear henv a; intro a henv
  replace hst := hst.call hb
  clear hb
  rw [show (decide (I16 pa ∧ I16 pb)) = true from (decide_eq_true hI)] at henv
  revert a
  refine gA (v := .bool false) rfl rfl rfl rfl (fun _ henv => rn_un henv rfl rfl) ?_
  refine sA (v := .bool false) rfl (fun _ henv => rn_pick henv rfl rfl) ?_
  intro a henv
  refine wpList_nil ?_
  obtain ⟨⟨Al, cl, xl⟩, hel⟩ : ∃ e, es0[n0 - 1]? = some e := ⟨_, List.getElem?_eq_getElem (by omega)⟩
  replace hst := hst.elem (k := 0) rfl hel
  replace hst : St w0 _ [bk g53 #[.bool (neg 0), .slice none (zl 0) 0] 28, bk g51 #[.int .i64 pa, .int .i64 pb] 24] [pfZ Al cl xl, pfRow fN FN 2 A0 n0 c0 es0] := hst
  have hxl : xs[xs.length - 1]? = some xl := by rw [hlx, ← hz0, List.getElem?_map, hel]; rfl
  refine th_n ?_
  refine if_f henv rfl (rfl) ?_
  refine wp_skip ?_
  refine th_n ?_
  refine wp_seq ?_
  refine cut (fun a w => ∃ A57 : Option Addr, ∃ c58 : Nat, ∃ g61 : Nat, ∃ g63 : Nat, Env 48 a [(0, .slice A0 n0 c0), (1, .agg #[.int .i64 pa, .int .i64 pb]), (3, .pointer (some ⟨g51, 0, none⟩)), (4, .pointer (some ⟨g53, 0, none⟩)), (5, .int .i64 0), (9, .slice A0 n0 c0), (10, .int .i64 (n0 : Nat)), (11, .bool false), (12, .bool false), (13, .agg #[.int .i64 pa, .int .i64 pb]), (14, .bool true), (15, .bool false), (16, .bool false), (6, .pointer (some ⟨g61, 0, none⟩)), (7, .pointer (some ⟨g63, 0, none⟩))] ∧ St w0 w [bk g63 #[.bool (neg 1), .slice A57 (zl 1) c58] 28, bk g61 #[.bool (neg xl), .slice Al (zl xl) cl] 28, bk g53 #[.bool (neg 0), .slice none (zl 0) 0] 28, bk g51 #[.int .i64 pa, .int .i64 pb] 24] [pfZ A57 c58 1, pfZ Al cl xl, pfRow fN FN 2 A0 n0 c0 es0]) ?_ ?_
  · refine region_any (n := 11) (Sk [bk g53 #[.bool (neg 0), .slice none (zl 0) 0] 28, bk g51 #[.int .i64 pa, .int .i64 pb] 24] [pfZ Al cl xl, pfRow fN FN 2 A0 n0 c0 es0] [9, 10] []) mixed rfl henv hst ?_
    clear henv hst; intro w56 henv hst
    refine tM (i := 0) [4, 5, 9, 10] rfl (by kernel_rfl) (fun _ _ _ h => h) henv rfl rfl ?_
    clear henv a; intro a henv
    refine tM (i := 1) [2, 3, 4, 5, 9, 10] rfl (by kernel_rfl) (fun _ _ _ h => h) henv rfl rfl ?_
    clear henv a; intro a henv
    refine tA (i := 2) [3, 4, 5, 9, 10] (v := .int .i64 (n0 : Nat)) rfl (by kernel_rfl) (fun _ _ _ h => h) henv rfl (fun _ => rn_len henv Tryd.underlying32 rfl) ?_
    clear henv a; intro a henv
    refine tA (i := 3) [4, 5, 9, 10] (v := .int .i64 (n0 - 1 : Nat)) rfl (by kernel_rfl) (fun _ _ _ h => h) henv rfl (fun _ => rn_sub henv rfl rfl (by rw [IntWalk.i64_in _ (by omega)]; omega)) ?_
    clear henv a; intro a henv
    refine sAny_take (i := 4) [5, 9, 10] (fun w' => (pfRow fN FN 2 A0 n0 c0 es0).P w') (v := .pointer (some ⟨ab A0, ao A0 + (n0 - 1) * 2, none⟩)) rfl (by kernel_rfl) (fun _ _ _ h => h) (fun _ _ _ hS => hS.1.pat (k := 1) rfl) henv rfl (hst.pat (k := 1) rfl) (fun w' hg => rn_idxR (i := n0 - 1) henv Tryd.underlying32 (ty_anvil_integer_Int.size) rfl rfl (by omega) rfl (show (pfRow fN FN 2 A0 n0 c0 es0).P _ from hg).1) ?_
    clear henv a; intro a henv
    refine sAny_take (i := 5) [9, 10] (fun w' => (pfRow fN FN 2 A0 n0 c0 es0).P w') (v := .agg #[.bool (neg xl), .slice Al (zl xl) cl]) rfl (by kernel_rfl) (fun _ _ _ h => h) (fun _ _ _ hS => hS.1.pat (k := 1) rfl) henv rfl (hst.pat (k := 1) rfl) (fun w' hg => rn_loadE (i := n0 - 1) (e := (Al, cl, xl)) henv ty_anvil_integer_Int rfl rfl fN_len (show (pfRow fN FN 2 A0 n0 c0 es0).P _ from hg).1 (by omega) hel rfl) ?_
    clear henv a; intro a henv
    refine sAny_all (rs := [6, 7, 8]) (by kernel_rfl) (by simp) ?_
    simp only [List.forall_mem_cons, List.not_mem_nil, false_implies, implies_true, and_true]
    refine ⟨?_, ?_, ?_⟩
    · refine ⟨_, rfl, rfl, op_call henv rfl Tryd.call34 rfl (of_z (n := (1 : Int)) (by decide) (by decide)) ?_⟩
      rintro e w60 ⟨_, rfl, ⟨A57, c58, rfl, hz59⟩, hb⟩
      refine ⟨_, rfl, ?_⟩
      clear henv a; intro a henv
      replace hst := (hst.call hb).addZ hz59 ⟨nou_bk rfl, nou_bk rfl, trivial⟩
      clear hz59
      clear hb
      refine ⟨.inr ⟨hst.kn.pick [0, 1] [1, 2], .inr (hst.kn.pick [] [])⟩, ?_⟩
      refine sAny_all (rs := [7, 8]) (by kernel_rfl) (by simp) ?_
      simp only [List.forall_mem_cons, List.not_mem_nil, false_implies, implies_true, and_true]
      refine ⟨?_, ?_⟩
      · refine ⟨_, rfl, rfl, op_alloc (c := #[.bool (neg 0), .slice none (zl 0) 0]) henv hst rfl zero_anvil_integer_Int zcells ?_⟩
        clear henv hst a; intro a w62 g61 henv hst
        refine ⟨.inr ⟨hst.kn.pick [1, 2] [1, 2], .inr (hst.kn.pick [] [])⟩, ?_⟩
        refine sAny_one (i := 8) (by kernel_rfl) rfl rfl (op_alloc (c := #[.bool (neg 0), .slice none (zl 0) 0]) henv hst rfl zero_anvil_integer_Int zcells ?_)
        clear henv hst a; intro a w64 g63 henv hst
        refine ⟨.inr ⟨hst.kn.pick [2, 3] [1, 2], .inr (hst.kn.pick [] [])⟩, ?_⟩
        refine sAny_one (i := 9) (by kernel_rfl) rfl rfl (op_store (k := 1) (c' := #[.bool (neg xl), .slice Al (zl xl) cl]) henv hst (ty_anvil_integer_Int.size) rfl rfl rfl rfl (by simp) rfl rfl ?_)
        clear henv hst a; intro a w65 henv hst
        refine ⟨.inr ⟨hst.kn.pick [2, 3] [1, 2], .inl rfl⟩, ?_⟩
        refine sAny_one (i := 10) (by kernel_rfl) rfl rfl (op_store (k := 0) (c' := #[.bool (neg 1), .slice A57 (zl 1) c58]) henv hst (ty_anvil_integer_Int.size) rfl rfl rfl rfl (by simp) rfl rfl ?_)
        clear henv hst a; intro a w66 henv hst
        refine ⟨.inr ⟨hst.kn.pick [2, 3] [1, 2], .inl rfl⟩, ?_⟩
        refine sAny_done (by kernel_rfl) ?_ _
        exact th_n ⟨A57, c58, g61, g63, henv.sub ⟨rfl, rfl, rfl, rfl, rfl, rfl, rfl, rfl, rfl, rfl, rfl, rfl, rfl, rfl, rfl, trivial⟩, hst.pick [0, 1, 2, 3] [0, 1, 2] (by decide)⟩
      · refine ⟨_, rfl, rfl, op_alloc (c := #[.bool (neg 0), .slice none (zl 0) 0]) henv hst rfl zero_anvil_integer_Int zcells ?_⟩
        clear henv hst a; intro a w68 g67 henv hst
        refine ⟨.inr ⟨hst.kn.pick [1, 2] [1, 2], .inr (hst.kn.pick [] [])⟩, ?_⟩
        refine sAny_one (i := 7) (by kernel_rfl) rfl rfl (op_alloc (c := #[.bool (neg 0), .slice none (zl 0) 0]) henv hst rfl zero_anvil_integer_Int zcells ?_)
        clear henv hst a; intro a w70 g69 henv hst
        refine ⟨.inr ⟨hst.kn.pick [2, 3] [1, 2], .inr (hst.kn.pick [] [])⟩, ?_⟩
        refine sAny_one (i := 9) (by kernel_rfl) rfl rfl (op_store (k := 0) (c' := #[.bool (neg xl), .slice Al (zl xl) cl]) henv hst (ty_anvil_integer_Int.size) rfl rfl rfl rfl (by simp) rfl rfl ?_)
        clear henv hst a; intro a w71 henv hst
        refine ⟨.inr ⟨hst.kn.pick [2, 3] [1, 2], .inl rfl⟩, ?_⟩
        refine sAny_one (i := 10) (by kernel_rfl) rfl rfl (op_store (k := 1) (c' := #[.bool (neg 1), .slice A57 (zl 1) c58]) henv hst (ty_anvil_integer_Int.size) rfl rfl rfl rfl (by simp) rfl rfl ?_)
        clear henv hst a; intro a w72 henv hst
        refine ⟨.inr ⟨hst.kn.pick [2, 3] [1, 2], .inl rfl⟩, ?_⟩
        refine sAny_done (by kernel_rfl) ?_ _
        exact th_n ⟨A57, c58, g69, g67, henv.sub ⟨rfl, rfl, rfl, rfl, rfl, rfl, rfl, rfl, rfl, rfl, rfl, rfl, rfl, rfl, rfl, trivial⟩, hst.pick [1, 0, 2, 3] [0, 1, 2] (by decide)⟩
    · refine ⟨_, rfl, rfl, op_alloc (c := #[.bool (neg 0), .slice none (zl 0) 0]) henv hst rfl zero_anvil_integer_Int zcells ?_⟩
      clear henv hst a; intro a w74 g73 henv hst
      refine ⟨.inr ⟨hst.kn.pick [1, 2] [0, 1], .inr (hst.kn.pick [] [])⟩, ?_⟩
      refine sAny_all (rs := [6, 8]) (by kernel_rfl) (by simp) ?_
      simp only [List.forall_mem_cons, List.not_mem_nil, false_implies, implies_true, and_true]
      refine ⟨?_, ?_⟩
      · refine ⟨_, rfl, rfl, op_call henv rfl Tryd.call34 rfl (of_z (n := (1 : Int)) (by decide) (by decide)) ?_⟩
        rintro e w78 ⟨_, rfl, ⟨A75, c76, rfl, hz77⟩, hb⟩
        refine ⟨_, rfl, ?_⟩
        clear henv a; intro a henv
        replace hst := (hst.call hb).addZ hz77 ⟨nou_bk rfl, nou_bk rfl, nou_bk rfl, trivial⟩
        clear hz77
        clear hb
        refine ⟨.inr ⟨hst.kn.pick [1, 2] [1, 2], .inr (hst.kn.pick [] [])⟩, ?_⟩
        refine sAny_one (i := 8) (by kernel_rfl) rfl rfl (op_alloc (c := #[.bool (neg 0), .slice none (zl 0) 0]) henv hst rfl zero_anvil_integer_Int zcells ?_)
        clear henv hst a; intro a w80 g79 henv hst
        refine ⟨.inr ⟨hst.kn.pick [2, 3] [1, 2], .inr (hst.kn.pick [] [])⟩, ?_⟩
        refine sAny_one (i := 9) (by kernel_rfl) rfl rfl (op_store (k := 1) (c' := #[.bool (neg xl), .slice Al (zl xl) cl]) henv hst (ty_anvil_integer_Int.size) rfl rfl rfl rfl (by simp) rfl rfl ?_)
        clear henv hst a; intro a w81 henv hst
        refine ⟨.inr ⟨hst.kn.pick [2, 3] [1, 2], .inl rfl⟩, ?_⟩
        refine sAny_one (i := 10) (by kernel_rfl) rfl rfl (op_store (k := 0) (c' := #[.bool (neg 1), .slice A75 (zl 1) c76]) henv hst (ty_anvil_integer_Int.size) rfl rfl rfl rfl (by simp) rfl rfl ?_)
        clear henv hst a; intro a w82 henv hst
        refine ⟨.inr ⟨hst.kn.pick [2, 3] [1, 2], .inl rfl⟩, ?_⟩
        refine sAny_done (by kernel_rfl) ?_ _
        exact th_n ⟨A75, c76, g73, g79, henv.sub ⟨rfl, rfl, rfl, rfl, rfl, rfl, rfl, rfl, rfl, rfl, rfl, rfl, rfl, rfl, rfl, trivial⟩, hst.pick [0, 1, 2, 3] [0, 1, 2] (by decide)⟩
      · refine ⟨_, rfl, rfl, op_alloc (c := #[.bool (neg 0), .slice none (zl 0) 0]) henv hst rfl zero_anvil_integer_Int zcells ?_⟩
        clear henv hst a; intro a w84 g83 henv hst
        refine ⟨.inr ⟨hst.kn.pick [2, 3] [0, 1], .inr (hst.kn.pick [] [])⟩, ?_⟩
        refine sAny_one (i := 6) (by kernel_rfl) rfl rfl (op_call henv rfl Tryd.call34 rfl (of_z (n := (1 : Int)) (by decide) (by decide)) ?_)
        rintro e w88 ⟨_, rfl, ⟨A85, c86, rfl, hz87⟩, hb⟩
        refine ⟨_, rfl, ?_⟩
        clear henv a; intro a henv
        replace hst := (hst.call hb).addZ hz87 ⟨nou_bk rfl, nou_bk rfl, nou_bk rfl, nou_bk rfl, trivial⟩
        clear hz87
        clear hb
        refine ⟨.inr ⟨hst.kn.pick [2, 3] [1, 2], .inr (hst.kn.pick [] [])⟩, ?_⟩
        refine sAny_one (i := 9) (by kernel_rfl) rfl rfl (op_store (k := 1) (c' := #[.bool (neg xl), .slice Al (zl xl) cl]) henv hst (ty_anvil_integer_Int.size) rfl rfl rfl rfl (by simp) rfl rfl ?_)
        clear henv hst a; intro a w89 henv hst
        refine ⟨.inr ⟨hst.kn.pick [2, 3] [1, 2], .inl rfl⟩, ?_⟩
        refine sAny_one (i := 10) (by kernel_rfl) rfl rfl (op_store (k := 0) (c' := #[.bool (neg 1), .slice A85 (zl 1) c86]) henv hst (ty_anvil_integer_Int.size) rfl rfl rfl rfl (by simp) rfl rfl ?_)
        clear henv hst a; intro a w90 henv hst
        refine ⟨.inr ⟨hst.kn.pick [2, 3] [1, 2], .inl rfl⟩, ?_⟩
        refine sAny_done (by kernel_rfl) ?_ _
        exact th_n ⟨A85, c86, g73, g83, henv.sub ⟨rfl, rfl, rfl, rfl, rfl, rfl, rfl, rfl, rfl, rfl, rfl, rfl, rfl, rfl, rfl, trivial⟩, hst.pick [0, 1, 2, 3] [0, 1, 2] (by decide)⟩
    · refine ⟨_, rfl, rfl, op_alloc (c := #[.bool (neg 0), .slice none (zl 0) 0]) henv hst rfl zero_anvil_integer_Int zcells ?_⟩
      clear henv hst a; intro a w92 g91 henv hst
      refine ⟨.inr ⟨hst.kn.pick [1, 2] [0, 1], .inr (hst.kn.pick [] [])⟩, ?_⟩
      refine sAny_all (rs := [6, 7]) (by kernel_rfl) (by simp) ?_
      simp only [List.forall_mem_cons, List.not_mem_nil, false_implies, implies_true, and_true]
      refine ⟨?_, ?_⟩
      · refine ⟨_, rfl, rfl, op_call henv rfl Tryd.call34 rfl (of_z (n := (1 : Int)) (by decide) (by decide)) ?_⟩
        rintro e w96 ⟨_, rfl, ⟨A93, c94, rfl, hz95⟩, hb⟩
        refine ⟨_, rfl, ?_⟩
        clear henv a; intro a henv
        replace hst := (hst.call hb).addZ hz95 ⟨nou_bk rfl, nou_bk rfl, nou_bk rfl, trivial⟩
        clear hz95
        clear hb
        refine ⟨.inr ⟨hst.kn.pick [1, 2] [1, 2], .inr (hst.kn.pick [] [])⟩, ?_⟩
        refine sAny_one (i := 7) (by kernel_rfl) rfl rfl (op_alloc (c := #[.bool (neg 0), .slice none (zl 0) 0]) henv hst rfl zero_anvil_integer_Int zcells ?_)
        clear henv hst a; intro a w98 g97 henv hst
        refine ⟨.inr ⟨hst.kn.pick [2, 3] [1, 2], .inr (hst.kn.pick [] [])⟩, ?_⟩
        refine sAny_one (i := 9) (by kernel_rfl) rfl rfl (op_store (k := 0) (c' := #[.bool (neg xl), .slice Al (zl xl) cl]) henv hst (ty_anvil_integer_Int.size) rfl rfl rfl rfl (by simp) rfl rfl ?_)
        clear henv hst a; intro a w99 henv hst
        refine ⟨.inr ⟨hst.kn.pick [2, 3] [1, 2], .inl rfl⟩, ?_⟩
        refine sAny_one (i := 10) (by kernel_rfl) rfl rfl (op_store (k := 1) (c' := #[.bool (neg 1), .slice A93 (zl 1) c94]) henv hst (ty_anvil_integer_Int.size) rfl rfl rfl rfl (by simp) rfl rfl ?_)
        clear henv hst a; intro a w100 henv hst
        refine ⟨.inr ⟨hst.kn.pick [2, 3] [1, 2], .inl rfl⟩, ?_⟩
        refine sAny_done (by kernel_rfl) ?_ _
        exact th_n ⟨A93, c94, g97, g91, henv.sub ⟨rfl, rfl, rfl, rfl, rfl, rfl, rfl, rfl, rfl, rfl, rfl, rfl, rfl, rfl, rfl, trivial⟩, hst.pick [1, 0, 2, 3] [0, 1, 2] (by decide)⟩
      · refine ⟨_, rfl, rfl, op_alloc (c := #[.bool (neg 0), .slice none (zl 0) 0]) henv hst rfl zero_anvil_integer_Int zcells ?_⟩
        clear henv hst a; intro a w102 g101 henv hst
        refine ⟨.inr ⟨hst.kn.pick [2, 3] [0, 1], .inr (hst.kn.pick [] [])⟩, ?_⟩
        refine sAny_one (i := 6) (by kernel_rfl) rfl rfl (op_call henv rfl Tryd.call34 rfl (of_z (n := (1 : Int)) (by decide) (by decide)) ?_)
        rintro e w106 ⟨_, rfl, ⟨A103, c104, rfl, hz105⟩, hb⟩
        refine ⟨_, rfl, ?_⟩
        clear henv a; intro a henv
        replace hst := (hst.call hb).addZ hz105 ⟨nou_bk rfl, nou_bk rfl, nou_bk rfl, nou_bk rfl, trivial⟩
        clear hz105
        clear hb
        refine ⟨.inr ⟨hst.kn.pick [2, 3] [1, 2], .inr (hst.kn.pick [] [])⟩, ?_⟩
        refine sAny_one (i := 9) (by kernel_rfl) rfl rfl (op_store (k := 0) (c' := #[.bool (neg xl), .slice Al (zl xl) cl]) henv hst (ty_anvil_integer_Int.size) rfl rfl rfl rfl (by simp) rfl rfl ?_)
        clear henv hst a; intro a w107 henv hst
        refine ⟨.inr ⟨hst.kn.pick [2, 3] [1, 2], .inl rfl⟩, ?_⟩
        refine sAny_one (i := 10) (by kernel_rfl) rfl rfl (op_store (k := 1) (c' := #[.bool (neg 1), .slice A103 (zl 1) c104]) henv hst (ty_anvil_integer_Int.size) rfl rfl rfl rfl (by simp) rfl rfl ?_)
        clear henv hst a; intro a w108 henv hst
        refine ⟨.inr ⟨hst.kn.pick [2, 3] [1, 2], .inl rfl⟩, ?_⟩
        refine sAny_done (by kernel_rfl) ?_ _
        exact th_n ⟨A103, c104, g101, g91, henv.sub ⟨rfl, rfl, rfl, rfl, rfl, rfl, rfl, rfl, rfl, rfl, rfl, rfl, rfl, rfl, rfl, trivial⟩, hst.pick [1, 0, 2, 3] [0, 1, 2] (by decide)⟩
  clear henv hst a
  rintro a w109 ⟨A57, c58, g61, g63, henv, hst⟩
  refine wp_seq ?_
  refine wp_seq ?_
  refine region_seq ?_
  revert a
  refine mA rfl rfl ?_
  refine sA (v := .int .i64 (n0 : Nat)) rfl (fun _ henv => rn_len henv Tryd.underlying32 rfl) ?_
  refine sA (v := .int .i64 (((n0 - 1 : Nat) : Int) - 1)) rfl (fun _ henv => rn_sub henv rfl rfl (by rw [IntWalk.i64_in _ (by omega)]; omega)) ?_
  refine aA rfl rfl ?_
  intro a henv
  refine wpList_nil ?_
  refine th_n ?_
  refine wp_block ?_
  refine wp_loop_ghost (fun mz a w => ∃ i : Nat, ∃ v : Int, ∃ Av : Option Addr, ∃ cv : Nat, ∃ p : Int, ∃ Ap : Option Addr, ∃ cp : Nat, i = mz ∧ Env 48 a [(0, .slice A0 n0 c0), (3, .pointer (some ⟨g51, 0, none⟩)), (4, .pointer (some ⟨g53, 0, none⟩)), (6, .pointer (some ⟨g61, 0, none⟩)), (7, .pointer (some ⟨g63, 0, none⟩)), (8, .int .i64 (((i : Nat) : Int) - 1))] ∧ St w0 w [bk g63 #[.bool (neg p), .slice Ap (zl p) cp] 28, bk g61 #[.bool (neg v), .slice Av (zl v) cv] 28, bk g53 #[.bool (neg 0), .slice none (zl 0) 0] 28, bk g51 #[.int .i64 pa, .int .i64 pb] 24] [pfZ Ap cp p, pfZ Av cv v, pfRow fN FN 2 A0 n0 c0 es0] ∧ i ≤ n0 - 1 ∧ v = hval pa pb (xs.drop i) ∧ p = pb ^ (xs.length - 1 - i)) _ ⟨(n0 - 1), xl, Al, cl, 1, A57, c58, rfl, henv.sub ⟨rfl, rfl, rfl, rfl, rfl, rfl, trivial⟩, hst.pick [0, 1, 2, 3] [0, 1, 2] (by decide), (Nat.le_refl _), (by rw [← hlx]; exact (hval_last hxl).symm), (by rw [hlx, Nat.sub_self, Int.pow_zero])⟩ ?_
  clear henv hst a
  rintro mz a w110 ⟨i, v, Av, cv, p, Ap, cp, rfl, henv, hst, hi, hvv, hpp⟩
  have hsv := hvv ▸ hval_sz hI.1 hI.2 (hk.drop i)
  have hld : (xs.drop i).length = n0 - i := by rw [List.length_drop, hlx]
  rw [hld] at hsv
  have hsp := hpp ▸ zl_p16 hI.2 (xs.length - 1 - i)
  rw [hlx] at hsp hpp
  have hva := zl_mul v pa
  have hpb := zl_mul p pb
  have hza := zl_16 hI.1
  have hzb := zl_16 hI.2
  refine wp_seq ?_
  refine wp_seq ?_
  refine region_seq ?_
  revert a
  refine mA rfl rfl ?_
  refine sA (v := .bool (decide (((i : Nat) : Int) - 1 ≥ (0 : Int)))) rfl (fun _ henv => rn_bin henv rfl rfl rfl) ?_
  intro a henv
  refine wpList_nil ?_
  refine th_n ?_
  refine if_split henv rfl (fun hc111 => ?_) (fun hc111 => ?_)
  · obtain ⟨j, hj⟩ : ∃ j : Nat, ((i : Nat) : Int) - 1 = (j : Nat) := ⟨i - 1, by have := of_decide_eq_true hc111; omega⟩
    rw [hj] at henv
    obtain rfl : i = j + 1 := by omega
    clear hj
    obtain ⟨⟨A, c, x⟩, he0⟩ : ∃ e, es0[j]? = some e := ⟨_, List.getElem?_eq_getElem (by omega)⟩
    replace hst := hst.elem (k := 2) rfl he0
    replace hst : St w0 _ [bk g63 #[.bool (neg p), .slice Ap (zl p) cp] 28, bk g61 #[.bool (neg v), .slice Av (zl v) cv] 28, bk g53 #[.bool (neg 0), .slice none (zl 0) 0] 28, bk g51 #[.int .i64 pa, .int .i64 pb] 24] [pfZ A c x, pfZ Ap cp p, pfZ Av cv v, pfRow fN FN 2 A0 n0 c0 es0] := hst
    replace hst : St w0 _ [bk g63 #[.bool (neg p), .slice Ap (zl p) cp] 28, bk g61 #[.bool (neg v), .slice Av (zl v) cv] 28, bk g53 #[.bool (neg 0), .slice none (zl 0) 0] 28, bk g51 #[.int .i64 pa, .int .i64 pb] 24] [pfZ A c x, pfZ Ap cp p, pfZ Av cv v, pfRow fN FN 2 A0 n0 c0 es0] := hst
    have hxj : xs[j]? = some x := by rw [← hz0, List.getElem?_map, he0]; rfl
    have hsx : zl x ≤ 1000 := hk x (List.mem_of_getElem? hxj)
    refine wp_skip ?_
    refine th_n ?_
    refine wp_seq ?_
    refine wp_block ?_
    refine wp_seq ?_
    refine region_seq ?_
    revert a
    refine sA (v := .agg #[.bool (neg p), .slice Ap (zl p) cp]) rfl (fun _ henv => rn_load0 henv ty_anvil_integer_Int rfl (hst.oat (k := 0) rfl) rfl) ?_
    refine sA (v := .pointer (some ⟨g51, 1, none⟩)) rfl (fun _ henv => rn_fieldAddr henv fd_anvil_api_Point_1 (ty_int.size) (by decide) rfl) ?_
    refine sA (v := .int .i64 pb) rfl (fun _ henv => rn_load1 henv ty_int rfl (hst.oat (k := 3) rfl) rfl) ?_
    intro a henv
    refine seq_step rfl (op_call henv rfl Tryd.call48 rfl (times_z (x := p) (n := pb) (show ZIn _ Ap cp p from hst.pat (k := 1) rfl) (by omega) (by omega) (by omega)) ?_)
    rintro e w115 ⟨_, rfl, ⟨A112, c113, rfl, hz114⟩, hb⟩
    refine ⟨_, rfl, ?_⟩
    clear henv a; intro a henv
    replace hst := (hst.call hb).addZ hz114 ⟨nou_bk rfl, nou_bk rfl, nou_bk rfl, nou_bk rfl, trivial⟩
    clear hz114
    clear hb
    refine seq_step rfl (op_store (k := 0) (c' := #[.bool (neg (p * pb)), .slice A112 (zl (p * pb)) c113]) henv hst (ty_anvil_integer_Int.size) rfl rfl rfl rfl (by simp) rfl rfl ?_)
    clear henv hst a; intro a w116 henv hst
    refine wpList_nil ?_
    refine th_n ?_
    refine region_any (n := 12) (Sk [bk g63 #[.bool (neg (p * pb)), .slice A112 (zl (p * pb)) c113] 28, bk g53 #[.bool (neg 0), .slice none (zl 0) 0] 28, bk g51 #[.int .i64 pa, .int .i64 pb] 24] [pfZ A112 c113 (p * pb), pfZ A c x, pfZ Ap cp p, pfZ Av cv v, pfRow fN FN 2 A0 n0 c0 es0] [11] [bk g61 #[.bool (neg v), .slice Av (zl v) cv] 28]) mixed rfl henv hst ?_
    clear henv hst; intro w117 henv hst
    refine sAny_take (i := 0) [3, 9, 10, 11] (fun w' => w'.heap[g61]? = some (.cells #[.bool (neg v), .slice Av (zl v) cv] 28 (0, 0))) (v := .agg #[.bool (neg v), .slice Av (zl v) cv]) rfl (by kernel_rfl) (fun _ _ _ h => h) (fun _ _ hj hS => (hS.two rfl hj).oat (k := 0) rfl) henv rfl (hst.oat (k := 1) rfl) (fun w' hg => rn_load0 henv ty_anvil_integer_Int rfl hg rfl) ?_
    clear henv a; intro a henv
    refine tA (i := 1) [2, 3, 9, 10, 11] (v := .pointer (some ⟨g51, 0, none⟩)) rfl (by kernel_rfl) (fun _ _ _ h => h) henv rfl (fun _ => rn_fieldAddr henv fd_anvil_api_Point_0 (ty_int.size) (by decide) rfl) ?_
    clear henv a; intro a henv
    refine sAny_take (i := 2) [3, 9, 10, 11] (fun w' => w'.heap[g51]? = some (.cells #[.int .i64 pa, .int .i64 pb] 24 (0, 0))) (v := .int .i64 pa) rfl (by kernel_rfl) (fun _ _ _ h => h) (fun _ _ _ hS => hS.1.oat (k := 2) rfl) henv rfl (hst.oat (k := 3) rfl) (fun w' hg => rn_load1 henv ty_int rfl hg rfl) ?_
    clear henv a; intro a henv
    refine tM (i := 4) [6, 7, 9, 10, 11] rfl (by kernel_rfl) (fun _ _ _ h => h) henv rfl rfl ?_
    clear henv a; intro a henv
    refine tM (i := 5) [6, 7, 9, 10, 11] rfl (by kernel_rfl) (fun _ _ _ h => h) henv rfl rfl ?_
    clear henv a; intro a henv
    refine sAny_take (i := 6) [7, 9, 10, 11] (fun w' => (pfRow fN FN 2 A0 n0 c0 es0).P w') (v := .pointer (some ⟨ab A0, ao A0 + j * 2, none⟩)) rfl (by kernel_rfl) (fun _ _ _ h => h) (fun _ _ _ hS => hS.1.pat (k := 4) rfl) henv rfl (hst.pat (k := 4) rfl) (fun w' hg => rn_idxR (i := j) henv Tryd.underlying32 (ty_anvil_integer_Int.size) rfl rfl (by omega) rfl (show (pfRow fN FN 2 A0 n0 c0 es0).P _ from hg).1) ?_
    clear henv a; intro a henv
    refine sAny_take (i := 7) [9, 10, 11] (fun w' => (pfRow fN FN 2 A0 n0 c0 es0).P w') (v := .agg #[.bool (neg x), .slice A (zl x) c]) rfl (by kernel_rfl) (fun _ _ _ h => h) (fun _ _ _ hS => hS.1.pat (k := 4) rfl) henv rfl (hst.pat (k := 4) rfl) (fun w' hg => rn_loadE (i := j) (e := (A, c, x)) henv ty_anvil_integer_Int rfl rfl fN_len (show (pfRow fN FN 2 A0 n0 c0 es0).P _ from hg).1 (by omega) he0 rfl) ?_
    clear henv a; intro a henv
    refine tL (i := 8) 0 0 [9, 10, 11] rfl (by kernel_rfl) (fun _ _ _ h => h) henv rfl ty_anvil_integer_Int rfl hst rfl rfl rfl ?_
    clear henv a; intro a henv
    refine sAny_one (i := 3) (by kernel_rfl) rfl rfl (op_call henv rfl Tryd.call48 rfl (times_z (x := v) (n := pa) (show ZIn _ Av cv v from hst.pat (k := 3) rfl) (by omega) (by omega) (by omega)) ?_)
    rintro e w121 ⟨_, rfl, ⟨A118, c119, rfl, hz120⟩, hb⟩
    refine ⟨_, rfl, ?_⟩
    clear henv a; intro a henv
    replace hst := (hst.call hb).addZ hz120 ⟨nou_bk rfl, nou_bk rfl, nou_bk rfl, nou_bk rfl, trivial⟩
    clear hz120
    clear hb
    refine ⟨.inr ⟨hst.kn.pick [0, 2, 3] (rg 1 5), .inr (hst.kn.pick [1] [])⟩, ?_⟩
    have hs122 := zl_mul x (p * pb)
    refine sAny_one (i := 9) (by kernel_rfl) rfl rfl (op_call henv rfl Tryd.call43 rfl (mul_z (x := x) (y := (p * pb)) (show ZIn _ A c x from hst.pat (k := 2) rfl) (show ZIn _ A112 c113 (p * pb) from hst.pat (k := 1) rfl) (by omega) (by omega)) ?_)
    rintro e w126 ⟨_, rfl, ⟨A123, c124, rfl, hz125⟩, hb⟩
    refine ⟨_, rfl, ?_⟩
    clear henv a; intro a henv
    replace hst := (hst.call hb).addZ hz125 ⟨nou_bk rfl, nou_bk rfl, nou_bk rfl, nou_bk rfl, trivial⟩
    clear hz125
    clear hb
    refine ⟨.inr ⟨hst.kn.pick [0, 2, 3] (rg 2 5), .inr (hst.kn.pick [1] [])⟩, ?_⟩
    have hs127 := zl_add (v * pa) (x * (p * pb))
    refine sAny_one (i := 10) (by kernel_rfl) rfl rfl (op_call henv rfl Tryd.call49 rfl (add_z (x := (v * pa)) (y := x * (p * pb)) (show ZIn _ A118 c119 (v * pa) from hst.pat (k := 1) rfl) (show ZIn _ A123 c124 (x * (p * pb)) from hst.pat (k := 0) rfl) (by omega) (by omega)) ?_)
    rintro e w131 ⟨_, rfl, ⟨A128, c129, rfl, hz130⟩, hb⟩
    refine ⟨_, rfl, ?_⟩
    clear henv a; intro a henv
    replace hst := (hst.call hb).addZ hz130 ⟨nou_bk rfl, nou_bk rfl, nou_bk rfl, nou_bk rfl, trivial⟩
    clear hz130
    clear hb
    refine ⟨.inr ⟨hst.kn.pick [0, 2, 3] (rg 3 5), .inr (hst.kn.pick [1] [])⟩, ?_⟩
    refine sAny_one (i := 11) (by kernel_rfl) rfl rfl (op_store (k := 1) (c' := #[.bool (neg ((v * pa) + (x * (p * pb)))), .slice A128 (zl ((v * pa) + (x * (p * pb)))) c129]) henv hst (ty_anvil_integer_Int.size) rfl rfl rfl rfl (by simp) rfl rfl ?_)
    clear henv hst a; intro a w132 henv hst
    refine ⟨.inr ⟨hst.kn.pick [0, 2, 3] (rg 3 5), .inl rfl⟩, ?_⟩
    refine sAny_done (by kernel_rfl) ?_ _
    refine bl_n (th_n ?_)
    refine region_seq ?_
    revert a
    refine mA rfl rfl ?_
    refine sA (v := .int .i64 (((j : Nat) : Int) - 1)) rfl (fun _ henv => rn_sub henv rfl rfl (IntWalk.i64_in _ (by omega))) ?_
    refine aA rfl rfl ?_
    intro a henv
    refine wpList_nil ?_
    exact th_n ⟨_, (by omega), ⟨j, (v * pa + x * (p * pb)), A128, c129, (p * pb), A112, c113, rfl, henv.sub ⟨rfl, rfl, rfl, rfl, rfl, rfl, trivial⟩, hst.pick [0, 1, 2, 3] [3, 0, 7] (by decide), (by omega), (hval_step hvv hpp hlx hxj (by omega)), (by rw [hpp, ← Int.pow_succ, hlx]; congr 1; omega)⟩⟩
  · obtain rfl : i = 0 := by have := of_decide_eq_false hc111; omega
    rw [List.drop_zero] at hvv
    refine wp_exit ?_
    refine th_x (th_x (bl_x (th_n ?_)))
    refine wp_seq ?_
    refine region_seq ?_
    refine sv (v := .agg #[.bool (neg v), .slice Av (zl v) cv]) henv rfl (rn_load0 henv ty_anvil_integer_Int rfl (hst.oat (k := 1) rfl) rfl) ?_
    clear henv a; intro a henv
    refine seq_step rfl (op_store (k := 2) (c' := #[.bool (neg v), .slice Av (zl v) cv]) henv hst (ty_anvil_integer_Int.size) rfl rfl rfl rfl (by simp) rfl rfl ?_)
    clear henv hst a; intro a w133 henv hst
    refine sv (v := .int .i64 0) henv rfl (rn_assign henv rfl) ?_
    clear henv a; intro a henv
    refine wpList_nil ?_
    refine th_n ?_
    refine wp_ret ?_
    refine leave henv (res2 Tryd.results11 (RV.cell henv ty_anvil_integer_Int rfl (hst.oat (k := 2) rfl) rfl) (RV.tmp henv rfl)) ?_
    exact ⟨_, rfl, hvv ▸ ⟨_, _, rfl, hst.pat (k := 1) rfl⟩, hst.below⟩
set_option maxRecDepth 100000 in
set_option maxHeartbeats 4000000 in
theorem p_at_bad {A0 : Option Addr} {n0 c0 : Nat} {es0 : List NE} {xs : List Int} {pa pb : Int} {w0 : World} (h0 : (pfRow fN FN 2 A0 n0 c0 es0).P w0) (hz0 : es0.map zz = xs) (hbad : n0 = 0 ∨ ¬ (I16 pa ∧ I16 pb)) :
    Calls Tryd.prog 11 #[.slice A0 n0 c0, .agg #[.int .i64 pa, .int .i64 pb]] w0 fun e w' => ∃ v, e = .returned (.tuple #[v, .int .i64 2]) ∧ ZAt w' v 0 ∧ Below w0.heap.size w0 w' := by
  refine enter Tryd.func11 rfl Tryd.ntmps11 rfl ?_
  intro a henv hst
  have hlen0 := h0.2.1
  have hbig0 := Nat.le_trans h0.1.cap h0.1.big
  unfold maxLen at hbig0
  replace hst := hst.argRow h0
  clear h0
  have hlx : xs.length = n0 := by rw [← hz0, List.length_map]; exact hlen0
  refine wp_seq ?_
  refine region_seq ?_
  refine seq_step rfl (op_box (c := #[.int .i64 pa, .int .i64 pb]) henv hst rfl rfl rfl ?_)
  clear henv hst a; intro a w52 g51 henv hst
  refine seq_step rfl (op_alloc (c := #[.bool (neg 0), .slice none (zl 0) 0]) henv hst rfl zero_anvil_integer_Int zcells ?_)
  clear henv hst a; intro a w54 g53 henv hst
  refine sv (v := .int .i64 0) henv rfl (rn_assign henv rfl) ?_
  clear henv a; intro a henv
  refine wpList_nil ?_
  refine th_n ?_
  refine wp_seq ?_
  refine wp_seq ?_
  refine region_seq ?_
  revert a
  refine mA rfl rfl ?_
  refine sA (v := .int .i64 (n0 : Nat)) rfl (fun _ henv => rn_len henv Tryd.underlying32 rfl) ?_
  refine sA (v := .bool (((n0 : Nat) : Int) == (0 : Int))) rfl (fun _ henv => rn_bin henv rfl rfl rfl) ?_
  refine mA rfl rfl ?_
  intro a henv
  rcases bool_em (((n0 : Nat) : Int) == (0 : Int)) with hg55 | hg55
  · rw [hg55] at henv
    have hne := eq_of_beq hg55
    revert a
    refine kA rfl rfl rfl rfl rfl ?_
    refine kA rfl rfl rfl rfl rfl ?_
    refine kA rfl rfl rfl rfl rfl ?_
    refine sA (v := .bool true) rfl (fun _ henv => rn_pick henv rfl rfl) ?_
    intro a henv
    refine wpList_nil ?_
    refine th_n ?_
    refine if_t henv rfl (rfl) ?_
    refine wp_seq ?_
    refine region_seq ?_
    refine sv (v := .agg #[.bool (neg 0), .slice none (zl 0) 0]) henv rfl (rn_zint Tryd.underlying28 zero_anvil_integer_Int (by intro f hf; simp at hf; rcases hf with rfl | rfl <;> exact ⟨_, rfl⟩)) ?_
    clear henv a; intro a henv
    refine seq_step rfl (op_store (k := 0) (c' := #[.bool (neg 0), .slice none (zl 0) 0]) henv hst (ty_anvil_integer_Int.size) rfl rfl rfl rfl (by simp) rfl rfl ?_)
    clear henv hst a; intro a w56 henv hst
    refine sv (v := .int .i64 2) henv rfl (rn_assign henv rfl) ?_
    clear henv a; intro a henv
    refine wpList_nil ?_
    refine th_n ?_
    refine wp_ret ?_
    refine th_r ?_
    refine leave henv (res2 Tryd.results11 (RV.cell henv ty_anvil_integer_Int rfl (hst.oat (k := 0) rfl) rfl) (RV.tmp henv rfl)) ?_
    exact ⟨_, rfl, ⟨_, _, rfl, zin_none _⟩, hst.below⟩
  · rw [hg55] at henv
    have hne : n0 ≠ 0 := by have := ne_of_beq_false hg55; omega
    refine seq_g rfl henv rfl rfl (op_val (v := .agg #[.int .i64 pa, .int .i64 pb]) henv rfl (rn_load0 henv ty_anvil_api_Point rfl (hst.oat (k := 1) rfl) rfl) ?_)
    clear henv a; intro a henv
    refine seq_g rfl henv rfl rfl (op_call henv rfl Tryd.call40 rfl (pt_in (pa := pa) (pb := pb)) ?_)
    rintro e w57 ⟨rfl, hb⟩
    refine ⟨_, rfl, ?_⟩
    clear henv a; intro a henv
    replace hst := hst.call hb
    clear hb
    rw [show (decide (I16 pa ∧ I16 pb)) = false from (decide_eq_false (hbad.resolve_left hne))] at henv
    revert a
    refine gA (v := .bool true) rfl rfl rfl rfl (fun _ henv => rn_un henv rfl rfl) ?_
    refine sA (v := .bool true) rfl (fun _ henv => rn_pick henv rfl rfl) ?_
    intro a henv
    refine wpList_nil ?_
    refine th_n ?_
    refine if_t henv rfl (rfl) ?_
    refine wp_seq ?_
    refine region_seq ?_
    refine sv (v := .agg #[.bool (neg 0), .slice none (zl 0) 0]) henv rfl (rn_zint Tryd.underlying28 zero_anvil_integer_Int (by intro f hf; simp at hf; rcases hf with rfl | rfl <;> exact ⟨_, rfl⟩)) ?_
    clear henv a; intro a henv
    refine seq_step rfl (op_store (k := 0) (c' := #[.bool (neg 0), .slice none (zl 0) 0]) henv hst (ty_anvil_integer_Int.size) rfl rfl rfl rfl (by simp) rfl rfl ?_)
    clear henv hst a; intro a w58 henv hst
    refine sv (v := .int .i64 2) henv rfl (rn_assign henv rfl) ?_
    clear henv a; intro a henv
    refine wpList_nil ?_
    refine th_n ?_
    refine wp_ret ?_
    refine th_r ?_
    refine leave henv (res2 Tryd.results11 (RV.cell henv ty_anvil_integer_Int rfl (hst.oat (k := 0) rfl) rfl) (RV.tmp henv rfl)) ?_
    exact ⟨_, rfl, ⟨_, _, rfl, zin_none _⟩, hst.below⟩
end Go.Proofs.YtghaenkacjgdnaaDoor.W

/- placed for any function, Add, Sub, Mul, Shift. Printed by pv/gen_po4.py. No condition. -/
namespace Go.Proofs.YtghaenkacjgdnaaDoor.W
open Go.RowKit Anv Go.Lib
def gF (g : Int → Int → Int) (xs ys : List Int) (i : Nat) : Int := g (xs.getD i 0) (ys.getD i 0)
theorem gF_step {g : Int → Int → Int} {os : List NE} {xs ys : List Int} {i c : Nat} {A : Option Addr} {z : Int} (ho : os.map zz = (List.range i).map (gF g xs ys)) (h : gF g xs ys i = z) : (os ++ [(A, c, z)]).map zz = (List.range (i + 1)).map (gF g xs ys) := by
  rw [List.map_append, ho, List.range_succ, List.map_append, ← h]
  rfl
set_option maxRecDepth 100000 in
set_option maxHeartbeats 4000000 in
theorem p_placedG {E : PF} {f : FuncId} {first caps : Array Value} {g : Int → Int → Int} {A0 A1 : Option Addr} {n0 n1 c0 c1 : Nat} {es0 es1 : List NE} {xs ys : List Int} {w0 : World} (h0 : (pfRow fN FN 2 A0 n0 c0 es0).P w0) (hz0 : es0.map zz = xs) (h1 : (pfRow fN FN 2 A1 n1 c1 es1).P w0) (hz1 : es1.map zz = ys) (hE : E.P w0) (hcf : ∀ args w, (callFunc f args).run Tryd.prog w = .ok (.enter f args) w) (hf : ∀ (z y : Int) (A : Option Addr) (c : Nat) (B : Option Addr) (d : Nat) (w : World), zl z ≤ 1000 → zl y ≤ 1000 → E.P w → ZIn w A c z → ZIn w B d y → Calls Tryd.prog f (first ++ #[.agg #[.bool (neg z), .slice A (zl z) c], .agg #[.bool (neg y), .slice B (zl y) d]] ++ caps) w fun e w' => ∃ v, e = .returned v ∧ ZAt w' v (g z y) ∧ Below w.heap.size w w') (hk0 : Zk 1000 xs) (hk1 : Zk 1000 ys) (hn0 : n0 ≤ 100000) (hn1 : n1 ≤ 100000) :
    Calls Tryd.prog 57 #[.slice A0 n0 c0, .slice A1 n1 c1, .func (.func f) first caps] w0 fun e w' => ∃ v, e = .returned v ∧ ZRowN w0.heap.size w' v (max n0 n1) ((List.range (max n0 n1)).map (gF g xs ys)) ∧ Below w0.heap.size w0 w' := by
  refine enter Tryd.func57 rfl Tryd.ntmps57 rfl ?_
  intro a henv hst
  replace hst := hst.argP E hE
  have hlen0 := h0.2.1
  have hlen1 := h1.2.1
  replace hst := (hst.argRow h1).argRow h0
  clear h0 h1
  refine wp_seq ?_
  refine region_seq ?_
  refine sv (v := .slice none 0 0) henv rfl (rn_assign henv rfl) ?_
  clear henv a; intro a henv
  refine wpList_nil ?_
  refine th_n ?_
  refine wp_seq ?_
  refine region_seq ?_
  refine sv (v := .slice none 0 0) henv rfl (rn_assign henv rfl) ?_
  clear henv a; intro a henv
  refine wpList_nil ?_
  refine th_n ?_
  refine wp_seq ?_
  refine wp_seq ?_
  refine region_seq ?_
  revert a
  refine mA rfl rfl ?_
  refine sA (v := .int .i64 (n0 : Nat)) rfl (fun _ henv => rn_len henv Tryd.underlying32 rfl) ?_
  refine mA rfl rfl ?_
  refine sA (v := .int .i64 (n1 : Nat)) rfl (fun _ henv => rn_len henv Tryd.underlying32 rfl) ?_
  refine sA (v := .int .i64 (max n0 n1 : Nat)) rfl (fun _ henv => rn_maxN (m := n0) (n := n1) henv rfl rfl) ?_
  refine mA rfl rfl ?_
  intro a henv
  refine wpList_nil ?_
  refine th_n ?_
  refine wp_block ?_
  replace hst := (hst.addRowS notU 28 2).nilEs FN
  replace hst : St w0 _ [rowS notU 28 2 none 0 0 (fl fN ([]))] [pfEs FN ([]), pfRow fN FN 2 A0 n0 c0 es0, pfRow fN FN 2 A1 n1 c1 es1, E] := hst
  refine wp_loop_ghost (fun mz a w => ∃ i : Nat, ∃ B : Option Addr, ∃ d : Nat, ∃ os : List NE, max n0 n1 - i = mz ∧ Env 44 a [(0, .slice A0 n0 c0), (1, .slice A1 n1 c1), (2, .func (.func f) first caps), (7, .slice B i d), (15, .int .i64 (max n0 n1 : Nat)), (16, .int .i64 (i : Nat))] ∧ St w0 w [rowS notU 28 2 B i d (fl fN os)] [pfRow fN FN 2 A0 n0 c0 es0, pfRow fN FN 2 A1 n1 c1 es1, E, pfEs FN os] ∧ i ≤ max n0 n1 ∧ os.map zz = (List.range i).map (gF g xs ys) ∧ (i = 0 → B = none)) _ ⟨0, none, 0, [], rfl, henv.sub ⟨rfl, rfl, rfl, rfl, rfl, rfl, trivial⟩, hst.pick [0] [1, 2, 3, 0] (by decide), (Nat.zero_le _), rfl, (fun _ => rfl)⟩ ?_
  clear henv hst a
  rintro mz a w51 ⟨i, B, d, os, rfl, henv, hst, hi, ho, hB⟩
  refine wp_seq ?_
  refine region_seq ?_
  refine sv (v := .bool (decide (((i : Nat) : Int) < ((max n0 n1 : Nat) : Int)))) henv rfl (rn_bin henv rfl rfl rfl) ?_
  clear henv a; intro a henv
  refine wpList_nil ?_
  refine th_n ?_
  refine wp_seq ?_
  refine if_split henv rfl (fun hc52 => ?_) (fun hc52 => ?_)
  · have hlt : i < max n0 n1 := by have := of_decide_eq_true hc52; omega
    refine wp_skip ?_
    refine th_n ?_
    refine wp_seq ?_
    refine wp_block ?_
    refine wp_seq ?_
    refine region_seq ?_
    revert a
    refine mA rfl rfl ?_
    refine aA rfl rfl ?_
    intro a henv
    refine wpList_nil ?_
    refine th_n ?_
    refine wp_seq ?_
    refine region_seq ?_
    refine seq_step rfl (op_alloc (c := #[.bool (neg 0), .slice none (zl 0) 0]) henv hst rfl zero_anvil_integer_Int zcells ?_)
    clear henv hst a; intro a w55 g54 henv hst
    refine seq_step rfl (op_alloc (c := #[.bool (neg 0), .slice none (zl 0) 0]) henv hst rfl zero_anvil_integer_Int zcells ?_)
    clear henv hst a; intro a w57 g56 henv hst
    refine wpList_nil ?_
    refine th_n ?_
    refine wp_seq ?_
    refine wp_seq ?_
    refine region_seq ?_
    revert a
    refine mA rfl rfl ?_
    refine mA rfl rfl ?_
    refine sA (v := .int .i64 (n0 : Nat)) rfl (fun _ henv => rn_len henv Tryd.underlying32 rfl) ?_
    refine sA (v := .bool (decide (((i : Nat) : Int) < ((n0 : Nat) : Int)))) rfl (fun _ henv => rn_bin henv rfl rfl rfl) ?_
    intro a henv
    refine wpList_nil ?_
    refine th_n ?_
    refine if_split henv rfl (fun hc58 => ?_) (fun hc58 => ?_)
    · have hl0 : i < n0 := by have := of_decide_eq_true hc58; omega
      obtain ⟨⟨A, c, x⟩, he0⟩ : ∃ e, es0[i]? = some e := ⟨_, List.getElem?_eq_getElem (by omega)⟩
      replace hst := hst.elem (k := 0) rfl he0
      replace hst : St w0 _ [bk g56 #[.bool (neg 0), .slice none (zl 0) 0] 28, bk g54 #[.bool (neg 0), .slice none (zl 0) 0] 28, rowS notU 28 2 B i d (fl fN os)] [pfZ A c x, pfRow fN FN 2 A0 n0 c0 es0, pfRow fN FN 2 A1 n1 c1 es1, E, pfEs FN os] := hst
      replace hst : St w0 _ [bk g56 #[.bool (neg 0), .slice none (zl 0) 0] 28, bk g54 #[.bool (neg 0), .slice none (zl 0) 0] 28, rowS notU 28 2 B i d (fl fN os)] [pfZ A c x, pfRow fN FN 2 A0 n0 c0 es0, pfRow fN FN 2 A1 n1 c1 es1, E, pfEs FN os] := hst
      have hg0 : xs.getD i 0 = x := by rw [List.getD_eq_getElem?_getD, ← hz0, List.getElem?_map, he0]; rfl
      have hs0 : zl x ≤ 1000 := hk0.es hz0 _ (List.mem_of_getElem? he0)
      refine region_seq ?_
      revert a
      refine mA rfl rfl ?_
      refine mA rfl rfl ?_
      refine sA (v := .pointer (some ⟨ab A0, ao A0 + i * 2, none⟩)) rfl (fun _ henv => rn_idxR (i := i) henv Tryd.underlying32 (ty_anvil_integer_Int.size) rfl rfl (by omega) rfl (show (pfRow fN FN 2 A0 n0 c0 es0).P _ from (hst.pat (k := 1) rfl)).1) ?_
      refine sA (v := .agg #[.bool (neg x), .slice A (zl x) c]) rfl (fun _ henv => rn_loadE (i := i) (e := (A, c, x)) henv ty_anvil_integer_Int rfl rfl fN_len (show (pfRow fN FN 2 A0 n0 c0 es0).P _ from (hst.pat (k := 1) rfl)).1 (by omega) he0 rfl) ?_
      intro a henv
      refine seq_step rfl (op_store (k := 1) (c' := #[.bool (neg x), .slice A (zl x) c]) henv hst (ty_anvil_integer_Int.size) rfl rfl rfl rfl (by simp) rfl rfl ?_)
      clear henv hst a; intro a w60 henv hst
      refine wpList_nil ?_
      refine th_n ?_
      refine wp_seq ?_
      refine wp_seq ?_
      refine region_seq ?_
      revert a
      refine mA rfl rfl ?_
      refine mA rfl rfl ?_
      refine sA (v := .int .i64 (n1 : Nat)) rfl (fun _ henv => rn_len henv Tryd.underlying32 rfl) ?_
      refine sA (v := .bool (decide (((i : Nat) : Int) < ((n1 : Nat) : Int)))) rfl (fun _ henv => rn_bin henv rfl rfl rfl) ?_
      intro a henv
      refine wpList_nil ?_
      refine th_n ?_
      refine if_split henv rfl (fun hc61 => ?_) (fun hc61 => ?_)
      · have hl1 : i < n1 := by have := of_decide_eq_true hc61; omega
        obtain ⟨⟨C, f, y⟩, he1⟩ : ∃ e, es1[i]? = some e := ⟨_, List.getElem?_eq_getElem (by omega)⟩
        replace hst := hst.elem (k := 2) rfl he1
        replace hst : St w0 _ [bk g56 #[.bool (neg 0), .slice none (zl 0) 0] 28, bk g54 #[.bool (neg x), .slice A (zl x) c] 28, rowS notU 28 2 B i d (fl fN os)] [pfZ C f y, pfZ A c x, pfRow fN FN 2 A0 n0 c0 es0, pfRow fN FN 2 A1 n1 c1 es1, E, pfEs FN os] := hst
        replace hst : St w0 _ [bk g56 #[.bool (neg 0), .slice none (zl 0) 0] 28, bk g54 #[.bool (neg x), .slice A (zl x) c] 28, rowS notU 28 2 B i d (fl fN os)] [pfZ C f y, pfZ A c x, pfRow fN FN 2 A0 n0 c0 es0, pfRow fN FN 2 A1 n1 c1 es1, E, pfEs FN os] := hst
        have hg1 : ys.getD i 0 = y := by rw [List.getD_eq_getElem?_getD, ← hz1, List.getElem?_map, he1]; rfl
        have hs1 : zl y ≤ 1000 := hk1.es hz1 _ (List.mem_of_getElem? he1)
        refine region_seq ?_
        revert a
        refine mA rfl rfl ?_
        refine mA rfl rfl ?_
        refine sA (v := .pointer (some ⟨ab A1, ao A1 + i * 2, none⟩)) rfl (fun _ henv => rn_idxR (i := i) henv Tryd.underlying32 (ty_anvil_integer_Int.size) rfl rfl (by omega) rfl (show (pfRow fN FN 2 A1 n1 c1 es1).P _ from (hst.pat (k := 3) rfl)).1) ?_
        refine sA (v := .agg #[.bool (neg y), .slice C (zl y) f]) rfl (fun _ henv => rn_loadE (i := i) (e := (C, f, y)) henv ty_anvil_integer_Int rfl rfl fN_len (show (pfRow fN FN 2 A1 n1 c1 es1).P _ from (hst.pat (k := 3) rfl)).1 (by omega) he1 rfl) ?_
        intro a henv
        refine seq_step rfl (op_store (k := 0) (c' := #[.bool (neg y), .slice C (zl y) f]) henv hst (ty_anvil_integer_Int.size) rfl rfl rfl rfl (by simp) rfl rfl ?_)
        clear henv hst a; intro a w63 henv hst
        refine wpList_nil ?_
        refine th_n ?_
        refine region_seq ?_
        revert a
        refine mA rfl rfl ?_
        refine mA rfl rfl ?_
        refine sA (v := .agg #[.bool (neg x), .slice A (zl x) c]) rfl (fun _ henv => rn_load0 henv ty_anvil_integer_Int rfl (hst.oat (k := 1) rfl) rfl) ?_
        refine sA (v := .agg #[.bool (neg y), .slice C (zl y) f]) rfl (fun _ henv => rn_load0 henv ty_anvil_integer_Int rfl (hst.oat (k := 0) rfl) rfl) ?_
        intro a henv
        refine seq_step rfl (op_callc (vs := #[.agg #[.bool (neg x), .slice A (zl x) c], .agg #[.bool (neg y), .slice C (zl y) f]]) henv rfl hcf rfl rfl (hf x y _ _ _ _ _ hs0 hs1 (hst.pat (k := 4) rfl) (show ZIn _ A c x from hst.pat (k := 1) rfl) (show ZIn _ C f y from hst.pat (k := 0) rfl)) ?_)
        rintro e w67 ⟨_, rfl, ⟨A64, c65, rfl, hz66⟩, hb⟩
        refine ⟨_, rfl, ?_⟩
        clear henv a; intro a henv
        replace hst := (hst.call hb).addZ hz66 ⟨nou_bk rfl, nou_bk rfl, nou_rowS, trivial⟩
        clear hz66
        clear hb
        refine seq_step rfl (op_buildSlice (z := 2) (pv := #[(0, .agg #[.bool (neg (g x y)), .slice A64 (zl (g x y)) c65])]) (c := #[.bool (neg (g x y)), .slice A64 (zl (g x y)) c65]) henv hst rfl Tryd.underlying32 (ty_anvil_integer_Int.size) zero_anvil_integer_Int (by decide) (by decide) rfl (by kernel_rfl) ?_)
        clear henv hst a; intro a w69 g68 henv hst
        refine seq_step rfl (op_appendS (k := 3) (j := 0) henv hst rfl Tryd.underlying32 inf_anvil_integer_Int rfl rfl rfl rfl rfl rfl rfl rfl rfl rfl rfl (by unfold maxLen; omega) (by omega) ?_)
        clear henv hst a; intro a w72 g70 c71 henv hst
        rw [show fl fN os ++ (#[.bool (neg (g x y)), .slice A64 (zl (g x y)) c65] : Array Value).toList = fl fN (os ++ [(A64, c65, (g x y))]) from fl_snoc (f := fN) os (A64, c65, (g x y))] at hst
        replace hst := hst.snocEs (e := (A64, c65, (g x y))) (i := 6) (j := 0) rfl rfl
        refine sv (v := .slice (some ⟨g70, 0, none⟩) (i + 1) c71) henv rfl (rn_assign henv rfl) ?_
        clear henv a; intro a henv
        refine wpList_nil ?_
        refine bl_n (th_n ?_)
        refine region_seq ?_
        revert a
        refine sA (v := .int .i64 (i + 1 : Nat)) rfl (fun _ henv => rn_add henv rfl rfl (by rw [IntWalk.i64_in _ (by omega)]; omega)) ?_
        refine mA rfl rfl ?_
        intro a henv
        refine wpList_nil ?_
        exact th_n ⟨_, (by omega), ⟨i + 1, (some ⟨g70, 0, none⟩), c71, (os ++ [(A64, c65, (g x y))]), rfl, henv.sub ⟨rfl, rfl, rfl, rfl, rfl, rfl, trivial⟩, hst.pick [3] [4, 5, 6, 0] (by decide), (by omega), (gF_step ho (by unfold gF; rw [hg0, hg1])), (fun h => absurd h (by omega))⟩⟩
      · have hl1 : n1 ≤ i := by have := of_decide_eq_false hc61; omega
        have hg1 : ys.getD i 0 = 0 := by rw [List.getD_eq_getElem?_getD, List.getElem?_eq_none (by rw [← hz1, List.length_map]; omega)]; rfl
        refine wp_skip ?_
        refine th_n ?_
        refine region_seq ?_
        revert a
        refine mA rfl rfl ?_
        refine mA rfl rfl ?_
        refine sA (v := .agg #[.bool (neg x), .slice A (zl x) c]) rfl (fun _ henv => rn_load0 henv ty_anvil_integer_Int rfl (hst.oat (k := 1) rfl) rfl) ?_
        refine sA (v := .agg #[.bool (neg 0), .slice none (zl 0) 0]) rfl (fun _ henv => rn_load0 henv ty_anvil_integer_Int rfl (hst.oat (k := 0) rfl) rfl) ?_
        intro a henv
        replace hst := hst.addZ (show ZIn _ none 0 0 from zin_none _) ⟨nou_bk rfl, nou_bk rfl, nou_rowS, trivial⟩
        refine seq_step rfl (op_callc (vs := #[.agg #[.bool (neg x), .slice A (zl x) c], .agg #[.bool (neg 0), .slice none (zl 0) 0]]) henv rfl hcf rfl rfl (hf x (0 : Int) _ _ _ _ _ hs0 (by rw [zl_zero]; omega) (hst.pat (k := 4) rfl) (show ZIn _ A c x from hst.pat (k := 1) rfl) (show ZIn _ none 0 (0 : Int) from hst.pat (k := 0) rfl)) ?_)
        rintro e w77 ⟨_, rfl, ⟨A74, c75, rfl, hz76⟩, hb⟩
        refine ⟨_, rfl, ?_⟩
        clear henv a; intro a henv
        replace hst := (hst.call hb).addZ hz76 ⟨nou_bk rfl, nou_bk rfl, nou_rowS, trivial⟩
        clear hz76
        clear hb
        refine seq_step rfl (op_buildSlice (z := 2) (pv := #[(0, .agg #[.bool (neg (g x (0 : Int))), .slice A74 (zl (g x (0 : Int))) c75])]) (c := #[.bool (neg (g x (0 : Int))), .slice A74 (zl (g x (0 : Int))) c75]) henv hst rfl Tryd.underlying32 (ty_anvil_integer_Int.size) zero_anvil_integer_Int (by decide) (by decide) rfl (by kernel_rfl) ?_)
        clear henv hst a; intro a w79 g78 henv hst
        refine seq_step rfl (op_appendS (k := 3) (j := 0) henv hst rfl Tryd.underlying32 inf_anvil_integer_Int rfl rfl rfl rfl rfl rfl rfl rfl rfl rfl rfl (by unfold maxLen; omega) (by omega) ?_)
        clear henv hst a; intro a w82 g80 c81 henv hst
        rw [show fl fN os ++ (#[.bool (neg (g x (0 : Int))), .slice A74 (zl (g x (0 : Int))) c75] : Array Value).toList = fl fN (os ++ [(A74, c75, (g x (0 : Int)))]) from fl_snoc (f := fN) os (A74, c75, (g x (0 : Int)))] at hst
        replace hst := hst.snocEs (e := (A74, c75, (g x (0 : Int)))) (i := 6) (j := 0) rfl rfl
        refine sv (v := .slice (some ⟨g80, 0, none⟩) (i + 1) c81) henv rfl (rn_assign henv rfl) ?_
        clear henv a; intro a henv
        refine wpList_nil ?_
        refine bl_n (th_n ?_)
        refine region_seq ?_
        revert a
        refine sA (v := .int .i64 (i + 1 : Nat)) rfl (fun _ henv => rn_add henv rfl rfl (by rw [IntWalk.i64_in _ (by omega)]; omega)) ?_
        refine mA rfl rfl ?_
        intro a henv
        refine wpList_nil ?_
        exact th_n ⟨_, (by omega), ⟨i + 1, (some ⟨g80, 0, none⟩), c81, (os ++ [(A74, c75, (g x (0 : Int)))]), rfl, henv.sub ⟨rfl, rfl, rfl, rfl, rfl, rfl, trivial⟩, hst.pick [3] [4, 5, 6, 0] (by decide), (by omega), (gF_step ho (by unfold gF; rw [hg0, hg1])), (fun h => absurd h (by omega))⟩⟩
    · have hl0 : n0 ≤ i := by have := of_decide_eq_false hc58; omega
      have hg0 : xs.getD i 0 = 0 := by rw [List.getD_eq_getElem?_getD, List.getElem?_eq_none (by rw [← hz0, List.length_map]; omega)]; rfl
      refine wp_skip ?_
      refine th_n ?_
      refine wp_seq ?_
      refine wp_seq ?_
      refine region_seq ?_
      revert a
      refine mA rfl rfl ?_
      refine mA rfl rfl ?_
      refine sA (v := .int .i64 (n1 : Nat)) rfl (fun _ henv => rn_len henv Tryd.underlying32 rfl) ?_
      refine sA (v := .bool (decide (((i : Nat) : Int) < ((n1 : Nat) : Int)))) rfl (fun _ henv => rn_bin henv rfl rfl rfl) ?_
      intro a henv
      refine wpList_nil ?_
      refine th_n ?_
      refine if_split henv rfl (fun hc84 => ?_) (fun hc84 => ?_)
      · have hl1 : i < n1 := by have := of_decide_eq_true hc84; omega
        obtain ⟨⟨C, f, y⟩, he1⟩ : ∃ e, es1[i]? = some e := ⟨_, List.getElem?_eq_getElem (by omega)⟩
        replace hst := hst.elem (k := 1) rfl he1
        replace hst : St w0 _ [bk g56 #[.bool (neg 0), .slice none (zl 0) 0] 28, bk g54 #[.bool (neg 0), .slice none (zl 0) 0] 28, rowS notU 28 2 B i d (fl fN os)] [pfZ C f y, pfRow fN FN 2 A0 n0 c0 es0, pfRow fN FN 2 A1 n1 c1 es1, E, pfEs FN os] := hst
        replace hst : St w0 _ [bk g56 #[.bool (neg 0), .slice none (zl 0) 0] 28, bk g54 #[.bool (neg 0), .slice none (zl 0) 0] 28, rowS notU 28 2 B i d (fl fN os)] [pfZ C f y, pfRow fN FN 2 A0 n0 c0 es0, pfRow fN FN 2 A1 n1 c1 es1, E, pfEs FN os] := hst
        have hg1 : ys.getD i 0 = y := by rw [List.getD_eq_getElem?_getD, ← hz1, List.getElem?_map, he1]; rfl
        have hs1 : zl y ≤ 1000 := hk1.es hz1 _ (List.mem_of_getElem? he1)
        refine region_seq ?_
        revert a
        refine mA rfl rfl ?_
        refine mA rfl rfl ?_
        refine sA (v := .pointer (some ⟨ab A1, ao A1 + i * 2, none⟩)) rfl (fun _ henv => rn_idxR (i := i) henv Tryd.underlying32 (ty_anvil_integer_Int.size) rfl rfl (by omega) rfl (show (pfRow fN FN 2 A1 n1 c1 es1).P _ from (hst.pat (k := 2) rfl)).1) ?_
        refine sA (v := .agg #[.bool (neg y), .slice C (zl y) f]) rfl (fun _ henv => rn_loadE (i := i) (e := (C, f, y)) henv ty_anvil_integer_Int rfl rfl fN_len (show (pfRow fN FN 2 A1 n1 c1 es1).P _ from (hst.pat (k := 2) rfl)).1 (by omega) he1 rfl) ?_
        intro a henv
        refine seq_step rfl (op_store (k := 0) (c' := #[.bool (neg y), .slice C (zl y) f]) henv hst (ty_anvil_integer_Int.size) rfl rfl rfl rfl (by simp) rfl rfl ?_)
        clear henv hst a; intro a w86 henv hst
        refine wpList_nil ?_
        refine th_n ?_
        refine region_seq ?_
        revert a
        refine mA rfl rfl ?_
        refine mA rfl rfl ?_
        refine sA (v := .agg #[.bool (neg 0), .slice none (zl 0) 0]) rfl (fun _ henv => rn_load0 henv ty_anvil_integer_Int rfl (hst.oat (k := 1) rfl) rfl) ?_
        refine sA (v := .agg #[.bool (neg y), .slice C (zl y) f]) rfl (fun _ henv => rn_load0 henv ty_anvil_integer_Int rfl (hst.oat (k := 0) rfl) rfl) ?_
        intro a henv
        replace hst := hst.addZ (show ZIn _ none 0 0 from zin_none _) ⟨nou_bk rfl, nou_bk rfl, nou_rowS, trivial⟩
        refine seq_step rfl (op_callc (vs := #[.agg #[.bool (neg 0), .slice none (zl 0) 0], .agg #[.bool (neg y), .slice C (zl y) f]]) henv rfl hcf rfl rfl (hf (0 : Int) y _ _ _ _ _ (by rw [zl_zero]; omega) hs1 (hst.pat (k := 4) rfl) (show ZIn _ none 0 (0 : Int) from hst.pat (k := 0) rfl) (show ZIn _ C f y from hst.pat (k := 1) rfl)) ?_)
        rintro e w90 ⟨_, rfl, ⟨A87, c88, rfl, hz89⟩, hb⟩
        refine ⟨_, rfl, ?_⟩
        clear henv a; intro a henv
        replace hst := (hst.call hb).addZ hz89 ⟨nou_bk rfl, nou_bk rfl, nou_rowS, trivial⟩
        clear hz89
        clear hb
        refine seq_step rfl (op_buildSlice (z := 2) (pv := #[(0, .agg #[.bool (neg (g (0 : Int) y)), .slice A87 (zl (g (0 : Int) y)) c88])]) (c := #[.bool (neg (g (0 : Int) y)), .slice A87 (zl (g (0 : Int) y)) c88]) henv hst rfl Tryd.underlying32 (ty_anvil_integer_Int.size) zero_anvil_integer_Int (by decide) (by decide) rfl (by kernel_rfl) ?_)
        clear henv hst a; intro a w92 g91 henv hst
        refine seq_step rfl (op_appendS (k := 3) (j := 0) henv hst rfl Tryd.underlying32 inf_anvil_integer_Int rfl rfl rfl rfl rfl rfl rfl rfl rfl rfl rfl (by unfold maxLen; omega) (by omega) ?_)
        clear henv hst a; intro a w95 g93 c94 henv hst
        rw [show fl fN os ++ (#[.bool (neg (g (0 : Int) y)), .slice A87 (zl (g (0 : Int) y)) c88] : Array Value).toList = fl fN (os ++ [(A87, c88, (g (0 : Int) y))]) from fl_snoc (f := fN) os (A87, c88, (g (0 : Int) y))] at hst
        replace hst := hst.snocEs (e := (A87, c88, (g (0 : Int) y))) (i := 6) (j := 0) rfl rfl
        refine sv (v := .slice (some ⟨g93, 0, none⟩) (i + 1) c94) henv rfl (rn_assign henv rfl) ?_
        clear henv a; intro a henv
        refine wpList_nil ?_
        refine bl_n (th_n ?_)
        refine region_seq ?_
        revert a
        refine sA (v := .int .i64 (i + 1 : Nat)) rfl (fun _ henv => rn_add henv rfl rfl (by rw [IntWalk.i64_in _ (by omega)]; omega)) ?_
        refine mA rfl rfl ?_
        intro a henv
        refine wpList_nil ?_
        exact th_n ⟨_, (by omega), ⟨i + 1, (some ⟨g93, 0, none⟩), c94, (os ++ [(A87, c88, (g (0 : Int) y))]), rfl, henv.sub ⟨rfl, rfl, rfl, rfl, rfl, rfl, trivial⟩, hst.pick [3] [4, 5, 6, 0] (by decide), (by omega), (gF_step ho (by unfold gF; rw [hg0, hg1])), (fun h => absurd h (by omega))⟩⟩
      · have hl1 : n1 ≤ i := by have := of_decide_eq_false hc84; omega
        have hg1 : ys.getD i 0 = 0 := by rw [List.getD_eq_getElem?_getD, List.getElem?_eq_none (by rw [← hz1, List.length_map]; omega)]; rfl
        refine wp_skip ?_
        refine th_n ?_
        refine region_seq ?_
        revert a
        refine mA rfl rfl ?_
        refine mA rfl rfl ?_
        refine sA (v := .agg #[.bool (neg 0), .slice none (zl 0) 0]) rfl (fun _ henv => rn_load0 henv ty_anvil_integer_Int rfl (hst.oat (k := 1) rfl) rfl) ?_
        refine sA (v := .agg #[.bool (neg 0), .slice none (zl 0) 0]) rfl (fun _ henv => rn_load0 henv ty_anvil_integer_Int rfl (hst.oat (k := 0) rfl) rfl) ?_
        intro a henv
        replace hst := hst.addZ (show ZIn _ none 0 0 from zin_none _) ⟨nou_bk rfl, nou_bk rfl, nou_rowS, trivial⟩
        replace hst := hst.addZ (show ZIn _ none 0 0 from zin_none _) ⟨nou_bk rfl, nou_bk rfl, nou_rowS, trivial⟩
        refine seq_step rfl (op_callc (vs := #[.agg #[.bool (neg 0), .slice none (zl 0) 0], .agg #[.bool (neg 0), .slice none (zl 0) 0]]) henv rfl hcf rfl rfl (hf (0 : Int) (0 : Int) _ _ _ _ _ (by rw [zl_zero]; omega) (by rw [zl_zero]; omega) (hst.pat (k := 4) rfl) (show ZIn _ none 0 (0 : Int) from hst.pat (k := 0) rfl) (show ZIn _ none 0 (0 : Int) from hst.pat (k := 0) rfl)) ?_)
        rintro e w100 ⟨_, rfl, ⟨A97, c98, rfl, hz99⟩, hb⟩
        refine ⟨_, rfl, ?_⟩
        clear henv a; intro a henv
        replace hst := (hst.call hb).addZ hz99 ⟨nou_bk rfl, nou_bk rfl, nou_rowS, trivial⟩
        clear hz99
        clear hb
        refine seq_step rfl (op_buildSlice (z := 2) (pv := #[(0, .agg #[.bool (neg (g (0 : Int) (0 : Int))), .slice A97 (zl (g (0 : Int) (0 : Int))) c98])]) (c := #[.bool (neg (g (0 : Int) (0 : Int))), .slice A97 (zl (g (0 : Int) (0 : Int))) c98]) henv hst rfl Tryd.underlying32 (ty_anvil_integer_Int.size) zero_anvil_integer_Int (by decide) (by decide) rfl (by kernel_rfl) ?_)
        clear henv hst a; intro a w102 g101 henv hst
        refine seq_step rfl (op_appendS (k := 3) (j := 0) henv hst rfl Tryd.underlying32 inf_anvil_integer_Int rfl rfl rfl rfl rfl rfl rfl rfl rfl rfl rfl (by unfold maxLen; omega) (by omega) ?_)
        clear henv hst a; intro a w105 g103 c104 henv hst
        rw [show fl fN os ++ (#[.bool (neg (g (0 : Int) (0 : Int))), .slice A97 (zl (g (0 : Int) (0 : Int))) c98] : Array Value).toList = fl fN (os ++ [(A97, c98, (g (0 : Int) (0 : Int)))]) from fl_snoc (f := fN) os (A97, c98, (g (0 : Int) (0 : Int)))] at hst
        replace hst := hst.snocEs (e := (A97, c98, (g (0 : Int) (0 : Int)))) (i := 6) (j := 0) rfl rfl
        refine sv (v := .slice (some ⟨g103, 0, none⟩) (i + 1) c104) henv rfl (rn_assign henv rfl) ?_
        clear henv a; intro a henv
        refine wpList_nil ?_
        refine bl_n (th_n ?_)
        refine region_seq ?_
        revert a
        refine sA (v := .int .i64 (i + 1 : Nat)) rfl (fun _ henv => rn_add henv rfl rfl (by rw [IntWalk.i64_in _ (by omega)]; omega)) ?_
        refine mA rfl rfl ?_
        intro a henv
        refine wpList_nil ?_
        exact th_n ⟨_, (by omega), ⟨i + 1, (some ⟨g103, 0, none⟩), c104, (os ++ [(A97, c98, (g (0 : Int) (0 : Int)))]), rfl, henv.sub ⟨rfl, rfl, rfl, rfl, rfl, rfl, trivial⟩, hst.pick [3] [4, 5, 6, 0] (by decide), (by omega), (gF_step ho (by unfold gF; rw [hg0, hg1])), (fun h => absurd h (by omega))⟩⟩
  · have hin : i = max n0 n1 := by have := of_decide_eq_false hc52; omega
    refine wp_exit ?_
    refine th_x (th_x (bl_x (th_n ?_)))
    refine wp_seq ?_
    refine region_seq ?_
    revert a
    refine mA rfl rfl ?_
    refine aA rfl rfl ?_
    intro a henv
    refine wpList_nil ?_
    refine th_n ?_
    refine wp_ret ?_
    refine leave henv (res1 Tryd.results57 (RV.tmp henv rfl)) ?_
    exact ⟨_, rfl, ⟨_, _, os, congrArg (fun k => Value.slice _ k _) hin, (hin ▸ hst.newRow (k := 0) (j := 3) rfl rfl), (by have := congrArg List.length ho; simp at this; omega), (by rw [ho, hin]), fun h => hB (hin.trans h)⟩, hst.below⟩
set_option maxRecDepth 100000 in
set_option maxHeartbeats 2000000 in
theorem p_addN {A0 A1 : Option Addr} {n0 n1 c0 c1 : Nat} {es0 es1 : List NE} {xs ys : List Int} {w0 : World} (h0 : (pfRow fN FN 2 A0 n0 c0 es0).P w0) (hz0 : es0.map zz = xs) (h1 : (pfRow fN FN 2 A1 n1 c1 es1).P w0) (hz1 : es1.map zz = ys) (hk0 : Zk 1000 xs) (hk1 : Zk 1000 ys) (hn0 : n0 ≤ 100000) (hn1 : n1 ≤ 100000) :
    Calls Tryd.prog 20 #[.slice A0 n0 c0, .slice A1 n1 c1] w0 fun e w' => ∃ v, e = .returned v ∧ ZRowN w0.heap.size w' v (addF xs ys).length (addF xs ys) ∧ Below w0.heap.size w0 w' := by
  refine enter Tryd.func20 rfl Tryd.ntmps20 rfl ?_
  intro a henv hst
  have hlx : xs.length = n0 := by rw [← hz0, List.length_map]; exact h0.2.1
  have hly : ys.length = n1 := by rw [← hz1, List.length_map]; exact h1.2.1
  replace hst := (hst.argRow h1).argRow h0
  clear h0 h1
  refine wp_seq ?_
  refine region_seq ?_
  refine sv (v := .slice none 0 0) henv rfl (rn_assign henv rfl) ?_
  clear henv a; intro a henv
  refine wpList_nil ?_
  refine th_n ?_
  refine wp_seq ?_
  refine region_seq ?_
  revert a
  refine mA rfl rfl ?_
  refine mA rfl rfl ?_
  intro a henv
  refine seq_step rfl (op_call henv rfl Tryd.call57 rfl (p_placedG (E := pfT0) (g := (· + ·)) (first := #[]) (caps := #[]) (hst.pat (k := 0) rfl) hz0 (hst.pat (k := 1) rfl) hz1 trivial Tryd.call49 (fun _ _ _ _ _ _ _ h1 h2 _ q1 q2 => calls_app (by simp) (add_z q1 q2 (by omega) (by omega))) hk0 hk1 hn0 hn1) ?_)
  rintro e w58 ⟨_, rfl, ⟨A51, c52, es53, rfl, hr, hl54, hz55, hn56⟩, hb⟩
  refine ⟨_, rfl, ?_⟩
  clear henv a; intro a henv
  replace hst := hst.freshRow hb hr (ap_N hr.2.1 ⟨nou_rowS, trivial⟩)
  clear hr
  clear hb
  refine sv (v := .slice A51 (max n0 n1) c52) henv rfl (rn_assign henv rfl) ?_
  clear henv a; intro a henv
  refine wpList_nil ?_
  refine th_n ?_
  refine wp_ret ?_
  refine leave henv (res1 Tryd.results20 (RV.tmp henv rfl)) ?_
  have heq := (show ((List.range (max n0 n1)).map (gF (· + ·) xs ys)) = addF xs ys by rw [addF, hlx, hly]; rfl)
  have hle : max n0 n1 = (addF xs ys).length := (by rw [← heq, List.length_map, List.length_range])
  exact ⟨_, rfl, ⟨_, _, _, congrArg (fun k => Value.slice _ k _) hle, (hle ▸ hst.newRow (k := 0) (j := 0) rfl rfl), hl54.trans hle, hz55.trans heq, fun h => hn56 (hle.trans h)⟩, hst.below⟩
set_option maxRecDepth 100000 in
set_option maxHeartbeats 2000000 in
theorem p_subN {A0 A1 : Option Addr} {n0 n1 c0 c1 : Nat} {es0 es1 : List NE} {xs ys : List Int} {w0 : World} (h0 : (pfRow fN FN 2 A0 n0 c0 es0).P w0) (hz0 : es0.map zz = xs) (h1 : (pfRow fN FN 2 A1 n1 c1 es1).P w0) (hz1 : es1.map zz = ys) (hk0 : Zk 1000 xs) (hk1 : Zk 1000 ys) (hn0 : n0 ≤ 100000) (hn1 : n1 ≤ 100000) :
    Calls Tryd.prog 22 #[.slice A0 n0 c0, .slice A1 n1 c1] w0 fun e w' => ∃ v, e = .returned v ∧ ZRowN w0.heap.size w' v (subF xs ys).length (subF xs ys) ∧ Below w0.heap.size w0 w' := by
  refine enter Tryd.func22 rfl Tryd.ntmps22 rfl ?_
  intro a henv hst
  have hlx : xs.length = n0 := by rw [← hz0, List.length_map]; exact h0.2.1
  have hly : ys.length = n1 := by rw [← hz1, List.length_map]; exact h1.2.1
  replace hst := (hst.argRow h1).argRow h0
  clear h0 h1
  refine wp_seq ?_
  refine region_seq ?_
  refine sv (v := .slice none 0 0) henv rfl (rn_assign henv rfl) ?_
  clear henv a; intro a henv
  refine wpList_nil ?_
  refine th_n ?_
  refine wp_seq ?_
  refine region_seq ?_
  revert a
  refine mA rfl rfl ?_
  refine mA rfl rfl ?_
  intro a henv
  refine seq_step rfl (op_call henv rfl Tryd.call57 rfl (p_placedG (E := pfT0) (g := (· - ·)) (first := #[]) (caps := #[]) (hst.pat (k := 0) rfl) hz0 (hst.pat (k := 1) rfl) hz1 trivial Tryd.call58 (fun _ _ _ _ _ _ _ h1 h2 _ q1 q2 => calls_app (by simp) (sub_z q1 q2 (by omega) (by omega))) hk0 hk1 hn0 hn1) ?_)
  rintro e w58 ⟨_, rfl, ⟨A51, c52, es53, rfl, hr, hl54, hz55, hn56⟩, hb⟩
  refine ⟨_, rfl, ?_⟩
  clear henv a; intro a henv
  replace hst := hst.freshRow hb hr (ap_N hr.2.1 ⟨nou_rowS, trivial⟩)
  clear hr
  clear hb
  refine sv (v := .slice A51 (max n0 n1) c52) henv rfl (rn_assign henv rfl) ?_
  clear henv a; intro a henv
  refine wpList_nil ?_
  refine th_n ?_
  refine wp_ret ?_
  refine leave henv (res1 Tryd.results22 (RV.tmp henv rfl)) ?_
  have heq := (show ((List.range (max n0 n1)).map (gF (· - ·) xs ys)) = subF xs ys by rw [subF, hlx, hly]; rfl)
  have hle : max n0 n1 = (subF xs ys).length := (by rw [← heq, List.length_map, List.length_range])
  exact ⟨_, rfl, ⟨_, _, _, congrArg (fun k => Value.slice _ k _) hle, (hle ▸ hst.newRow (k := 0) (j := 0) rfl rfl), hl54.trans hle, hz55.trans heq, fun h => hn56 (hle.trans h)⟩, hst.below⟩
set_option maxRecDepth 100000 in
set_option maxHeartbeats 2000000 in
theorem p_mul_nil {A0 A1 : Option Addr} {n0 n1 c0 c1 : Nat} {es0 es1 : List NE} {xs ys : List Int} {w0 : World} (h0 : (pfRow fN FN 2 A0 n0 c0 es0).P w0) (hz0 : es0.map zz = xs) (h1 : (pfRow fN FN 2 A1 n1 c1 es1).P w0) (hz1 : es1.map zz = ys) (h00 : n0 = 0 ∨ n1 = 0) :
    Calls Tryd.prog 24 #[.slice A0 n0 c0, .slice A1 n1 c1] w0 fun e w' => e = .returned (.tuple #[.slice none 0 0, .int .i64 0]) ∧ Below w0.heap.size w0 w' := by
  refine enter Tryd.func24 rfl Tryd.ntmps24 rfl ?_
  intro a henv hst
  have hlx : xs.length = n0 := by rw [← hz0, List.length_map]; exact h0.2.1
  have hly : ys.length = n1 := by rw [← hz1, List.length_map]; exact h1.2.1
  replace hst := (hst.argRow h1).argRow h0
  clear h0 h1
  refine wp_seq ?_
  refine region_seq ?_
  revert a
  refine aA rfl rfl ?_
  refine aA rfl rfl ?_
  intro a henv
  refine wpList_nil ?_
  refine th_n ?_
  refine wp_seq ?_
  refine wp_seq ?_
  refine region_seq ?_
  revert a
  refine mA rfl rfl ?_
  refine sA (v := .int .i64 (n0 : Nat)) rfl (fun _ henv => rn_len henv Tryd.underlying32 rfl) ?_
  refine sA (v := .bool (((n0 : Nat) : Int) == (0 : Int))) rfl (fun _ henv => rn_bin henv rfl rfl rfl) ?_
  refine mA rfl rfl ?_
  intro a henv
  rcases bool_em (((n0 : Nat) : Int) == (0 : Int)) with hg51 | hg51
  · rw [hg51] at henv
    have hq52 := eq_of_beq hg51
    revert a
    refine kA rfl rfl rfl rfl rfl ?_
    refine kA rfl rfl rfl rfl rfl ?_
    refine kA rfl rfl rfl rfl rfl ?_
    refine sA (v := .bool true) rfl (fun _ henv => rn_pick henv rfl rfl) ?_
    intro a henv
    refine wpList_nil ?_
    refine th_n ?_
    refine if_t henv rfl (rfl) ?_
    refine wp_seq ?_
    refine region_seq ?_
    revert a
    refine aA rfl rfl ?_
    refine aA rfl rfl ?_
    intro a henv
    refine wpList_nil ?_
    refine th_n ?_
    refine wp_ret ?_
    refine th_r ?_
    refine leave henv (res2 Tryd.results24 (RV.tmp henv rfl) (RV.tmp henv rfl)) ?_
    exact ⟨rfl, hst.below⟩
  · rw [hg51] at henv
    have hq53 := ne_of_beq_false hg51
    revert a
    refine gA (v := .slice A1 n1 c1) rfl rfl rfl rfl (fun _ henv => rn_move henv rfl) ?_
    refine gA (v := .int .i64 (n1 : Nat)) rfl rfl rfl rfl (fun _ henv => rn_len henv Tryd.underlying32 rfl) ?_
    refine gA (v := .bool (((n1 : Nat) : Int) == (0 : Int))) rfl rfl rfl rfl (fun _ henv => rn_bin henv rfl rfl rfl) ?_
    refine sA (v := .bool (((n1 : Nat) : Int) == (0 : Int))) rfl (fun _ henv => rn_pick henv rfl rfl) ?_
    intro a henv
    refine wpList_nil ?_
    refine th_n ?_
    refine if_split henv rfl (fun hc54 => ?_) (fun hc54 => ?_)
    · have hq55 := eq_of_beq hc54
      refine wp_seq ?_
      refine region_seq ?_
      revert a
      refine aA rfl rfl ?_
      refine aA rfl rfl ?_
      intro a henv
      refine wpList_nil ?_
      refine th_n ?_
      refine wp_ret ?_
      refine th_r ?_
      refine leave henv (res2 Tryd.results24 (RV.tmp henv rfl) (RV.tmp henv rfl)) ?_
      exact ⟨rfl, hst.below⟩
    · have hq56 := ne_of_beq_false hc54
      exfalso; omega
set_option maxRecDepth 100000 in
set_option maxHeartbeats 4000000 in
theorem p_shift_neg {A0 : Option Addr} {n0 c0 : Nat} {es0 : List NE} {xs : List Int} {n : Int} {w0 : World} (h0 : (pfRow fN FN 2 A0 n0 c0 es0).P w0) (hz0 : es0.map zz = xs) (hq : n < 0) :
    Calls Tryd.prog 25 #[.slice A0 n0 c0, .int .i64 n] w0 fun e w' => e = .returned (.tuple #[.slice none 0 0, .int .i64 2]) ∧ Below w0.heap.size w0 w' := by
  refine enter Tryd.func25 rfl Tryd.ntmps25 rfl ?_
  intro a henv hst
  have hlen0 := h0.2.1
  have hbig0 := Nat.le_trans h0.1.cap h0.1.big
  unfold maxLen at hbig0
  replace hst := hst.argRow h0
  clear h0
  have hlx : xs.length = n0 := by rw [← hz0, List.length_map]; exact hlen0
  refine wp_seq ?_
  refine region_seq ?_
  revert a
  refine aA rfl rfl ?_
  refine aA rfl rfl ?_
  intro a henv
  refine wpList_nil ?_
  refine th_n ?_
  refine wp_seq ?_
  refine wp_seq ?_
  refine region_seq ?_
  revert a
  refine mA rfl rfl ?_
  refine sA (v := .bool (decide (n < (0 : Int)))) rfl (fun _ henv => rn_bin henv rfl rfl rfl) ?_
  intro a henv
  rw [show (decide (n < (0 : Int))) = true from (decide_eq_true (by omega))] at henv
  refine wpList_nil ?_
  refine th_n ?_
  refine if_t henv rfl (rfl) ?_
  refine wp_seq ?_
  refine region_seq ?_
  revert a
  refine aA rfl rfl ?_
  refine aA rfl rfl ?_
  intro a henv
  refine wpList_nil ?_
  refine th_n ?_
  refine wp_ret ?_
  refine th_r ?_
  refine leave henv (res2 Tryd.results25 (RV.tmp henv rfl) (RV.tmp henv rfl)) ?_
  exact ⟨rfl, hst.below⟩
set_option maxRecDepth 100000 in
set_option maxHeartbeats 4000000 in
theorem p_shift_big {A0 : Option Addr} {n0 c0 : Nat} {es0 : List NE} {xs : List Int} {n : Int} {w0 : World} (h0 : (pfRow fN FN 2 A0 n0 c0 es0).P w0) (hz0 : es0.map zz = xs) (hq : 4096 < n) :
    Calls Tryd.prog 25 #[.slice A0 n0 c0, .int .i64 n] w0 fun e w' => e = .returned (.tuple #[.slice none 0 0, .int .i64 3]) ∧ Below w0.heap.size w0 w' := by
  refine enter Tryd.func25 rfl Tryd.ntmps25 rfl ?_
  intro a henv hst
  have hlen0 := h0.2.1
  have hbig0 := Nat.le_trans h0.1.cap h0.1.big
  unfold maxLen at hbig0
  replace hst := hst.argRow h0
  clear h0
  have hlx : xs.length = n0 := by rw [← hz0, List.length_map]; exact hlen0
  refine wp_seq ?_
  refine region_seq ?_
  revert a
  refine aA rfl rfl ?_
  refine aA rfl rfl ?_
  intro a henv
  refine wpList_nil ?_
  refine th_n ?_
  refine wp_seq ?_
  refine wp_seq ?_
  refine region_seq ?_
  revert a
  refine mA rfl rfl ?_
  refine sA (v := .bool (decide (n < (0 : Int)))) rfl (fun _ henv => rn_bin henv rfl rfl rfl) ?_
  intro a henv
  rw [show (decide (n < (0 : Int))) = false from (decide_eq_false (by omega))] at henv
  refine wpList_nil ?_
  refine th_n ?_
  refine if_f henv rfl (rfl) ?_
  refine wp_skip ?_
  refine th_n ?_
  refine wp_seq ?_
  refine wp_seq ?_
  refine region_seq ?_
  revert a
  refine mA rfl rfl ?_
  refine sA (v := .bool (decide (n > (4096 : Int)))) rfl (fun _ henv => rn_bin henv rfl rfl rfl) ?_
  intro a henv
  rw [show (decide (n > (4096 : Int))) = true from (decide_eq_true (by omega))] at henv
  refine wpList_nil ?_
  refine th_n ?_
  refine if_t henv rfl (rfl) ?_
  refine wp_seq ?_
  refine region_seq ?_
  revert a
  refine aA rfl rfl ?_
  refine aA rfl rfl ?_
  intro a henv
  refine wpList_nil ?_
  refine th_n ?_
  refine wp_ret ?_
  refine th_r ?_
  refine leave henv (res2 Tryd.results25 (RV.tmp henv rfl) (RV.tmp henv rfl)) ?_
  exact ⟨rfl, hst.below⟩
set_option maxRecDepth 100000 in
set_option maxHeartbeats 4000000 in
theorem p_shift_nil {A0 : Option Addr} {n0 c0 : Nat} {es0 : List NE} {xs : List Int} {n : Nat} {w0 : World} (h0 : (pfRow fN FN 2 A0 n0 c0 es0).P w0) (hz0 : es0.map zz = xs) (hq : n + n0 = 0) :
    Calls Tryd.prog 25 #[.slice A0 n0 c0, .int .i64 (n : Nat)] w0 fun e w' => ∃ v, e = .returned (.tuple #[v, .int .i64 0]) ∧ ZRowN w0.heap.size w' v (n + n0) (List.replicate n 0 ++ xs) ∧ Below w0.heap.size w0 w' := by
  refine enter Tryd.func25 rfl Tryd.ntmps25 rfl ?_
  intro a henv hst
  have hlen0 := h0.2.1
  have hbig0 := Nat.le_trans h0.1.cap h0.1.big
  unfold maxLen at hbig0
  replace hst := hst.argRow h0
  clear h0
  have hlx : xs.length = n0 := by rw [← hz0, List.length_map]; exact hlen0
  refine wp_seq ?_
  refine region_seq ?_
  revert a
  refine aA rfl rfl ?_
  refine aA rfl rfl ?_
  intro a henv
  refine wpList_nil ?_
  refine th_n ?_
  refine wp_seq ?_
  refine wp_seq ?_
  refine region_seq ?_
  revert a
  refine mA rfl rfl ?_
  refine sA (v := .bool (decide (((n : Nat) : Int) < (0 : Int)))) rfl (fun _ henv => rn_bin henv rfl rfl rfl) ?_
  intro a henv
  rw [show (decide (((n : Nat) : Int) < (0 : Int))) = false from (decide_eq_false (by omega))] at henv
  refine wpList_nil ?_
  refine th_n ?_
  refine if_f henv rfl (rfl) ?_
  refine wp_skip ?_
  refine th_n ?_
  refine wp_seq ?_
  refine wp_seq ?_
  refine region_seq ?_
  revert a
  refine mA rfl rfl ?_
  refine sA (v := .bool (decide (((n : Nat) : Int) > (4096 : Int)))) rfl (fun _ henv => rn_bin henv rfl rfl rfl) ?_
  intro a henv
  rw [show (decide (((n : Nat) : Int) > (4096 : Int))) = false from (decide_eq_false (by omega))] at henv
  refine wpList_nil ?_
  refine th_n ?_
  refine if_f henv rfl (rfl) ?_
  refine wp_skip ?_
  refine th_n ?_
  refine wp_seq ?_
  refine wp_seq ?_
  refine region_seq ?_
  revert a
  refine mA rfl rfl ?_
  refine mA rfl rfl ?_
  refine sA (v := .int .i64 (n0 : Nat)) rfl (fun _ henv => rn_len henv Tryd.underlying32 rfl) ?_
  refine sA (v := .int .i64 (n + n0 : Nat)) rfl (fun _ henv => rn_add henv rfl rfl (by rw [IntWalk.i64_in _ (by omega)]; omega)) ?_
  refine sA (v := .bool (((n + n0 : Nat) : Int) == (0 : Int))) rfl (fun _ henv => rn_bin henv rfl rfl rfl) ?_
  intro a henv
  rw [show (((n + n0 : Nat) : Int) == (0 : Int)) = true from (by have e1 : n + n0 = 0 := hq; rw [e1]; rfl)] at henv
  refine wpList_nil ?_
  refine th_n ?_
  refine if_t henv rfl (rfl) ?_
  refine wp_seq ?_
  refine region_seq ?_
  revert a
  refine aA rfl rfl ?_
  refine aA rfl rfl ?_
  intro a henv
  refine wpList_nil ?_
  refine th_n ?_
  refine wp_ret ?_
  refine th_r ?_
  refine leave henv (res2 Tryd.results25 (RV.tmp henv rfl) (RV.tmp henv rfl)) ?_
  exact ⟨_, rfl, zrown_nil hq (List.eq_nil_of_length_eq_zero (by rw [List.length_append, List.length_replicate, hlx]; exact hq)), hst.below⟩
set_option maxRecDepth 100000 in
set_option maxHeartbeats 4000000 in
theorem p_shift_e {A0 : Option Addr} {c0 : Nat} {es0 : List NE} {xs : List Int} {n : Nat} {w0 : World} (h0 : (pfRow fN FN 2 A0 0 c0 es0).P w0) (hz0 : es0.map zz = xs) (hn : n ≤ 4096) (hq : n ≠ 0) :
    Calls Tryd.prog 25 #[.slice A0 0 c0, .int .i64 (n : Nat)] w0 fun e w' => ∃ v, e = .returned (.tuple #[v, .int .i64 0]) ∧ ZRowN w0.heap.size w' v n (List.replicate n 0 ++ xs) ∧ Below w0.heap.size w0 w' := by
  refine enter Tryd.func25 rfl Tryd.ntmps25 rfl ?_
  intro a henv hst
  have hlen0 := h0.2.1
  replace hst := hst.argRow h0
  clear h0
  have hlx : xs.length = 0 := by rw [← hz0, List.length_map]; exact hlen0
  have hz := hlen0
  replace hz : 0 = 0 := rfl
  refine wp_seq ?_
  refine region_seq ?_
  revert a
  refine aA rfl rfl ?_
  refine aA rfl rfl ?_
  intro a henv
  refine wpList_nil ?_
  refine th_n ?_
  refine wp_seq ?_
  refine wp_seq ?_
  refine region_seq ?_
  revert a
  refine mA rfl rfl ?_
  refine sA (v := .bool (decide (((n : Nat) : Int) < (0 : Int)))) rfl (fun _ henv => rn_bin henv rfl rfl rfl) ?_
  intro a henv
  rw [show (decide (((n : Nat) : Int) < (0 : Int))) = false from (decide_eq_false (by omega))] at henv
  refine wpList_nil ?_
  refine th_n ?_
  refine if_f henv rfl (rfl) ?_
  refine wp_skip ?_
  refine th_n ?_
  refine wp_seq ?_
  refine wp_seq ?_
  refine region_seq ?_
  revert a
  refine mA rfl rfl ?_
  refine sA (v := .bool (decide (((n : Nat) : Int) > (4096 : Int)))) rfl (fun _ henv => rn_bin henv rfl rfl rfl) ?_
  intro a henv
  rw [show (decide (((n : Nat) : Int) > (4096 : Int))) = false from (decide_eq_false (by omega))] at henv
  refine wpList_nil ?_
  refine th_n ?_
  refine if_f henv rfl (rfl) ?_
  refine wp_skip ?_
  refine th_n ?_
  refine wp_seq ?_
  refine wp_seq ?_
  refine region_seq ?_
  revert a
  refine mA rfl rfl ?_
  refine mA rfl rfl ?_
  refine sA (v := .int .i64 0) rfl (fun _ henv => rn_len henv Tryd.underlying32 rfl) ?_
  refine sA (v := .int .i64 (n + 0 : Nat)) rfl (fun _ henv => rn_add henv rfl rfl (by rw [IntWalk.i64_in _ (by omega)]; omega)) ?_
  refine sA (v := .bool (((n + 0 : Nat) : Int) == (0 : Int))) rfl (fun _ henv => rn_bin henv rfl rfl rfl) ?_
  intro a henv
  rw [show (((n + 0 : Nat) : Int) == (0 : Int)) = false from (beq_eq_false_iff_ne.2 (by omega))] at henv
  refine wpList_nil ?_
  refine th_n ?_
  refine if_f henv rfl (rfl) ?_
  refine wp_skip ?_
  refine th_n ?_
  refine wp_seq ?_
  refine region_seq ?_
  revert a
  refine mA rfl rfl ?_
  refine mA rfl rfl ?_
  refine mA rfl rfl ?_
  refine sA (v := .int .i64 0) rfl (fun _ henv => rn_len henv Tryd.underlying32 rfl) ?_
  refine sA (v := .int .i64 (n + 0 : Nat)) rfl (fun _ henv => rn_add henv rfl rfl (by rw [IntWalk.i64_in _ (by omega)]; omega)) ?_
  intro a henv
  refine seq_step rfl (op_makeC (f := fN) (e0 := (none, 0, 0)) (q := notU) (n := n) (m := n + 0) henv hst rfl Tryd.underlying32 inf_anvil_integer_Int rfl rfl fN_zero rfl rfl rfl (by omega) (by omega) (by unfold maxLen; omega) ?_)
  clear henv hst a; intro a w52 g51 henv hst
  replace hst := hst.addNs (es_zeros (n + 0) _) ⟨nou_rowS, trivial⟩
  have hdone := trivial
  replace hst := hst.preOwn (k := 0) rfl List.length_replicate n fN_len (by omega)
  rw [List.take_replicate, Nat.min_eq_left (by omega)] at hst
  replace hst := hst.addNs (es_zeros n _) ⟨nou_rowS, trivial⟩
  replace hst : St w0 _ [rowS notU 28 2 (some ⟨g51, 0, none⟩) n (n + 0) (fl fN (List.replicate n (none, 0, 0)))] [pfEs FN (List.replicate n (none, 0, 0)), pfEs FN (List.replicate (n + 0) (none, 0, 0)), pfRow fN FN 2 A0 0 c0 es0] := hst
  refine sv (v := .slice A0 0 c0) henv rfl (rn_move henv rfl) ?_
  clear henv a; intro a henv
  refine seq_step rfl (op_appendR0 (k := 0) henv hst rfl Tryd.underlying32 (ty_anvil_integer_Int.size) rfl rfl rfl ?_)
  clear henv a; intro a henv
  revert a
  refine aA rfl rfl ?_
  refine aA rfl rfl ?_
  intro a henv
  refine wpList_nil ?_
  refine th_n ?_
  refine wp_ret ?_
  refine leave henv (res2 Tryd.results25 (RV.tmp henv rfl) (RV.tmp henv rfl)) ?_
  exact ⟨_, rfl, ⟨_, _, (List.replicate n (none, 0, 0)), rfl, hst.newRow (k := 0) (j := 0) rfl rfl, (by simp), (by rw [List.map_replicate, show xs = [] from List.eq_nil_of_length_eq_zero hlx, List.append_nil]), fun h => absurd h hq⟩, hst.below⟩
set_option maxRecDepth 100000 in
set_option maxHeartbeats 4000000 in
theorem p_shift_ok {A0 : Option Addr} {n0 c0 : Nat} {es0 : List NE} {xs : List Int} {n : Nat} {w0 : World} (h0 : (pfRow fN FN 2 A0 n0 c0 es0).P w0) (hz0 : es0.map zz = xs) (hn : n ≤ 4096) (hn0 : n0 ≤ 100000) (hz : 0 < n0) (hq : n + n0 ≠ 0) :
    Calls Tryd.prog 25 #[.slice A0 n0 c0, .int .i64 (n : Nat)] w0 fun e w' => ∃ v, e = .returned (.tuple #[v, .int .i64 0]) ∧ ZRowN w0.heap.size w' v (n + n0) (List.replicate n 0 ++ xs) ∧ Below w0.heap.size w0 w' := by
  refine enter Tryd.func25 rfl Tryd.ntmps25 rfl ?_
  intro a henv hst
  have hlen0 := h0.2.1
  have hbig0 := Nat.le_trans h0.1.cap h0.1.big
  unfold maxLen at hbig0
  replace hst := hst.argRow h0
  clear h0
  have hlx : xs.length = n0 := by rw [← hz0, List.length_map]; exact hlen0
  refine wp_seq ?_
  refine region_seq ?_
  revert a
  refine aA rfl rfl ?_
  refine aA rfl rfl ?_
  intro a henv
  refine wpList_nil ?_
  refine th_n ?_
  refine wp_seq ?_
  refine wp_seq ?_
  refine region_seq ?_
  revert a
  refine mA rfl rfl ?_
  refine sA (v := .bool (decide (((n : Nat) : Int) < (0 : Int)))) rfl (fun _ henv => rn_bin henv rfl rfl rfl) ?_
  intro a henv
  rw [show (decide (((n : Nat) : Int) < (0 : Int))) = false from (decide_eq_false (by omega))] at henv
  refine wpList_nil ?_
  refine th_n ?_
  refine if_f henv rfl (rfl) ?_
  refine wp_skip ?_
  refine th_n ?_
  refine wp_seq ?_
  refine wp_seq ?_
  refine region_seq ?_
  revert a
  refine mA rfl rfl ?_
  refine sA (v := .bool (decide (((n : Nat) : Int) > (4096 : Int)))) rfl (fun _ henv => rn_bin henv rfl rfl rfl) ?_
  intro a henv
  rw [show (decide (((n : Nat) : Int) > (4096 : Int))) = false from (decide_eq_false (by omega))] at henv
  refine wpList_nil ?_
  refine th_n ?_
  refine if_f henv rfl (rfl) ?_
  refine wp_skip ?_
  refine th_n ?_
  refine wp_seq ?_
  refine wp_seq ?_
  refine region_seq ?_
  revert a
  refine mA rfl rfl ?_
  refine mA rfl rfl ?_
  refine sA (v := .int .i64 (n0 : Nat)) rfl (fun _ henv => rn_len henv Tryd.underlying32 rfl) ?_
  refine sA (v := .int .i64 (n + n0 : Nat)) rfl (fun _ henv => rn_add henv rfl rfl (by rw [IntWalk.i64_in _ (by omega)]; omega)) ?_
  refine sA (v := .bool (((n + n0 : Nat) : Int) == (0 : Int))) rfl (fun _ henv => rn_bin henv rfl rfl rfl) ?_
  intro a henv
  rw [show (((n + n0 : Nat) : Int) == (0 : Int)) = false from (beq_eq_false_iff_ne.2 (by omega))] at henv
  refine wpList_nil ?_
  refine th_n ?_
  refine if_f henv rfl (rfl) ?_
  refine wp_skip ?_
  refine th_n ?_
  refine wp_seq ?_
  refine region_seq ?_
  revert a
  refine mA rfl rfl ?_
  refine mA rfl rfl ?_
  refine mA rfl rfl ?_
  refine sA (v := .int .i64 (n0 : Nat)) rfl (fun _ henv => rn_len henv Tryd.underlying32 rfl) ?_
  refine sA (v := .int .i64 (n + n0 : Nat)) rfl (fun _ henv => rn_add henv rfl rfl (by rw [IntWalk.i64_in _ (by omega)]; omega)) ?_
  intro a henv
  refine seq_step rfl (op_makeC (f := fN) (e0 := (none, 0, 0)) (q := notU) (n := n) (m := n + n0) henv hst rfl Tryd.underlying32 inf_anvil_integer_Int rfl rfl fN_zero rfl rfl rfl (by omega) (by omega) (by unfold maxLen; omega) ?_)
  clear henv hst a; intro a w52 g51 henv hst
  replace hst := hst.addNs (es_zeros (n + n0) _) ⟨nou_rowS, trivial⟩
  have hdone := trivial
  replace hst := hst.preOwn (k := 0) rfl List.length_replicate n fN_len (by omega)
  rw [List.take_replicate, Nat.min_eq_left (by omega)] at hst
  replace hst := hst.addNs (es_zeros n _) ⟨nou_rowS, trivial⟩
  replace hst : St w0 _ [rowS notU 28 2 (some ⟨g51, 0, none⟩) n (n + n0) (fl fN (List.replicate n (none, 0, 0)))] [pfEs FN (List.replicate n (none, 0, 0)), pfEs FN (List.replicate (n + n0) (none, 0, 0)), pfRow fN FN 2 A0 n0 c0 es0] := hst
  refine sv (v := .slice A0 n0 c0) henv rfl (rn_move henv rfl) ?_
  clear henv a; intro a henv
  refine seq_step rfl (op_appendR (k := 0) henv hst rfl Tryd.underlying32 inf_anvil_integer_Int rfl rfl rfl rfl rfl (hst.pat (k := 2) rfl).1 (fl_all (fun _ => rfl) _) (fl_all (fun _ => rfl) _) rfl (by omega) (by unfold maxLen; omega) (by omega) ?_)
  clear henv hst a; intro a w55 g53 c54 henv hst
  rw [show fl fN (List.replicate n (none, 0, 0)) ++ fl fN es0 = fl fN ((List.replicate n (none, 0, 0)) ++ es0) from (fl_app (f := fN) (List.replicate n (none, 0, 0)) es0).symm] at hst
  replace hst := hst.rowEs (i := 2) rfl
  replace hst := hst.appEs (i := 1) (j := 0) rfl rfl
  replace hst : St w0 _ [rowS notU 28 2 (some ⟨g53, 0, none⟩) (n + n0) c54 (fl fN ((List.replicate n (none, 0, 0)) ++ es0))] [pfEs FN ((List.replicate n (none, 0, 0)) ++ es0), pfEs FN es0, pfEs FN (List.replicate n (none, 0, 0)), pfEs FN (List.replicate (n + n0) (none, 0, 0)), pfRow fN FN 2 A0 n0 c0 es0] := hst
  revert a
  refine aA rfl rfl ?_
  refine aA rfl rfl ?_
  intro a henv
  refine wpList_nil ?_
  refine th_n ?_
  refine wp_ret ?_
  refine leave henv (res2 Tryd.results25 (RV.tmp henv rfl) (RV.tmp henv rfl)) ?_
  exact ⟨_, rfl, ⟨_, _, ((List.replicate n (none, 0, 0)) ++ es0), rfl, hst.newRow (k := 0) (j := 0) rfl rfl, (by simp; omega), (by rw [List.map_append, List.map_replicate, hz0]), fun h => absurd h hq⟩, hst.below⟩
end Go.Proofs.YtghaenkacjgdnaaDoor.W

/- PolyRing, PolyValues: the laws' walks. Printed by pv/gen_po5.py. No condition. -/
namespace Go.Proofs.YtghaenkacjgdnaaDoor.W
open Go.RowKit Anv Go.Lib
theorem sg_zl {f : Nat → Int} {d : Nat} (h : ∀ i, zl (f i) ≤ d) : ∀ n, zl (sg f n) ≤ d + n
  | 0 => by rw [sg, zl_zero]; exact Nat.zero_le _
  | n + 1 => by
    rw [sg]
    have := zl_addm (sg f n) (f n)
    have := sg_zl h n
    have := h n
    omega
theorem pow16 {A : Option Addr} {c n : Nat} {x : Int} {w : World} (hx : ZIn w A c x) (hI : I16 x) (hn : n ≤ 40) :
    Calls Tryd.prog 41 #[.agg #[.bool (neg x), .slice A (zl x) c], .int .i64 n] w fun r w' => ∃ v, r = .returned (.tuple #[v, .int .i64 0]) ∧ ZAt w' v (x ^ n) ∧ Below w.heap.size w w' := by
  have hl : zl x ≤ 1000 := Nat.le_trans (zl_16 hI) (by decide)
  have hI' : -16 ≤ x ∧ x ≤ 16 := hI
  have hb5 : blen x.natAbs ≤ 5 := blen_le (by omega)
  rcases Nat.eq_zero_or_pos (blen x.natAbs) with h0 | h0
  · have hx0 : x = 0 := by
      have := lt_blen x.natAbs
      rw [h0] at this
      omega
    rcases Nat.eq_zero_or_pos n with hn0 | hn0
    · exact pow_zero_a hx hl (by omega) h0 (by rw [hx0]; rfl) (by rw [hn0]; rfl) (by rw [hn0, Int.pow_zero])
    · exact pow_zero_d hx hl (by omega) h0 (by rw [hx0]; rfl) (beq_eq_false_iff_ne.2 (by omega)) (by rw [hx0]; rfl) (by rw [hx0, zero_pow (by omega)])
  rcases Nat.lt_or_ge 1 (blen x.natAbs) with h1 | h1
  · have hq : (n : Int) ≤ (65536 : Int) / ((blen x.natAbs : Nat) : Int) := by
      rw [Int.le_ediv_iff_mul_le (by omega)]
      have := Nat.mul_le_mul hn hb5
      rw [← Int.natCast_mul]
      omega
    exact pow_big hx hl (by omega) rfl h1 hq fun j hj => Nat.le_trans (zl_p16 hI j) (by omega)
  · have hb1 : blen x.natAbs = 1 := by omega
    have ht := tiny (x := x) (by omega)
    have hs : (x.sign == 0) = false := by
      rcases ht with rfl | rfl | rfl
      · simp [blen] at h0
      · rfl
      · rfl
    rcases Nat.eq_zero_or_pos n with hn0 | hn0
    · exact pow_one_a hx hl (by omega) hb1 hs (by rw [hn0]; rfl) (by rw [hn0, Int.pow_zero])
    · have hne : ((n : Int) == 0) = false := beq_eq_false_iff_ne.2 (by omega)
      rcases ht with rfl | rfl | rfl
      · simp at hs
      · exact pow_one_d hx hl (by omega) hb1 hs hne rfl (one_pow n)
      · rcases Nat.mod_two_eq_zero_or_one n with h2 | h2
        · exact pow_one_b hx hl (by omega) hb1 hs hne rfl (beq_iff_eq.2 (by omega)) (by rw [mone_pow, if_pos h2])
        · exact pow_one_c hx hl (by omega) hb1 hs hne rfl (beq_eq_false_iff_ne.2 (by omega)) (by rw [mone_pow, if_neg (by omega)])
end Go.Proofs.YtghaenkacjgdnaaDoor.W

/- The reference's polynomials; poly.Scale. Printed by pv/gen_po6.py. No condition. -/
namespace Go.Proofs.YtghaenkacjgdnaaDoor.W
open Go.RowKit Anv Go.Lib
theorem scale_eq (xs : List Int) (m : Int) : (List.range xs.length).map (gF (fun x _ => x * m) xs []) = xs.map (· * m) := by
  refine co_ext (by simp) fun k => ?_
  rcases Nat.lt_or_ge k xs.length with h | h
  · rw [co_map h, gF, co, List.getD_eq_getElem?_getD, List.getD_eq_getElem?_getD, List.getElem?_map, List.getElem?_eq_getElem h]
    rfl
  · rw [co_off (by simpa using h), co_off (by simpa using h)]
set_option maxRecDepth 100000 in
set_option maxHeartbeats 2000000 in
theorem p_scale1 {g1 : Nat} {A B M : Option Addr} {c d e : Nat} {x y m : Int} {w0 : World} (hE : (pfAnd (bk g1 #[.bool (neg m), .slice M (zl m) d] 28) (pfZ M d m)).P w0) (hx : ZIn w0 A c x) (hy : ZIn w0 B e y) (hm : zl m ≤ 1000) (hx1 : zl x ≤ 1000) :
    Calls Tryd.prog 66 #[.agg #[.bool (neg x), .slice A (zl x) c], .agg #[.bool (neg y), .slice B (zl y) e], .pointer (some ⟨g1, 0, none⟩)] w0 fun e w' => ∃ v, e = .returned v ∧ ZAt w' v (x * m) ∧ Below w0.heap.size w0 w' := by
  refine enter Tryd.func66 rfl Tryd.ntmps66 rfl ?_
  intro a henv hst
  obtain ⟨hb1, hM⟩ := hE
  replace hst := hst.argP (bk g1 #[.bool (neg m), .slice M (zl m) d] 28) hb1
  replace hst := hst.addZ hM trivial
  replace hst := hst.addZ hx trivial
  replace hst := hst.addZ hy trivial
  replace hst : St w0 _ [] [pfZ B e y, pfZ A c x, pfZ M d m, bk g1 #[.bool (neg m), .slice M (zl m) d] 28] := hst
  refine wp_seq ?_
  refine region_seq ?_
  refine seq_step rfl (op_box (c := #[.bool (neg x), .slice A (zl x) c]) henv hst rfl rfl rfl ?_)
  clear henv hst a; intro a w52 g51 henv hst
  refine seq_step rfl (op_box (c := #[.bool (neg y), .slice B (zl y) e]) henv hst rfl rfl rfl ?_)
  clear henv hst a; intro a w54 g53 henv hst
  refine seq_step rfl (op_alloc (c := #[.bool (neg 0), .slice none (zl 0) 0]) henv hst rfl zero_anvil_integer_Int zcells ?_)
  clear henv hst a; intro a w56 g55 henv hst
  refine wpList_nil ?_
  refine th_n ?_
  refine wp_seq ?_
  refine region_seq ?_
  revert a
  refine sA (v := .agg #[.bool (neg x), .slice A (zl x) c]) rfl (fun _ henv => rn_load0 henv ty_anvil_integer_Int rfl (hst.oat (k := 2) rfl) rfl) ?_
  refine sA (v := .agg #[.bool (neg m), .slice M (zl m) d]) rfl (fun _ henv => rn_load0 henv ty_anvil_integer_Int rfl (bkP (hst.pat (k := 3) rfl)) rfl) ?_
  intro a henv
  have hs57 := zl_mul x m
  refine seq_step rfl (op_call henv rfl Tryd.call43 rfl (mul_z (x := x) (y := m) (show ZIn _ A c x from hst.pat (k := 1) rfl) (show ZIn _ M d m from hst.pat (k := 2) rfl) (by omega) (by omega)) ?_)
  rintro e w61 ⟨_, rfl, ⟨A58, c59, rfl, hz60⟩, hb⟩
  refine ⟨_, rfl, ?_⟩
  clear henv a; intro a henv
  replace hst := (hst.call hb).addZ hz60 ⟨nou_bk rfl, nou_bk rfl, nou_bk rfl, trivial⟩
  clear hz60
  clear hb
  refine seq_step rfl (op_store (k := 0) (c' := #[.bool (neg (x * m)), .slice A58 (zl (x * m)) c59]) henv hst (ty_anvil_integer_Int.size) rfl rfl rfl rfl (by simp) rfl rfl ?_)
  clear henv hst a; intro a w62 henv hst
  refine wpList_nil ?_
  refine th_n ?_
  refine wp_ret ?_
  refine leave henv (res1 Tryd.results66 (RV.cell henv ty_anvil_integer_Int rfl (hst.oat (k := 0) rfl) rfl)) ?_
  exact ⟨_, rfl, ⟨_, _, rfl, hst.pat (k := 0) rfl⟩, hst.below⟩
set_option maxRecDepth 100000 in
set_option maxHeartbeats 2000000 in
theorem p_scale {A0 : Option Addr} {n0 c0 : Nat} {es0 : List NE} {xs : List Int} {M : Option Addr} {d : Nat} {m : Int} {w0 : World} (h0 : (pfRow fN FN 2 A0 n0 c0 es0).P w0) (hz0 : es0.map zz = xs) (hM : ZIn w0 M d m) (hm : zl m ≤ 1000) (hk0 : Zk 1000 xs) (hn0 : n0 ≤ 100000) :
    Calls Tryd.prog 33 #[.slice A0 n0 c0, .agg #[.bool (neg m), .slice M (zl m) d]] w0 fun e w' => ∃ v, e = .returned v ∧ ZRowN w0.heap.size w' v n0 (xs.map (· * m)) ∧ Below w0.heap.size w0 w' := by
  refine enter Tryd.func33 rfl Tryd.ntmps33 rfl ?_
  intro a henv hst
  replace hst := hst.addZ hM trivial
  have hlen0 := h0.2.1
  have hbig0 := Nat.le_trans h0.1.cap h0.1.big
  unfold maxLen at hbig0
  replace hst := hst.argRow h0
  clear h0
  have hlx : xs.length = n0 := by rw [← hz0, List.length_map]; exact hlen0
  replace hst : St w0 _ [] [pfRow fN FN 2 A0 n0 c0 es0, pfZ M d m] := hst
  refine wp_seq ?_
  refine region_seq ?_
  refine seq_step rfl (op_box (c := #[.bool (neg m), .slice M (zl m) d]) henv hst rfl rfl rfl ?_)
  clear henv hst a; intro a w52 g51 henv hst
  refine sv (v := .slice none 0 0) henv rfl (rn_assign henv rfl) ?_
  clear henv a; intro a henv
  refine wpList_nil ?_
  refine th_n ?_
  refine wp_seq ?_
  replace hst := hst.giveB (k := 0) rfl
  replace hst : St w0 _ [] [bk g51 #[.bool (neg m), .slice M (zl m) d] 28, pfRow fN FN 2 A0 n0 c0 es0, pfZ M d m] := hst
  refine region_seq ?_
  revert a
  refine mA rfl rfl ?_
  refine sA (v := .func (.func 66) #[] #[.pointer (some ⟨g51, 0, none⟩)]) rfl (fun _ henv => rn_makeFuncB (us := #[]) (vs := #[.pointer (some ⟨g51, 0, none⟩)]) henv rfl rfl) ?_
  intro a henv
  refine seq_step rfl (op_call henv rfl Tryd.call57 rfl (p_placedG (E := (pfAnd (bk g51 #[.bool (neg m), .slice M (zl m) d] 28) (pfZ M d m))) (g := (fun x _ => x * m)) (first := #[]) (caps := #[.pointer (some ⟨g51, 0, none⟩)]) (hst.pat (k := 1) rfl) hz0 (row_nil fN FN 2 _) (es1 := []) (ys := []) rfl ⟨hst.pat (k := 0) rfl, hst.pat (k := 2) rfl⟩ Tryd.call66 (fun _ _ _ _ _ _ _ q1 _ q3 hx hy => calls_app (by simp) (p_scale1 q3 hx hy hm q1)) hk0 (fun _ h => by cases h) hn0 (Nat.zero_le _)) ?_)
  rintro e w60 ⟨_, rfl, ⟨A53, c54, es55, rfl, hr, hl56, hz57, hn58⟩, hb⟩
  refine ⟨_, rfl, ?_⟩
  clear henv a; intro a henv
  replace hst := hst.freshRow hb hr (ap_N hr.2.1 ⟨nou_rowS, trivial⟩)
  clear hr
  clear hb
  refine sv (v := .slice A53 (max n0 0) c54) henv rfl (rn_assign henv rfl) ?_
  clear henv a; intro a henv
  refine wpList_nil ?_
  refine th_n ?_
  refine wp_ret ?_
  refine leave henv (res1 Tryd.results33 (RV.tmp henv rfl)) ?_
  have hle : max n0 0 = n0 := by omega
  have heq : (List.range (max n0 0)).map (gF (fun x _ => x * m) xs []) = xs.map (· * m) := by rw [hle, ← hlx]; exact scale_eq xs m
  exact ⟨_, rfl, ⟨_, _, _, congrArg (fun k => Value.slice _ k _) hle, (hle ▸ hst.newRow (k := 0) (j := 0) rfl rfl), hl56.trans hle, hz57.trans heq, fun h => hn58 (hle.trans h)⟩, hst.below⟩
theorem p_shift {A0 : Option Addr} {n0 c0 : Nat} {es0 : List NE} {xs : List Int} {n : Nat} {w0 : World} (h0 : (pfRow fN FN 2 A0 n0 c0 es0).P w0) (hz0 : es0.map zz = xs) (hn : n ≤ 4096) (hn0 : n0 ≤ 100000) :
    Calls Tryd.prog 25 #[.slice A0 n0 c0, .int .i64 (n : Nat)] w0 fun e w' => ∃ v, e = .returned (.tuple #[v, .int .i64 0]) ∧ ZRowN w0.heap.size w' v (n + n0) (List.replicate n 0 ++ xs) ∧ Below w0.heap.size w0 w' := by
  by_cases hq : n + n0 = 0
  · exact p_shift_nil h0 hz0 hq
  rcases Nat.eq_zero_or_pos n0 with h | h
  · subst h
    exact p_shift_e h0 hz0 hn hq
  · exact p_shift_ok h0 hz0 hn hn0 h hq
end Go.Proofs.YtghaenkacjgdnaaDoor.W

/- kept; PolyReckons: the law's walk. Printed by pv/gen_po7.py. No condition. -/
namespace Go.Proofs.YtghaenkacjgdnaaDoor.W
open Go.RowKit Anv Go.Lib
theorem p_mulN {A0 A1 : Option Addr} {n0 n1 c0 c1 : Nat} {es0 es1 : List NE} {xs ys : List Int} {w0 : World} (h0 : (pfRow fN FN 2 A0 n0 c0 es0).P w0) (hz0 : es0.map zz = xs) (h1 : (pfRow fN FN 2 A1 n1 c1 es1).P w0) (hz1 : es1.map zz = ys) (hk0 : Zk 1000 xs) (hk1 : Zk 1000 ys) (hn0 : n0 ≤ 300) (hn1 : n1 ≤ 300) :
    Calls Tryd.prog 24 #[.slice A0 n0 c0, .slice A1 n1 c1] w0 fun e w' => ∃ v, e = .returned (.tuple #[v, .int .i64 (n0 * n1 : Nat)]) ∧ ZRowN w0.heap.size w' v (mulF xs ys).length (mulF xs ys) ∧ Below w0.heap.size w0 w' := by
  have hlx : xs.length = n0 := by rw [← hz0, List.length_map]; exact h0.2.1
  have hly : ys.length = n1 := by rw [← hz1, List.length_map]; exact h1.2.1
  by_cases h : n0 = 0 ∨ n1 = 0
  · refine (p_mul_nil h0 hz0 h1 hz1 h).mono fun e w' ⟨he, hb⟩ => ⟨.slice none 0 0, ?_, ?_, hb⟩
    · rw [he, show n0 * n1 = 0 from Nat.mul_eq_zero.2 h]; rfl
    · rw [show mulF xs ys = [] by rw [mulF, hlx, hly, if_pos h]]
      exact zrown_nil rfl rfl
  · refine (p_mul h0 hz0 h1 hz1 hk0 hk1 (by omega) (by omega) hn0 hn1).mono fun e w' ⟨v, he, ⟨A, c, es, hv, hr, hl, hz⟩, hb⟩ => ⟨v, he, ?_, hb⟩
    have heq : mlN xs ys (n0 + n1 - 1) n0 = mulF xs ys := by rw [mulF, hlx, hly, if_neg h]
    have hle : n0 + n1 - 1 = (mulF xs ys).length := by rw [← heq, mlN_len]
    exact ⟨A, c, es, hle ▸ hv, hle ▸ hr, hl.trans hle, hz.trans heq, fun hq => absurd (hle.trans hq) (by omega)⟩
end Go.Proofs.YtghaenkacjgdnaaDoor.W

/- PolyKnown: the law's walk. Printed by pv/gen_po8.py. No condition. -/
namespace Go.Proofs.YtghaenkacjgdnaaDoor.W
open Go.RowKit Anv Go.Lib
section
variable {N : Nat} {dq : List Deferred} {a : Act} {l : List (Nat × Value)} {w : World} {d : Nat} {ty : TypeId} {pos : String} {af : Array Edge} {gd : Option (Nat × Bool)}
theorem rn_point2 {x y : Operand} {v u : Int} (h : EnvD dq N a l) (hx : evl l x = some (.int .i64 v)) (hy : evl l y = some (.int .i64 u)) :
    (execOp a.eval ⟨some d, .build 24 #[(0, x), (1, y)], ty, pos, af, gd⟩).run Tryd.prog w = .ok (.value (.agg #[.int .i64 v, .int .i64 u])) w := by
  have hz : (zeroValue 24).run Tryd.prog w = .ok (.agg #[.int .i64 0, .int .i64 0]) w := by obtain ⟨i, hi, hv⟩ := zero_anvil_api_Point; simp [zeroValue, typeInfo, hi, hv]
  simp [execOp, h.ev hx, h.ev hy, Instr.build, hz, run_underlying Tryd.underlying24, Sem.run_bind, run_sizeOf ty_int.size, Instr.fill, Value.cells]
end
theorem rd_bad1 : Rd0 [91, 49] (.inr 2) :=
  .go (by decide) (by decide) (by decide) (.fin (z := 1) ⟨by decide, by decide, fun i h1 h2 => by
    obtain rfl : i = 1 := by simp at h2; omega
    unfold stp
    decide, fun h => by simp at h⟩ (by
    have h := rz_text 1
    rwa [show textZ 1 = cutw [91, 49] 1 [91, 49].length by decide +kernel] at h))
theorem rd_ok1 : Rd0 [91, 49, 32, 45, 50, 93] (.inl [1, -2]) := by
  have h := rd_text [1, -2]
  rwa [show textRow [1, -2] = [91, 49, 32, 45, 50, 93] by decide +kernel] at h
set_option maxRecDepth 100000 in
set_option maxHeartbeats 8000000 in
theorem pknown_law {w0 : World} :
    Calls Tryd.prog 9 #[] w0 fun e w' => e = .returned (.bool true) ∧ Below w0.heap.size w0 w' := by
  refine enter Tryd.func9 rfl Tryd.ntmps9 rfl ?_
  intro a henv hst
  have hs1 : zl (hval 2 1 [1, 2, 3]) ≤ 100 := Nat.le_trans (nl_le_of_lt (k := 1) (by decide +kernel)) (by decide)
  have hs2 : zl (hval 1 2 [1, 2, 3]) ≤ 100 := Nat.le_trans (nl_le_of_lt (k := 1) (by decide +kernel)) (by decide)
  refine wp_seq ?_
  refine region_seq ?_
  refine sv (v := .bool false) henv rfl (rn_assign henv rfl) ?_
  clear henv a; intro a henv
  refine wpList_nil ?_
  refine th_n ?_
  refine wp_seq ?_
  refine wp_seq ?_
  refine region_seq ?_
  refine seq_step rfl (op_call henv rfl Tryd.call10 rfl p20_works ?_)
  rintro e w51 ⟨rfl, hb⟩
  refine ⟨_, rfl, ?_⟩
  clear henv a; intro a henv
  replace hst := hst.call hb
  clear hb
  refine sv (v := .bool false) henv rfl (rn_un henv rfl rfl) ?_
  clear henv a; intro a henv
  refine wpList_nil ?_
  refine th_n ?_
  refine if_f henv rfl (rfl) ?_
  refine wp_skip ?_
  refine th_n ?_
  refine wp_seq ?_
  refine region_seq ?_
  refine seq_step rfl (op_buildSlice (z := 1) (pv := #[(0, .int .i64 1), (1, .int .i64 2)]) (c := #[.int .i64 1, .int .i64 2]) henv hst rfl Tryd.underlying22 (ty_int64.size) zero_int64 (by decide) (by decide) rfl (by kernel_rfl) ?_)
  clear henv hst a; intro a w53 g52 henv hst
  replace hst := hst.giveBk (f := fI) (F := FI) (k := 0) (n := 2) (es := [1, 2]) rfl rfl fI_len rfl (by decide) (esT_P (fun _ => rfl) _ _) (fun _ _ _ _ => esT_foot (fun _ => rfl))
  refine seq_step rfl (op_call henv rfl Tryd.call12 rfl (p20_list (es0 := [1, 2]) (hst.pat (k := 0) rfl) (by unfold I64; decide) (by omega)) ?_)
  rintro e w61 ⟨_, rfl, ⟨g54, ps55, rfl, hr, hl56, hz57⟩, hb⟩
  refine ⟨_, rfl, ?_⟩
  clear henv a; intro a henv
  replace hst := hst.freshRd hb hr hl56 (ap_N hr.2.1 trivial)
  clear hr
  obtain ⟨es58, hst, hl59, hz60⟩ := hst.listRow (k := 0) (n := 2) rfl hz57 (rfl)
  clear hb
  refine seq_step rfl (op_call henv rfl Tryd.call25 rfl (p_shift (n := 2) (hst.pat (k := 0) rfl) hz60 (by decide) (by decide)) ?_)
  rintro e w68 ⟨_, rfl, ⟨A62, c63, es64, rfl, hr, hl65, hz66, hn67⟩, hb⟩
  refine ⟨_, rfl, ?_⟩
  clear henv a; intro a henv
  replace hst := hst.freshRd hb hr hl65 (ap_N hr.2.1 trivial)
  clear hr
  clear hb
  revert a
  refine mA rfl rfl ?_
  refine sA (v := .slice A62 4 c63) rfl (fun _ henv => rn_extract henv rfl rfl) ?_
  refine sA (v := .int .i64 0) rfl (fun _ henv => rn_extract henv rfl rfl) ?_
  refine aA rfl rfl ?_
  refine aA rfl rfl ?_
  intro a henv
  refine wpList_nil ?_
  refine th_n ?_
  refine wp_seq ?_
  refine region_seq ?_
  refine seq_step rfl (op_buildSlice (z := 1) (pv := #[(0, .int .i64 1)]) (c := #[.int .i64 1]) henv hst rfl Tryd.underlying22 (ty_int64.size) zero_int64 (by decide) (by decide) rfl (by kernel_rfl) ?_)
  clear henv hst a; intro a w70 g69 henv hst
  replace hst := hst.giveBk (f := fI) (F := FI) (k := 0) (n := 1) (es := [1]) rfl rfl fI_len rfl (by decide) (esT_P (fun _ => rfl) _ _) (fun _ _ _ _ => esT_foot (fun _ => rfl))
  refine seq_step rfl (op_call henv rfl Tryd.call12 rfl (p20_list (es0 := [1]) (hst.pat (k := 0) rfl) (by unfold I64; decide) (by omega)) ?_)
  rintro e w78 ⟨_, rfl, ⟨g71, ps72, rfl, hr, hl73, hz74⟩, hb⟩
  refine ⟨_, rfl, ?_⟩
  clear henv a; intro a henv
  replace hst := hst.freshRd hb hr hl73 (ap_N hr.2.1 trivial)
  clear hr
  obtain ⟨es75, hst, hl76, hz77⟩ := hst.listRow (k := 0) (n := 1) rfl hz74 (rfl)
  clear hb
  refine seq_step rfl (op_call henv rfl Tryd.call25 rfl (p_shift_neg (n := -1) (hst.pat (k := 0) rfl) hz77 (by decide)) ?_)
  rintro e w79 ⟨rfl, hb⟩
  refine ⟨_, rfl, ?_⟩
  clear henv a; intro a henv
  replace hst := hst.call hb
  clear hb
  revert a
  refine mA rfl rfl ?_
  refine sA (v := .slice none 0 0) rfl (fun _ henv => rn_extract henv rfl rfl) ?_
  refine sA (v := .int .i64 2) rfl (fun _ henv => rn_extract henv rfl rfl) ?_
  refine aA rfl rfl ?_
  refine aA rfl rfl ?_
  intro a henv
  refine wpList_nil ?_
  refine th_n ?_
  refine wp_seq ?_
  refine region_seq ?_
  refine seq_step rfl (op_call henv rfl Tryd.call25 rfl (p_shift_big (xs := []) (n := 4097) (es0 := []) (row_nil fN FN 2 _) rfl (by decide)) ?_)
  rintro e w80 ⟨rfl, hb⟩
  refine ⟨_, rfl, ?_⟩
  clear henv a; intro a henv
  replace hst := hst.call hb
  clear hb
  revert a
  refine mA rfl rfl ?_
  refine sA (v := .slice none 0 0) rfl (fun _ henv => rn_extract henv rfl rfl) ?_
  refine sA (v := .int .i64 3) rfl (fun _ henv => rn_extract henv rfl rfl) ?_
  refine aA rfl rfl ?_
  refine aA rfl rfl ?_
  intro a henv
  refine wpList_nil ?_
  refine th_n ?_
  refine wp_seq ?_
  refine region_seq ?_
  refine seq_step rfl (op_buildSlice (z := 1) (pv := #[(0, .int .i64 1), (1, .int .i64 2), (2, .int .i64 3)]) (c := #[.int .i64 1, .int .i64 2, .int .i64 3]) henv hst rfl Tryd.underlying22 (ty_int64.size) zero_int64 (by decide) (by decide) rfl (by kernel_rfl) ?_)
  clear henv hst a; intro a w82 g81 henv hst
  replace hst := hst.giveBk (f := fI) (F := FI) (k := 0) (n := 3) (es := [1, 2, 3]) rfl rfl fI_len rfl (by decide) (esT_P (fun _ => rfl) _ _) (fun _ _ _ _ => esT_foot (fun _ => rfl))
  refine seq_step rfl (op_call henv rfl Tryd.call12 rfl (p20_list (es0 := [1, 2, 3]) (hst.pat (k := 0) rfl) (by unfold I64; decide) (by omega)) ?_)
  rintro e w90 ⟨_, rfl, ⟨g83, ps84, rfl, hr, hl85, hz86⟩, hb⟩
  refine ⟨_, rfl, ?_⟩
  clear henv a; intro a henv
  replace hst := hst.freshRd hb hr hl85 (ap_N hr.2.1 trivial)
  clear hr
  obtain ⟨es87, hst, hl88, hz89⟩ := hst.listRow (k := 0) (n := 3) rfl hz86 (rfl)
  clear hb
  refine sv (v := .agg #[.int .i64 2, .int .i64 1]) henv rfl (rn_point2 henv rfl rfl) ?_
  clear henv a; intro a henv
  refine seq_step rfl (op_call henv rfl Tryd.call11 rfl (p_at (xs := [1, 2, 3]) (pa := 2) (pb := 1) (hst.pat (k := 0) rfl) hz89 (by decide) (by decide) (zk_small (by decide)) (by decide)) ?_)
  rintro e w94 ⟨_, rfl, ⟨A91, c92, rfl, hz93⟩, hb⟩
  refine ⟨_, rfl, ?_⟩
  clear henv a; intro a henv
  replace hst := (hst.call hb).addZ hz93 trivial
  clear hz93
  clear hb
  revert a
  refine mA rfl rfl ?_
  refine sA (v := .agg #[.bool (neg (hval 2 1 [1, 2, 3])), .slice A91 (zl (hval 2 1 [1, 2, 3])) c92]) rfl (fun _ henv => rn_extract henv rfl rfl) ?_
  refine sA (v := .int .i64 0) rfl (fun _ henv => rn_extract henv rfl rfl) ?_
  intro a henv
  refine seq_step rfl (op_alloc (c := #[.bool (neg 0), .slice none (zl 0) 0]) henv hst rfl zero_anvil_integer_Int zcells ?_)
  clear henv hst a; intro a w96 g95 henv hst
  refine seq_step rfl (op_store (k := 0) (c' := #[.bool (neg (hval 2 1 [1, 2, 3])), .slice A91 (zl (hval 2 1 [1, 2, 3])) c92]) henv hst (ty_anvil_integer_Int.size) rfl rfl rfl rfl (by simp) rfl rfl ?_)
  clear henv hst a; intro a w97 henv hst
  refine sv (v := .int .i64 0) henv rfl (rn_assign henv rfl) ?_
  clear henv a; intro a henv
  refine wpList_nil ?_
  refine th_n ?_
  refine wp_seq ?_
  refine region_seq ?_
  refine seq_step rfl (op_buildSlice (z := 1) (pv := #[(0, .int .i64 1), (1, .int .i64 2), (2, .int .i64 3)]) (c := #[.int .i64 1, .int .i64 2, .int .i64 3]) henv hst rfl Tryd.underlying22 (ty_int64.size) zero_int64 (by decide) (by decide) rfl (by kernel_rfl) ?_)
  clear henv hst a; intro a w99 g98 henv hst
  replace hst := hst.giveBk (f := fI) (F := FI) (k := 0) (n := 3) (es := [1, 2, 3]) rfl rfl fI_len rfl (by decide) (esT_P (fun _ => rfl) _ _) (fun _ _ _ _ => esT_foot (fun _ => rfl))
  refine seq_step rfl (op_call henv rfl Tryd.call12 rfl (p20_list (es0 := [1, 2, 3]) (hst.pat (k := 0) rfl) (by unfold I64; decide) (by omega)) ?_)
  rintro e w107 ⟨_, rfl, ⟨g100, ps101, rfl, hr, hl102, hz103⟩, hb⟩
  refine ⟨_, rfl, ?_⟩
  clear henv a; intro a henv
  replace hst := hst.freshRd hb hr hl102 (ap_N hr.2.1 ⟨nou_bk rfl, trivial⟩)
  clear hr
  obtain ⟨es104, hst, hl105, hz106⟩ := hst.listRow (k := 0) (n := 3) rfl hz103 (rfl)
  clear hb
  refine sv (v := .agg #[.int .i64 1, .int .i64 2]) henv rfl (rn_point2 henv rfl rfl) ?_
  clear henv a; intro a henv
  refine seq_step rfl (op_call henv rfl Tryd.call11 rfl (p_at (xs := [1, 2, 3]) (pa := 1) (pb := 2) (hst.pat (k := 0) rfl) hz106 (by decide) (by decide) (zk_small (by decide)) (by decide)) ?_)
  rintro e w111 ⟨_, rfl, ⟨A108, c109, rfl, hz110⟩, hb⟩
  refine ⟨_, rfl, ?_⟩
  clear henv a; intro a henv
  replace hst := (hst.call hb).addZ hz110 ⟨nou_bk rfl, trivial⟩
  clear hz110
  clear hb
  revert a
  refine mA rfl rfl ?_
  refine sA (v := .agg #[.bool (neg (hval 1 2 [1, 2, 3])), .slice A108 (zl (hval 1 2 [1, 2, 3])) c109]) rfl (fun _ henv => rn_extract henv rfl rfl) ?_
  refine sA (v := .int .i64 0) rfl (fun _ henv => rn_extract henv rfl rfl) ?_
  intro a henv
  refine seq_step rfl (op_alloc (c := #[.bool (neg 0), .slice none (zl 0) 0]) henv hst rfl zero_anvil_integer_Int zcells ?_)
  clear henv hst a; intro a w113 g112 henv hst
  refine seq_step rfl (op_store (k := 0) (c' := #[.bool (neg (hval 1 2 [1, 2, 3])), .slice A108 (zl (hval 1 2 [1, 2, 3])) c109]) henv hst (ty_anvil_integer_Int.size) rfl rfl rfl rfl (by simp) rfl rfl ?_)
  clear henv hst a; intro a w114 henv hst
  refine sv (v := .int .i64 0) henv rfl (rn_assign henv rfl) ?_
  clear henv a; intro a henv
  refine wpList_nil ?_
  refine th_n ?_
  refine wp_seq ?_
  refine region_seq ?_
  refine sv (v := .agg #[.int .i64 1, .int .i64 1]) henv rfl (rn_point2 henv rfl rfl) ?_
  clear henv a; intro a henv
  refine seq_step rfl (op_call henv rfl Tryd.call11 rfl (p_at_bad (xs := []) (es0 := []) (pa := 1) (pb := 1) (row_nil fN FN 2 _) rfl (.inl rfl)) ?_)
  rintro e w118 ⟨_, rfl, ⟨A115, c116, rfl, hz117⟩, hb⟩
  refine ⟨_, rfl, ?_⟩
  clear henv a; intro a henv
  replace hst := (hst.call hb).addZ hz117 ⟨nou_bk rfl, nou_bk rfl, trivial⟩
  clear hz117
  clear hb
  revert a
  refine mA rfl rfl ?_
  refine sA (v := .agg #[.bool (neg 0), .slice A115 (zl 0) c116]) rfl (fun _ henv => rn_extract henv rfl rfl) ?_
  refine sA (v := .int .i64 2) rfl (fun _ henv => rn_extract henv rfl rfl) ?_
  intro a henv
  refine seq_step rfl (op_alloc (c := #[.bool (neg 0), .slice none (zl 0) 0]) henv hst rfl zero_anvil_integer_Int zcells ?_)
  clear henv hst a; intro a w120 g119 henv hst
  refine seq_step rfl (op_store (k := 0) (c' := #[.bool (neg 0), .slice A115 (zl 0) c116]) henv hst (ty_anvil_integer_Int.size) rfl rfl rfl rfl (by simp) rfl rfl ?_)
  clear henv hst a; intro a w121 henv hst
  refine sv (v := .int .i64 2) henv rfl (rn_assign henv rfl) ?_
  clear henv a; intro a henv
  refine wpList_nil ?_
  refine th_n ?_
  refine wp_seq ?_
  refine region_seq ?_
  refine seq_step rfl (op_buildSlice (z := 1) (pv := #[(0, .int .i64 0), (1, .int .i64 0)]) (c := #[.int .i64 0, .int .i64 0]) henv hst rfl Tryd.underlying22 (ty_int64.size) zero_int64 (by decide) (by decide) rfl (by kernel_rfl) ?_)
  clear henv hst a; intro a w123 g122 henv hst
  replace hst := hst.giveBk (f := fI) (F := FI) (k := 0) (n := 2) (es := [0, 0]) rfl rfl fI_len rfl (by decide) (esT_P (fun _ => rfl) _ _) (fun _ _ _ _ => esT_foot (fun _ => rfl))
  refine seq_step rfl (op_call henv rfl Tryd.call12 rfl (p20_list (es0 := [0, 0]) (hst.pat (k := 0) rfl) (by unfold I64; decide) (by omega)) ?_)
  rintro e w131 ⟨_, rfl, ⟨g124, ps125, rfl, hr, hl126, hz127⟩, hb⟩
  refine ⟨_, rfl, ?_⟩
  clear henv a; intro a henv
  replace hst := hst.freshRd hb hr hl126 (ap_N hr.2.1 ⟨nou_bk rfl, nou_bk rfl, nou_bk rfl, trivial⟩)
  clear hr
  obtain ⟨es128, hst, hl129, hz130⟩ := hst.listRow (k := 0) (n := 2) rfl hz127 (rfl)
  clear hb
  refine seq_step rfl (op_buildSlice (z := 1) (pv := #[(0, .int .i64 1), (1, .int .i64 2)]) (c := #[.int .i64 1, .int .i64 2]) henv hst rfl Tryd.underlying22 (ty_int64.size) zero_int64 (by decide) (by decide) rfl (by kernel_rfl) ?_)
  clear henv hst a; intro a w133 g132 henv hst
  replace hst := hst.giveBk (f := fI) (F := FI) (k := 0) (n := 2) (es := [1, 2]) rfl rfl fI_len rfl (by decide) (esT_P (fun _ => rfl) _ _) (fun _ _ _ _ => esT_foot (fun _ => rfl))
  refine seq_step rfl (op_call henv rfl Tryd.call12 rfl (p20_list (es0 := [1, 2]) (hst.pat (k := 0) rfl) (by unfold I64; decide) (by omega)) ?_)
  rintro e w141 ⟨_, rfl, ⟨g134, ps135, rfl, hr, hl136, hz137⟩, hb⟩
  refine ⟨_, rfl, ?_⟩
  clear henv a; intro a henv
  replace hst := hst.freshRd hb hr hl136 (ap_N hr.2.1 ⟨nou_bk rfl, nou_bk rfl, nou_bk rfl, trivial⟩)
  clear hr
  obtain ⟨es138, hst, hl139, hz140⟩ := hst.listRow (k := 0) (n := 2) rfl hz137 (rfl)
  clear hb
  refine seq_step rfl (op_call henv rfl Tryd.call24 rfl (p_mulN (xs := [0, 0]) (ys := [1, 2]) (hst.pat (k := 4) rfl) hz130 (hst.pat (k := 0) rfl) hz140 (zk_small (by decide)) (zk_small (by decide)) (by decide) (by decide)) ?_)
  rintro e w148 ⟨_, rfl, ⟨A142, c143, es144, rfl, hr, hl145, hz146, hn147⟩, hb⟩
  refine ⟨_, rfl, ?_⟩
  clear henv a; intro a henv
  replace hst := hst.freshRd hb hr hl145 (ap_N hr.2.1 ⟨nou_bk rfl, nou_bk rfl, nou_bk rfl, trivial⟩)
  clear hr
  clear hb
  revert a
  refine mA rfl rfl ?_
  refine sA (v := .slice A142 3 c143) rfl (fun _ henv => rn_extract henv rfl rfl) ?_
  refine sA (v := .int .i64 4) rfl (fun _ henv => rn_extract henv rfl rfl) ?_
  refine aA rfl rfl ?_
  refine aA rfl rfl ?_
  intro a henv
  refine wpList_nil ?_
  refine th_n ?_
  refine wp_seq ?_
  refine region_seq ?_
  refine seq_step rfl (op_buildSlice (z := 1) (pv := #[(0, .int .i64 1), (1, .int .i64 2)]) (c := #[.int .i64 1, .int .i64 2]) henv hst rfl Tryd.underlying22 (ty_int64.size) zero_int64 (by decide) (by decide) rfl (by kernel_rfl) ?_)
  clear henv hst a; intro a w150 g149 henv hst
  replace hst := hst.giveBk (f := fI) (F := FI) (k := 0) (n := 2) (es := [1, 2]) rfl rfl fI_len rfl (by decide) (esT_P (fun _ => rfl) _ _) (fun _ _ _ _ => esT_foot (fun _ => rfl))
  refine seq_step rfl (op_call henv rfl Tryd.call12 rfl (p20_list (es0 := [1, 2]) (hst.pat (k := 0) rfl) (by unfold I64; decide) (by omega)) ?_)
  rintro e w158 ⟨_, rfl, ⟨g151, ps152, rfl, hr, hl153, hz154⟩, hb⟩
  refine ⟨_, rfl, ?_⟩
  clear henv a; intro a henv
  replace hst := hst.freshRd hb hr hl153 (ap_N hr.2.1 ⟨nou_bk rfl, nou_bk rfl, nou_bk rfl, trivial⟩)
  clear hr
  obtain ⟨es155, hst, hl156, hz157⟩ := hst.listRow (k := 0) (n := 2) rfl hz154 (rfl)
  clear hb
  refine seq_step rfl (op_call henv rfl Tryd.call24 rfl (p_mul_nil (xs := []) (es0 := []) (row_nil fN FN 2 _) rfl (hst.pat (k := 0) rfl) hz157 (.inl rfl)) ?_)
  rintro e w159 ⟨rfl, hb⟩
  refine ⟨_, rfl, ?_⟩
  clear henv a; intro a henv
  replace hst := hst.call hb
  clear hb
  revert a
  refine mA rfl rfl ?_
  refine sA (v := .slice none 0 0) rfl (fun _ henv => rn_extract henv rfl rfl) ?_
  refine sA (v := .int .i64 0) rfl (fun _ henv => rn_extract henv rfl rfl) ?_
  refine aA rfl rfl ?_
  refine aA rfl rfl ?_
  intro a henv
  refine wpList_nil ?_
  refine th_n ?_
  refine wp_seq ?_
  refine region_seq ?_
  refine seq_step rfl (op_call henv rfl Tryd.call44 rfl (p_read_ok (s := [91, 49, 32, 45, 50, 93]) (zs := [1, -2]) (n := 2) rd_ok1 rfl (by decide)) ?_)
  rintro e w166 ⟨_, rfl, ⟨A160, c161, es162, rfl, hr, hl163, hz164, hn165⟩, hb⟩
  refine ⟨_, rfl, ?_⟩
  clear henv a; intro a henv
  replace hst := hst.freshRd hb hr hl163 (ap_N hr.2.1 ⟨nou_bk rfl, nou_bk rfl, nou_bk rfl, trivial⟩)
  clear hr
  clear hb
  revert a
  refine mA rfl rfl ?_
  refine sA (v := .slice A160 2 c161) rfl (fun _ henv => rn_extract henv rfl rfl) ?_
  refine sA (v := .agg #[.int .i64 0, .int .i64 0]) rfl (fun _ henv => rn_extract henv rfl rfl) ?_
  intro a henv
  refine seq_step rfl (op_alloc (c := #[.int .i64 0, .int .i64 0]) henv hst rfl zero_anvil_api_Spot rfl ?_)
  clear henv hst a; intro a w168 g167 henv hst
  refine sv (v := .slice A160 2 c161) henv rfl (rn_assign henv rfl) ?_
  clear henv a; intro a henv
  refine seq_step rfl (op_store (k := 0) (c' := #[.int .i64 0, .int .i64 0]) henv hst (ty_anvil_api_Spot.size) rfl rfl rfl rfl (by simp) rfl rfl ?_)
  clear henv hst a; intro a w169 henv hst
  refine wpList_nil ?_
  refine th_n ?_
  refine wp_seq ?_
  refine region_seq ?_
  refine seq_step rfl (op_call henv rfl Tryd.call44 rfl (p_read_bad (s := [91, 49]) (b := 2) rd_bad1 (by decide)) ?_)
  rintro e w170 ⟨rfl, hb⟩
  refine ⟨_, rfl, ?_⟩
  clear henv a; intro a henv
  replace hst := hst.call hb
  clear hb
  revert a
  refine mA rfl rfl ?_
  refine sA (v := .slice none 0 0) rfl (fun _ henv => rn_extract henv rfl rfl) ?_
  refine sA (v := .agg #[.int .i64 6, .int .i64 2]) rfl (fun _ henv => rn_extract henv rfl rfl) ?_
  intro a henv
  refine seq_step rfl (op_alloc (c := #[.int .i64 0, .int .i64 0]) henv hst rfl zero_anvil_api_Spot rfl ?_)
  clear henv hst a; intro a w172 g171 henv hst
  refine sv (v := .slice none 0 0) henv rfl (rn_assign henv rfl) ?_
  clear henv a; intro a henv
  refine seq_step rfl (op_store (k := 0) (c' := #[.int .i64 6, .int .i64 2]) henv hst (ty_anvil_api_Spot.size) rfl rfl rfl rfl (by simp) rfl rfl ?_)
  clear henv hst a; intro a w173 henv hst
  refine wpList_nil ?_
  refine th_n ?_
  refine wp_seq ?_
  simp only [List.append_eq, List.cons_append, List.nil_append]
  refine region_seq ?_
  refine seq_step rfl (op_buildSlice (z := 1) (pv := #[(0, .int .i64 1), (1, .int .i64 0), (2, .int .i64 2), (3, .int .i64 0), (4, .int .i64 0)]) (c := #[.int .i64 1, .int .i64 0, .int .i64 2, .int .i64 0, .int .i64 0]) henv hst rfl Tryd.underlying22 (ty_int64.size) zero_int64 (by decide) (by decide) rfl (by kernel_rfl) ?_)
  clear henv hst a; intro a w175 g174 henv hst
  replace hst := hst.giveBk (f := fI) (F := FI) (k := 0) (n := 5) (es := [1, 0, 2, 0, 0]) rfl rfl fI_len rfl (by decide) (esT_P (fun _ => rfl) _ _) (fun _ _ _ _ => esT_foot (fun _ => rfl))
  refine seq_step rfl (op_call henv rfl Tryd.call12 rfl (p20_list (es0 := [1, 0, 2, 0, 0]) (hst.pat (k := 0) rfl) (by unfold I64; decide) (by omega)) ?_)
  rintro e w183 ⟨_, rfl, ⟨g176, ps177, rfl, hr, hl178, hz179⟩, hb⟩
  refine ⟨_, rfl, ?_⟩
  clear henv a; intro a henv
  replace hst := hst.freshRd hb hr hl178 (ap_N hr.2.1 ⟨nou_bk rfl, nou_bk rfl, nou_bk rfl, nou_bk rfl, nou_bk rfl, trivial⟩)
  clear hr
  obtain ⟨es180, hst, hl181, hz182⟩ := hst.listRow (k := 0) (n := 5) rfl hz179 (rfl)
  clear hb
  refine seq_step rfl (op_call henv rfl Tryd.call27 rfl (p_trim (xs := [1, 0, 2, 0, 0]) (hst.pat (k := 0) rfl) hz182 (by decide)) ?_)
  rintro e w190 ⟨_, rfl, ⟨A184, c185, es186, rfl, hr, hl187, hz188, hn189⟩, hb⟩
  refine ⟨_, rfl, ?_⟩
  clear henv a; intro a henv
  replace hst := hst.freshRd hb hr hl187 (ap_N hr.2.1 ⟨nou_bk rfl, nou_bk rfl, nou_bk rfl, nou_bk rfl, nou_bk rfl, trivial⟩)
  clear hr
  clear hb
  refine seq_step rfl (op_buildSlice (z := 1) (pv := #[(0, .int .i64 1), (1, .int .i64 0), (2, .int .i64 2)]) (c := #[.int .i64 1, .int .i64 0, .int .i64 2]) henv hst rfl Tryd.underlying22 (ty_int64.size) zero_int64 (by decide) (by decide) rfl (by kernel_rfl) ?_)
  clear henv hst a; intro a w192 g191 henv hst
  replace hst := hst.giveBk (f := fI) (F := FI) (k := 0) (n := 3) (es := [1, 0, 2]) rfl rfl fI_len rfl (by decide) (esT_P (fun _ => rfl) _ _) (fun _ _ _ _ => esT_foot (fun _ => rfl))
  refine seq_step rfl (op_call henv rfl Tryd.call18 rfl (p20_ref (es0 := [1, 0, 2]) (hst.pat (k := 0) rfl) (by unfold I64; decide) (by omega)) ?_)
  rintro e w199 ⟨_, rfl, ⟨A193, c194, es195, rfl, hr, hl196, hz197, hn198⟩, hb⟩
  refine ⟨_, rfl, ?_⟩
  clear henv a; intro a henv
  replace hst := hst.freshRd hb hr hl196 (ap_M hr.2.1 ⟨nou_bk rfl, nou_bk rfl, nou_bk rfl, nou_bk rfl, nou_bk rfl, trivial⟩)
  clear hr
  clear hb
  refine seq_step rfl (op_call henv rfl Tryd.call26 rfl (p20_is (xs := [1, 0, 2]) (ys := [1, 0, 2]) (hst.pat (k := 3) rfl) (hz188.trans (show _ = [1, 0, 2] by decide +kernel)) (hst.pat (k := 0) rfl) hz197 (zk_small (by decide)) (zk_small (by decide)) hn189) ?_)
  rintro e w200 ⟨rfl, hb⟩
  refine ⟨_, rfl, ?_⟩
  clear henv a; intro a henv
  replace hst := hst.call hb
  clear hb
  rw [show (decide (([1, 0, 2] : List Int) = [1, 0, 2])) = true from (decide_eq_true rfl)] at henv
  refine sv (v := .bool true) henv rfl (rn_move henv rfl) ?_
  clear henv a; intro a henv
  refine seq_g rfl henv rfl rfl (op_buildSlice (z := 1) (pv := #[(0, .int .i64 0)]) (c := #[.int .i64 0]) henv hst rfl Tryd.underlying22 (ty_int64.size) zero_int64 (by decide) (by decide) rfl (by kernel_rfl) ?_)
  clear henv hst a; intro a w202 g201 henv hst
  replace hst := hst.giveBk (f := fI) (F := FI) (k := 0) (n := 1) (es := [0]) rfl rfl fI_len rfl (by decide) (esT_P (fun _ => rfl) _ _) (fun _ _ _ _ => esT_foot (fun _ => rfl))
  refine seq_g rfl henv rfl rfl (op_call henv rfl Tryd.call12 rfl (p20_list (es0 := [0]) (hst.pat (k := 0) rfl) (by unfold I64; decide) (by omega)) ?_)
  rintro e w210 ⟨_, rfl, ⟨g203, ps204, rfl, hr, hl205, hz206⟩, hb⟩
  refine ⟨_, rfl, ?_⟩
  clear henv a; intro a henv
  replace hst := hst.freshRd hb hr hl205 (ap_N hr.2.1 ⟨nou_bk rfl, nou_bk rfl, nou_bk rfl, nou_bk rfl, nou_bk rfl, trivial⟩)
  clear hr
  obtain ⟨es207, hst, hl208, hz209⟩ := hst.listRow (k := 0) (n := 1) rfl hz206 (rfl)
  clear hb
  refine seq_g rfl henv rfl rfl (op_call henv rfl Tryd.call27 rfl (p_trim (xs := [0]) (hst.pat (k := 0) rfl) hz209 (by decide)) ?_)
  rintro e w217 ⟨_, rfl, ⟨A211, c212, es213, rfl, hr, hl214, hz215, hn216⟩, hb⟩
  refine ⟨_, rfl, ?_⟩
  clear henv a; intro a henv
  replace hst := hst.freshRd hb hr hl214 (ap_N hr.2.1 ⟨nou_bk rfl, nou_bk rfl, nou_bk rfl, nou_bk rfl, nou_bk rfl, trivial⟩)
  clear hr
  clear hb
  refine seq_g rfl henv rfl rfl (op_val (v := .bool A211.isNone) henv rfl (rn_nilS henv Tryd.underlying32 rfl) ?_)
  clear henv a; intro a henv
  rw [show A211.isNone = true from (by rw [hn216 rfl]; rfl)] at henv
  revert a
  refine sA (v := .bool true) rfl (fun _ henv => rn_pick henv rfl rfl) ?_
  refine mA rfl rfl ?_
  intro a henv
  refine seq_g rfl henv rfl rfl (op_buildSlice (z := 1) (pv := #[(0, .int .i64 0), (1, .int .i64 0), (2, .int .i64 3), (3, .int .i64 0)]) (c := #[.int .i64 0, .int .i64 0, .int .i64 3, .int .i64 0]) henv hst rfl Tryd.underlying22 (ty_int64.size) zero_int64 (by decide) (by decide) rfl (by kernel_rfl) ?_)
  clear henv hst a; intro a w219 g218 henv hst
  replace hst := hst.giveBk (f := fI) (F := FI) (k := 0) (n := 4) (es := [0, 0, 3, 0]) rfl rfl fI_len rfl (by decide) (esT_P (fun _ => rfl) _ _) (fun _ _ _ _ => esT_foot (fun _ => rfl))
  refine seq_g rfl henv rfl rfl (op_call henv rfl Tryd.call12 rfl (p20_list (es0 := [0, 0, 3, 0]) (hst.pat (k := 0) rfl) (by unfold I64; decide) (by omega)) ?_)
  rintro e w227 ⟨_, rfl, ⟨g220, ps221, rfl, hr, hl222, hz223⟩, hb⟩
  refine ⟨_, rfl, ?_⟩
  clear henv a; intro a henv
  replace hst := hst.freshRd hb hr hl222 (ap_N hr.2.1 ⟨nou_bk rfl, nou_bk rfl, nou_bk rfl, nou_bk rfl, nou_bk rfl, trivial⟩)
  clear hr
  obtain ⟨es224, hst, hl225, hz226⟩ := hst.listRow (k := 0) (n := 4) rfl hz223 (rfl)
  clear hb
  refine seq_g rfl henv rfl rfl (op_call henv rfl Tryd.call23 rfl (p_deg (xs := [0, 0, 3, 0]) (hst.pat (k := 0) rfl) hz226 (by decide)) ?_)
  rintro e w228 ⟨rfl, hb⟩
  refine ⟨_, rfl, ?_⟩
  clear henv a; intro a henv
  replace hst := hst.call hb
  clear hb
  refine seq_g rfl henv rfl rfl (op_val (v := .bool (((degN [0, 0, 3, 0] : Nat) : Int) - 1 == (2 : Int))) henv rfl (rn_bin henv rfl rfl rfl) ?_)
  clear henv a; intro a henv
  rw [show (((degN [0, 0, 3, 0] : Nat) : Int) - 1 == (2 : Int)) = true from (beq_iff_eq.2 (by decide +kernel))] at henv
  revert a
  refine sA (v := .bool true) rfl (fun _ henv => rn_pick henv rfl rfl) ?_
  refine mA rfl rfl ?_
  intro a henv
  refine seq_g rfl henv rfl rfl (op_buildSlice (z := 1) (pv := #[(0, .int .i64 0), (1, .int .i64 0)]) (c := #[.int .i64 0, .int .i64 0]) henv hst rfl Tryd.underlying22 (ty_int64.size) zero_int64 (by decide) (by decide) rfl (by kernel_rfl) ?_)
  clear henv hst a; intro a w230 g229 henv hst
  replace hst := hst.giveBk (f := fI) (F := FI) (k := 0) (n := 2) (es := [0, 0]) rfl rfl fI_len rfl (by decide) (esT_P (fun _ => rfl) _ _) (fun _ _ _ _ => esT_foot (fun _ => rfl))
  refine seq_g rfl henv rfl rfl (op_call henv rfl Tryd.call12 rfl (p20_list (es0 := [0, 0]) (hst.pat (k := 0) rfl) (by unfold I64; decide) (by omega)) ?_)
  rintro e w238 ⟨_, rfl, ⟨g231, ps232, rfl, hr, hl233, hz234⟩, hb⟩
  refine ⟨_, rfl, ?_⟩
  clear henv a; intro a henv
  replace hst := hst.freshRd hb hr hl233 (ap_N hr.2.1 ⟨nou_bk rfl, nou_bk rfl, nou_bk rfl, nou_bk rfl, nou_bk rfl, trivial⟩)
  clear hr
  obtain ⟨es235, hst, hl236, hz237⟩ := hst.listRow (k := 0) (n := 2) rfl hz234 (rfl)
  clear hb
  refine seq_g rfl henv rfl rfl (op_call henv rfl Tryd.call23 rfl (p_deg (xs := [0, 0]) (hst.pat (k := 0) rfl) hz237 (by decide)) ?_)
  rintro e w239 ⟨rfl, hb⟩
  refine ⟨_, rfl, ?_⟩
  clear henv a; intro a henv
  replace hst := hst.call hb
  clear hb
  refine seq_g rfl henv rfl rfl (op_val (v := .bool (((degN [0, 0] : Nat) : Int) - 1 == (-1))) henv rfl (rn_bin henv rfl rfl rfl) ?_)
  clear henv a; intro a henv
  rw [show (((degN [0, 0] : Nat) : Int) - 1 == (-1)) = true from (beq_iff_eq.2 (by decide +kernel))] at henv
  revert a
  refine sA (v := .bool true) rfl (fun _ henv => rn_pick henv rfl rfl) ?_
  refine mA rfl rfl ?_
  intro a henv
  refine seq_g rfl henv rfl rfl (op_buildSlice (z := 1) (pv := #[(0, .int .i64 1), (1, .int .i64 2)]) (c := #[.int .i64 1, .int .i64 2]) henv hst rfl Tryd.underlying22 (ty_int64.size) zero_int64 (by decide) (by decide) rfl (by kernel_rfl) ?_)
  clear henv hst a; intro a w241 g240 henv hst
  replace hst := hst.giveBk (f := fI) (F := FI) (k := 0) (n := 2) (es := [1, 2]) rfl rfl fI_len rfl (by decide) (esT_P (fun _ => rfl) _ _) (fun _ _ _ _ => esT_foot (fun _ => rfl))
  refine seq_g rfl henv rfl rfl (op_call henv rfl Tryd.call12 rfl (p20_list (es0 := [1, 2]) (hst.pat (k := 0) rfl) (by unfold I64; decide) (by omega)) ?_)
  rintro e w249 ⟨_, rfl, ⟨g242, ps243, rfl, hr, hl244, hz245⟩, hb⟩
  refine ⟨_, rfl, ?_⟩
  clear henv a; intro a henv
  replace hst := hst.freshRd hb hr hl244 (ap_N hr.2.1 ⟨nou_bk rfl, nou_bk rfl, nou_bk rfl, nou_bk rfl, nou_bk rfl, trivial⟩)
  clear hr
  obtain ⟨es246, hst, hl247, hz248⟩ := hst.listRow (k := 0) (n := 2) rfl hz245 (rfl)
  clear hb
  refine seq_g rfl henv rfl rfl (op_buildSlice (z := 1) (pv := #[(0, .int .i64 1), (1, .int .i64 2), (2, .int .i64 0)]) (c := #[.int .i64 1, .int .i64 2, .int .i64 0]) henv hst rfl Tryd.underlying22 (ty_int64.size) zero_int64 (by decide) (by decide) rfl (by kernel_rfl) ?_)
  clear henv hst a; intro a w251 g250 henv hst
  replace hst := hst.giveBk (f := fI) (F := FI) (k := 0) (n := 3) (es := [1, 2, 0]) rfl rfl fI_len rfl (by decide) (esT_P (fun _ => rfl) _ _) (fun _ _ _ _ => esT_foot (fun _ => rfl))
  refine seq_g rfl henv rfl rfl (op_call henv rfl Tryd.call12 rfl (p20_list (es0 := [1, 2, 0]) (hst.pat (k := 0) rfl) (by unfold I64; decide) (by omega)) ?_)
  rintro e w259 ⟨_, rfl, ⟨g252, ps253, rfl, hr, hl254, hz255⟩, hb⟩
  refine ⟨_, rfl, ?_⟩
  clear henv a; intro a henv
  replace hst := hst.freshRd hb hr hl254 (ap_N hr.2.1 ⟨nou_bk rfl, nou_bk rfl, nou_bk rfl, nou_bk rfl, nou_bk rfl, trivial⟩)
  clear hr
  obtain ⟨es256, hst, hl257, hz258⟩ := hst.listRow (k := 0) (n := 3) rfl hz255 (rfl)
  clear hb
  refine seq_g rfl henv rfl rfl (op_call henv rfl Tryd.call19 rfl (p_same (xs := [1, 2]) (ys := [1, 2, 0]) (hst.pat (k := 4) rfl) hz248 (hst.pat (k := 0) rfl) hz258 (by decide) (by decide)) ?_)
  rintro e w260 ⟨rfl, hb⟩
  refine ⟨_, rfl, ?_⟩
  clear henv a; intro a henv
  replace hst := hst.call hb
  clear hb
  rw [show (decide (trimN [1, 2] = trimN [1, 2, 0])) = true from (decide_eq_true (by decide +kernel))] at henv
  revert a
  refine sA (v := .bool true) rfl (fun _ henv => rn_pick henv rfl rfl) ?_
  refine mA rfl rfl ?_
  intro a henv
  refine seq_g rfl henv rfl rfl (op_buildSlice (z := 1) (pv := #[(0, .int .i64 1), (1, .int .i64 2), (2, .int .i64 3)]) (c := #[.int .i64 1, .int .i64 2, .int .i64 3]) henv hst rfl Tryd.underlying22 (ty_int64.size) zero_int64 (by decide) (by decide) rfl (by kernel_rfl) ?_)
  clear henv hst a; intro a w262 g261 henv hst
  replace hst := hst.giveBk (f := fI) (F := FI) (k := 0) (n := 3) (es := [1, 2, 3]) rfl rfl fI_len rfl (by decide) (esT_P (fun _ => rfl) _ _) (fun _ _ _ _ => esT_foot (fun _ => rfl))
  refine seq_g rfl henv rfl rfl (op_call henv rfl Tryd.call12 rfl (p20_list (es0 := [1, 2, 3]) (hst.pat (k := 0) rfl) (by unfold I64; decide) (by omega)) ?_)
  rintro e w270 ⟨_, rfl, ⟨g263, ps264, rfl, hr, hl265, hz266⟩, hb⟩
  refine ⟨_, rfl, ?_⟩
  clear henv a; intro a henv
  replace hst := hst.freshRd hb hr hl265 (ap_N hr.2.1 ⟨nou_bk rfl, nou_bk rfl, nou_bk rfl, nou_bk rfl, nou_bk rfl, trivial⟩)
  clear hr
  obtain ⟨es267, hst, hl268, hz269⟩ := hst.listRow (k := 0) (n := 3) rfl hz266 (rfl)
  clear hb
  refine seq_g rfl henv rfl rfl (op_buildSlice (z := 1) (pv := #[(0, .int .i64 4), (1, .int .i64 5)]) (c := #[.int .i64 4, .int .i64 5]) henv hst rfl Tryd.underlying22 (ty_int64.size) zero_int64 (by decide) (by decide) rfl (by kernel_rfl) ?_)
  clear henv hst a; intro a w272 g271 henv hst
  replace hst := hst.giveBk (f := fI) (F := FI) (k := 0) (n := 2) (es := [4, 5]) rfl rfl fI_len rfl (by decide) (esT_P (fun _ => rfl) _ _) (fun _ _ _ _ => esT_foot (fun _ => rfl))
  refine seq_g rfl henv rfl rfl (op_call henv rfl Tryd.call12 rfl (p20_list (es0 := [4, 5]) (hst.pat (k := 0) rfl) (by unfold I64; decide) (by omega)) ?_)
  rintro e w280 ⟨_, rfl, ⟨g273, ps274, rfl, hr, hl275, hz276⟩, hb⟩
  refine ⟨_, rfl, ?_⟩
  clear henv a; intro a henv
  replace hst := hst.freshRd hb hr hl275 (ap_N hr.2.1 ⟨nou_bk rfl, nou_bk rfl, nou_bk rfl, nou_bk rfl, nou_bk rfl, trivial⟩)
  clear hr
  obtain ⟨es277, hst, hl278, hz279⟩ := hst.listRow (k := 0) (n := 2) rfl hz276 (rfl)
  clear hb
  refine seq_g rfl henv rfl rfl (op_call henv rfl Tryd.call20 rfl (p_addN (xs := [1, 2, 3]) (ys := [4, 5]) (hst.pat (k := 4) rfl) hz269 (hst.pat (k := 0) rfl) hz279 (zk_small (by decide)) (zk_small (by decide)) (by decide) (by decide)) ?_)
  rintro e w287 ⟨_, rfl, ⟨A281, c282, es283, rfl, hr, hl284, hz285, hn286⟩, hb⟩
  refine ⟨_, rfl, ?_⟩
  clear henv a; intro a henv
  replace hst := hst.freshRd hb hr hl284 (ap_N hr.2.1 ⟨nou_bk rfl, nou_bk rfl, nou_bk rfl, nou_bk rfl, nou_bk rfl, trivial⟩)
  clear hr
  clear hb
  refine seq_g rfl henv rfl rfl (op_buildSlice (z := 1) (pv := #[(0, .int .i64 5), (1, .int .i64 7), (2, .int .i64 3)]) (c := #[.int .i64 5, .int .i64 7, .int .i64 3]) henv hst rfl Tryd.underlying22 (ty_int64.size) zero_int64 (by decide) (by decide) rfl (by kernel_rfl) ?_)
  clear henv hst a; intro a w289 g288 henv hst
  replace hst := hst.giveBk (f := fI) (F := FI) (k := 0) (n := 3) (es := [5, 7, 3]) rfl rfl fI_len rfl (by decide) (esT_P (fun _ => rfl) _ _) (fun _ _ _ _ => esT_foot (fun _ => rfl))
  refine seq_g rfl henv rfl rfl (op_call henv rfl Tryd.call18 rfl (p20_ref (es0 := [5, 7, 3]) (hst.pat (k := 0) rfl) (by unfold I64; decide) (by omega)) ?_)
  rintro e w296 ⟨_, rfl, ⟨A290, c291, es292, rfl, hr, hl293, hz294, hn295⟩, hb⟩
  refine ⟨_, rfl, ?_⟩
  clear henv a; intro a henv
  replace hst := hst.freshRd hb hr hl293 (ap_M hr.2.1 ⟨nou_bk rfl, nou_bk rfl, nou_bk rfl, nou_bk rfl, nou_bk rfl, trivial⟩)
  clear hr
  clear hb
  refine seq_g rfl henv rfl rfl (op_call henv rfl Tryd.call26 rfl (p20_is (xs := [5, 7, 3]) (ys := [5, 7, 3]) (hst.pat (k := 3) rfl) (hz285.trans (show _ = [5, 7, 3] by decide +kernel)) (hst.pat (k := 0) rfl) hz294 (zk_small (by decide)) (zk_small (by decide)) hn286) ?_)
  rintro e w297 ⟨rfl, hb⟩
  refine ⟨_, rfl, ?_⟩
  clear henv a; intro a henv
  replace hst := hst.call hb
  clear hb
  rw [show (decide (([5, 7, 3] : List Int) = [5, 7, 3])) = true from (decide_eq_true rfl)] at henv
  revert a
  refine sA (v := .bool true) rfl (fun _ henv => rn_pick henv rfl rfl) ?_
  refine mA rfl rfl ?_
  intro a henv
  refine seq_g rfl henv rfl rfl (op_buildSlice (z := 1) (pv := #[(0, .int .i64 1), (1, .int .i64 2)]) (c := #[.int .i64 1, .int .i64 2]) henv hst rfl Tryd.underlying22 (ty_int64.size) zero_int64 (by decide) (by decide) rfl (by kernel_rfl) ?_)
  clear henv hst a; intro a w299 g298 henv hst
  replace hst := hst.giveBk (f := fI) (F := FI) (k := 0) (n := 2) (es := [1, 2]) rfl rfl fI_len rfl (by decide) (esT_P (fun _ => rfl) _ _) (fun _ _ _ _ => esT_foot (fun _ => rfl))
  refine seq_g rfl henv rfl rfl (op_call henv rfl Tryd.call12 rfl (p20_list (es0 := [1, 2]) (hst.pat (k := 0) rfl) (by unfold I64; decide) (by omega)) ?_)
  rintro e w307 ⟨_, rfl, ⟨g300, ps301, rfl, hr, hl302, hz303⟩, hb⟩
  refine ⟨_, rfl, ?_⟩
  clear henv a; intro a henv
  replace hst := hst.freshRd hb hr hl302 (ap_N hr.2.1 ⟨nou_bk rfl, nou_bk rfl, nou_bk rfl, nou_bk rfl, nou_bk rfl, trivial⟩)
  clear hr
  obtain ⟨es304, hst, hl305, hz306⟩ := hst.listRow (k := 0) (n := 2) rfl hz303 (rfl)
  clear hb
  refine seq_g rfl henv rfl rfl (op_call henv rfl Tryd.call22 rfl (p_subN (xs := []) (ys := [1, 2]) (es0 := []) (row_nil fN FN 2 _) rfl (hst.pat (k := 0) rfl) hz306 (zk_small (by decide)) (zk_small (by decide)) (by decide) (by decide)) ?_)
  rintro e w314 ⟨_, rfl, ⟨A308, c309, es310, rfl, hr, hl311, hz312, hn313⟩, hb⟩
  refine ⟨_, rfl, ?_⟩
  clear henv a; intro a henv
  replace hst := hst.freshRd hb hr hl311 (ap_N hr.2.1 ⟨nou_bk rfl, nou_bk rfl, nou_bk rfl, nou_bk rfl, nou_bk rfl, trivial⟩)
  clear hr
  clear hb
  refine seq_g rfl henv rfl rfl (op_buildSlice (z := 1) (pv := #[(0, .int .i64 (-1)), (1, .int .i64 (-2))]) (c := #[.int .i64 (-1), .int .i64 (-2)]) henv hst rfl Tryd.underlying22 (ty_int64.size) zero_int64 (by decide) (by decide) rfl (by kernel_rfl) ?_)
  clear henv hst a; intro a w316 g315 henv hst
  replace hst := hst.giveBk (f := fI) (F := FI) (k := 0) (n := 2) (es := [(-1), (-2)]) rfl rfl fI_len rfl (by decide) (esT_P (fun _ => rfl) _ _) (fun _ _ _ _ => esT_foot (fun _ => rfl))
  refine seq_g rfl henv rfl rfl (op_call henv rfl Tryd.call18 rfl (p20_ref (es0 := [(-1), (-2)]) (hst.pat (k := 0) rfl) (by unfold I64; decide) (by omega)) ?_)
  rintro e w323 ⟨_, rfl, ⟨A317, c318, es319, rfl, hr, hl320, hz321, hn322⟩, hb⟩
  refine ⟨_, rfl, ?_⟩
  clear henv a; intro a henv
  replace hst := hst.freshRd hb hr hl320 (ap_M hr.2.1 ⟨nou_bk rfl, nou_bk rfl, nou_bk rfl, nou_bk rfl, nou_bk rfl, trivial⟩)
  clear hr
  clear hb
  refine seq_g rfl henv rfl rfl (op_call henv rfl Tryd.call26 rfl (p20_is (xs := [-1, -2]) (ys := [(-1), (-2)]) (hst.pat (k := 3) rfl) (hz312.trans (show _ = [-1, -2] by decide +kernel)) (hst.pat (k := 0) rfl) hz321 (zk_small (by decide)) (zk_small (by decide)) hn313) ?_)
  rintro e w324 ⟨rfl, hb⟩
  refine ⟨_, rfl, ?_⟩
  clear henv a; intro a henv
  replace hst := hst.call hb
  clear hb
  rw [show (decide (([-1, -2] : List Int) = [(-1), (-2)])) = true from (decide_eq_true rfl)] at henv
  revert a
  refine sA (v := .bool true) rfl (fun _ henv => rn_pick henv rfl rfl) ?_
  refine mA rfl rfl ?_
  intro a henv
  refine seq_g rfl henv rfl rfl (op_buildSlice (z := 1) (pv := #[(0, .int .i64 1), (1, .int .i64 (-2))]) (c := #[.int .i64 1, .int .i64 (-2)]) henv hst rfl Tryd.underlying22 (ty_int64.size) zero_int64 (by decide) (by decide) rfl (by kernel_rfl) ?_)
  clear henv hst a; intro a w326 g325 henv hst
  replace hst := hst.giveBk (f := fI) (F := FI) (k := 0) (n := 2) (es := [1, (-2)]) rfl rfl fI_len rfl (by decide) (esT_P (fun _ => rfl) _ _) (fun _ _ _ _ => esT_foot (fun _ => rfl))
  refine seq_g rfl henv rfl rfl (op_call henv rfl Tryd.call12 rfl (p20_list (es0 := [1, (-2)]) (hst.pat (k := 0) rfl) (by unfold I64; decide) (by omega)) ?_)
  rintro e w334 ⟨_, rfl, ⟨g327, ps328, rfl, hr, hl329, hz330⟩, hb⟩
  refine ⟨_, rfl, ?_⟩
  clear henv a; intro a henv
  replace hst := hst.freshRd hb hr hl329 (ap_N hr.2.1 ⟨nou_bk rfl, nou_bk rfl, nou_bk rfl, nou_bk rfl, nou_bk rfl, trivial⟩)
  clear hr
  obtain ⟨es331, hst, hl332, hz333⟩ := hst.listRow (k := 0) (n := 2) rfl hz330 (rfl)
  clear hb
  refine seq_g rfl henv rfl rfl (op_call henv rfl Tryd.call34 rfl (of_z (n := (-3 : Int)) (by decide) (by decide)) ?_)
  rintro e w338 ⟨_, rfl, ⟨A335, c336, rfl, hz337⟩, hb⟩
  refine ⟨_, rfl, ?_⟩
  clear henv a; intro a henv
  replace hst := (hst.call hb).addZ hz337 ⟨nou_bk rfl, nou_bk rfl, nou_bk rfl, nou_bk rfl, nou_bk rfl, trivial⟩
  clear hz337
  clear hb
  refine seq_g rfl henv rfl rfl (op_call henv rfl Tryd.call33 rfl (p_scale (xs := [1, (-2)]) (m := -3) (hst.pat (k := 1) rfl) hz333 (show ZIn _ A335 c336 (-3) from hst.pat (k := 0) rfl) (Nat.le_trans (nl_le_of_lt (k := 1) (by decide)) (by decide)) (zk_small (by decide)) (by decide)) ?_)
  rintro e w345 ⟨_, rfl, ⟨A339, c340, es341, rfl, hr, hl342, hz343, hn344⟩, hb⟩
  refine ⟨_, rfl, ?_⟩
  clear henv a; intro a henv
  replace hst := hst.freshRd hb hr hl342 (ap_N hr.2.1 ⟨nou_bk rfl, nou_bk rfl, nou_bk rfl, nou_bk rfl, nou_bk rfl, trivial⟩)
  clear hr
  clear hb
  refine seq_g rfl henv rfl rfl (op_buildSlice (z := 1) (pv := #[(0, .int .i64 (-3)), (1, .int .i64 6)]) (c := #[.int .i64 (-3), .int .i64 6]) henv hst rfl Tryd.underlying22 (ty_int64.size) zero_int64 (by decide) (by decide) rfl (by kernel_rfl) ?_)
  clear henv hst a; intro a w347 g346 henv hst
  replace hst := hst.giveBk (f := fI) (F := FI) (k := 0) (n := 2) (es := [(-3), 6]) rfl rfl fI_len rfl (by decide) (esT_P (fun _ => rfl) _ _) (fun _ _ _ _ => esT_foot (fun _ => rfl))
  refine seq_g rfl henv rfl rfl (op_call henv rfl Tryd.call18 rfl (p20_ref (es0 := [(-3), 6]) (hst.pat (k := 0) rfl) (by unfold I64; decide) (by omega)) ?_)
  rintro e w354 ⟨_, rfl, ⟨A348, c349, es350, rfl, hr, hl351, hz352, hn353⟩, hb⟩
  refine ⟨_, rfl, ?_⟩
  clear henv a; intro a henv
  replace hst := hst.freshRd hb hr hl351 (ap_M hr.2.1 ⟨nou_bk rfl, nou_bk rfl, nou_bk rfl, nou_bk rfl, nou_bk rfl, trivial⟩)
  clear hr
  clear hb
  refine seq_g rfl henv rfl rfl (op_call henv rfl Tryd.call26 rfl (p20_is (xs := [-3, 6]) (ys := [(-3), 6]) (hst.pat (k := 3) rfl) (hz343.trans (show _ = [-3, 6] by decide +kernel)) (hst.pat (k := 0) rfl) hz352 (zk_small (by decide)) (zk_small (by decide)) hn344) ?_)
  rintro e w355 ⟨rfl, hb⟩
  refine ⟨_, rfl, ?_⟩
  clear henv a; intro a henv
  replace hst := hst.call hb
  clear hb
  rw [show (decide (([-3, 6] : List Int) = [(-3), 6])) = true from (decide_eq_true rfl)] at henv
  revert a
  refine sA (v := .bool true) rfl (fun _ henv => rn_pick henv rfl rfl) ?_
  refine mA rfl rfl ?_
  refine gA (v := .int .i64 0) rfl rfl rfl rfl (fun _ henv => rn_move henv rfl) ?_
  refine gA (v := .bool true) rfl rfl rfl rfl (fun _ henv => rn_bin henv rfl rfl rfl) ?_
  refine sA (v := .bool true) rfl (fun _ henv => rn_pick henv rfl rfl) ?_
  refine mA rfl rfl ?_
  refine gA (v := .slice A62 4 c63) rfl rfl rfl rfl (fun _ henv => rn_move henv rfl) ?_
  intro a henv
  refine seq_g rfl henv rfl rfl (op_buildSlice (z := 1) (pv := #[(0, .int .i64 0), (1, .int .i64 0), (2, .int .i64 1), (3, .int .i64 2)]) (c := #[.int .i64 0, .int .i64 0, .int .i64 1, .int .i64 2]) henv hst rfl Tryd.underlying22 (ty_int64.size) zero_int64 (by decide) (by decide) rfl (by kernel_rfl) ?_)
  clear henv hst a; intro a w357 g356 henv hst
  replace hst := hst.giveBk (f := fI) (F := FI) (k := 0) (n := 4) (es := [0, 0, 1, 2]) rfl rfl fI_len rfl (by decide) (esT_P (fun _ => rfl) _ _) (fun _ _ _ _ => esT_foot (fun _ => rfl))
  refine seq_g rfl henv rfl rfl (op_call henv rfl Tryd.call18 rfl (p20_ref (es0 := [0, 0, 1, 2]) (hst.pat (k := 0) rfl) (by unfold I64; decide) (by omega)) ?_)
  rintro e w364 ⟨_, rfl, ⟨A358, c359, es360, rfl, hr, hl361, hz362, hn363⟩, hb⟩
  refine ⟨_, rfl, ?_⟩
  clear henv a; intro a henv
  replace hst := hst.freshRd hb hr hl361 (ap_M hr.2.1 ⟨nou_bk rfl, nou_bk rfl, nou_bk rfl, nou_bk rfl, nou_bk rfl, trivial⟩)
  clear hr
  clear hb
  refine seq_g rfl henv rfl rfl (op_call henv rfl Tryd.call26 rfl (p20_is (xs := [0, 0, 1, 2]) (ys := [0, 0, 1, 2]) (hst.pat (k := 90) rfl) (hz66.trans (show _ = [0, 0, 1, 2] by decide +kernel)) (hst.pat (k := 0) rfl) hz362 (zk_small (by decide)) (zk_small (by decide)) hn67) ?_)
  rintro e w365 ⟨rfl, hb⟩
  refine ⟨_, rfl, ?_⟩
  clear henv a; intro a henv
  replace hst := hst.call hb
  clear hb
  rw [show (decide (([0, 0, 1, 2] : List Int) = [0, 0, 1, 2])) = true from (decide_eq_true rfl)] at henv
  revert a
  refine sA (v := .bool true) rfl (fun _ henv => rn_pick henv rfl rfl) ?_
  refine mA rfl rfl ?_
  refine gA (v := .int .i64 2) rfl rfl rfl rfl (fun _ henv => rn_move henv rfl) ?_
  refine gA (v := .bool true) rfl rfl rfl rfl (fun _ henv => rn_bin henv rfl rfl rfl) ?_
  refine sA (v := .bool true) rfl (fun _ henv => rn_pick henv rfl rfl) ?_
  refine mA rfl rfl ?_
  refine gA (v := .int .i64 3) rfl rfl rfl rfl (fun _ henv => rn_move henv rfl) ?_
  refine gA (v := .bool true) rfl rfl rfl rfl (fun _ henv => rn_bin henv rfl rfl rfl) ?_
  refine sA (v := .bool true) rfl (fun _ henv => rn_pick henv rfl rfl) ?_
  refine mA rfl rfl ?_
  refine gA (v := .int .i64 0) rfl rfl rfl rfl (fun _ henv => rn_move henv rfl) ?_
  refine gA (v := .bool true) rfl rfl rfl rfl (fun _ henv => rn_bin henv rfl rfl rfl) ?_
  refine sA (v := .bool true) rfl (fun _ henv => rn_pick henv rfl rfl) ?_
  refine mA rfl rfl ?_
  refine gA (v := .agg #[.bool (neg (hval 2 1 [1, 2, 3])), .slice A91 (zl (hval 2 1 [1, 2, 3])) c92]) rfl rfl rfl rfl (fun _ henv => rn_load0 henv ty_anvil_integer_Int rfl (hst.oat (k := 4) rfl) rfl) ?_
  intro a henv
  refine seq_g rfl henv rfl rfl (op_call henv rfl Tryd.call15 rfl (text_z (z := (hval 2 1 [1, 2, 3])) (show ZIn _ A91 c92 (hval 2 1 [1, 2, 3]) from hst.pat (k := 81) rfl) (by omega)) ?_)
  rintro e w366 ⟨rfl, hb⟩
  refine ⟨_, rfl, ?_⟩
  clear henv a; intro a henv
  replace hst := hst.call hb
  clear hb
  refine seq_g rfl henv rfl rfl (op_val (v := .bool (decide ((textZ (hval 2 1 [1, 2, 3])) = [49, 55]))) henv rfl (rn_eqls (s := (textZ (hval 2 1 [1, 2, 3]))) (t := [49, 55]) henv rfl rfl) ?_)
  clear henv a; intro a henv
  rw [show (decide ((textZ (hval 2 1 [1, 2, 3])) = [49, 55])) = true from (decide_eq_true (by decide +kernel))] at henv
  revert a
  refine sA (v := .bool true) rfl (fun _ henv => rn_pick henv rfl rfl) ?_
  refine mA rfl rfl ?_
  refine gA (v := .int .i64 0) rfl rfl rfl rfl (fun _ henv => rn_move henv rfl) ?_
  refine gA (v := .bool true) rfl rfl rfl rfl (fun _ henv => rn_bin henv rfl rfl rfl) ?_
  refine sA (v := .bool true) rfl (fun _ henv => rn_pick henv rfl rfl) ?_
  refine mA rfl rfl ?_
  refine gA (v := .agg #[.bool (neg (hval 1 2 [1, 2, 3])), .slice A108 (zl (hval 1 2 [1, 2, 3])) c109]) rfl rfl rfl rfl (fun _ henv => rn_load0 henv ty_anvil_integer_Int rfl (hst.oat (k := 3) rfl) rfl) ?_
  intro a henv
  refine seq_g rfl henv rfl rfl (op_call henv rfl Tryd.call15 rfl (text_z (z := (hval 1 2 [1, 2, 3])) (show ZIn _ A108 c109 (hval 1 2 [1, 2, 3]) from hst.pat (k := 76) rfl) (by omega)) ?_)
  rintro e w367 ⟨rfl, hb⟩
  refine ⟨_, rfl, ?_⟩
  clear henv a; intro a henv
  replace hst := hst.call hb
  clear hb
  refine seq_g rfl henv rfl rfl (op_val (v := .bool (decide ((textZ (hval 1 2 [1, 2, 3])) = [49, 49]))) henv rfl (rn_eqls (s := (textZ (hval 1 2 [1, 2, 3]))) (t := [49, 49]) henv rfl rfl) ?_)
  clear henv a; intro a henv
  rw [show (decide ((textZ (hval 1 2 [1, 2, 3])) = [49, 49])) = true from (decide_eq_true (by decide +kernel))] at henv
  revert a
  refine sA (v := .bool true) rfl (fun _ henv => rn_pick henv rfl rfl) ?_
  refine mA rfl rfl ?_
  refine gA (v := .int .i64 2) rfl rfl rfl rfl (fun _ henv => rn_move henv rfl) ?_
  refine gA (v := .bool true) rfl rfl rfl rfl (fun _ henv => rn_bin henv rfl rfl rfl) ?_
  refine sA (v := .bool true) rfl (fun _ henv => rn_pick henv rfl rfl) ?_
  refine mA rfl rfl ?_
  refine gA (v := .int .i64 4) rfl rfl rfl rfl (fun _ henv => rn_move henv rfl) ?_
  refine gA (v := .bool true) rfl rfl rfl rfl (fun _ henv => rn_bin henv rfl rfl rfl) ?_
  refine sA (v := .bool true) rfl (fun _ henv => rn_pick henv rfl rfl) ?_
  refine mA rfl rfl ?_
  refine gA (v := .slice A142 3 c143) rfl rfl rfl rfl (fun _ henv => rn_move henv rfl) ?_
  intro a henv
  refine seq_g rfl henv rfl rfl (op_buildSlice (z := 1) (pv := #[(0, .int .i64 0), (1, .int .i64 0), (2, .int .i64 0)]) (c := #[.int .i64 0, .int .i64 0, .int .i64 0]) henv hst rfl Tryd.underlying22 (ty_int64.size) zero_int64 (by decide) (by decide) rfl (by kernel_rfl) ?_)
  clear henv hst a; intro a w369 g368 henv hst
  replace hst := hst.giveBk (f := fI) (F := FI) (k := 0) (n := 3) (es := [0, 0, 0]) rfl rfl fI_len rfl (by decide) (esT_P (fun _ => rfl) _ _) (fun _ _ _ _ => esT_foot (fun _ => rfl))
  refine seq_g rfl henv rfl rfl (op_call henv rfl Tryd.call18 rfl (p20_ref (es0 := [0, 0, 0]) (hst.pat (k := 0) rfl) (by unfold I64; decide) (by omega)) ?_)
  rintro e w376 ⟨_, rfl, ⟨A370, c371, es372, rfl, hr, hl373, hz374, hn375⟩, hb⟩
  refine ⟨_, rfl, ?_⟩
  clear henv a; intro a henv
  replace hst := hst.freshRd hb hr hl373 (ap_M hr.2.1 ⟨nou_bk rfl, nou_bk rfl, nou_bk rfl, nou_bk rfl, nou_bk rfl, trivial⟩)
  clear hr
  clear hb
  refine seq_g rfl henv rfl rfl (op_call henv rfl Tryd.call26 rfl (p20_is (xs := [0, 0, 0]) (ys := [0, 0, 0]) (hst.pat (k := 69) rfl) (hz146.trans (show _ = [0, 0, 0] by decide +kernel)) (hst.pat (k := 0) rfl) hz374 (zk_small (by decide)) (zk_small (by decide)) hn147) ?_)
  rintro e w377 ⟨rfl, hb⟩
  refine ⟨_, rfl, ?_⟩
  clear henv a; intro a henv
  replace hst := hst.call hb
  clear hb
  rw [show (decide (([0, 0, 0] : List Int) = [0, 0, 0])) = true from (decide_eq_true rfl)] at henv
  revert a
  refine sA (v := .bool true) rfl (fun _ henv => rn_pick henv rfl rfl) ?_
  refine mA rfl rfl ?_
  refine gA (v := .slice none 0 0) rfl rfl rfl rfl (fun _ henv => rn_move henv rfl) ?_
  refine gA (v := .bool none.isNone) rfl rfl rfl rfl (fun _ henv => rn_nilS henv Tryd.underlying32 rfl) ?_
  intro a henv
  rw [show none.isNone = true from rfl] at henv
  revert a
  refine sA (v := .bool true) rfl (fun _ henv => rn_pick henv rfl rfl) ?_
  refine mA rfl rfl ?_
  refine gA (v := .int .i64 0) rfl rfl rfl rfl (fun _ henv => rn_move henv rfl) ?_
  refine gA (v := .bool true) rfl rfl rfl rfl (fun _ henv => rn_bin henv rfl rfl rfl) ?_
  refine sA (v := .bool true) rfl (fun _ henv => rn_pick henv rfl rfl) ?_
  refine mA rfl rfl ?_
  refine gA (v := .agg #[.int .i64 0, .int .i64 0]) rfl rfl rfl rfl (fun _ henv => rn_load0 henv ty_anvil_api_Spot rfl (hst.oat (k := 1) rfl) rfl) ?_
  refine gA (v := .agg #[.int .i64 0, .int .i64 0]) rfl rfl rfl rfl (fun _ henv => rn_spot0) ?_
  refine gA (v := .bool (decide ([(0 : Int), (0 : Int)] = [(0 : Int), (0 : Int)]))) rfl rfl rfl rfl (fun _ henv => rn_eqlI [(0 : Int), (0 : Int)] [(0 : Int), (0 : Int)] henv spotI rfl rfl rfl rfl) ?_
  intro a henv
  rw [show (decide ([(0 : Int), (0 : Int)] = [(0 : Int), (0 : Int)])) = true from (decide_eq_true rfl)] at henv
  revert a
  refine sA (v := .bool true) rfl (fun _ henv => rn_pick henv rfl rfl) ?_
  refine mA rfl rfl ?_
  refine gA (v := .slice A160 2 c161) rfl rfl rfl rfl (fun _ henv => rn_move henv rfl) ?_
  intro a henv
  refine seq_g rfl henv rfl rfl (op_buildSlice (z := 1) (pv := #[(0, .int .i64 1), (1, .int .i64 (-2))]) (c := #[.int .i64 1, .int .i64 (-2)]) henv hst rfl Tryd.underlying22 (ty_int64.size) zero_int64 (by decide) (by decide) rfl (by kernel_rfl) ?_)
  clear henv hst a; intro a w379 g378 henv hst
  replace hst := hst.giveBk (f := fI) (F := FI) (k := 0) (n := 2) (es := [1, (-2)]) rfl rfl fI_len rfl (by decide) (esT_P (fun _ => rfl) _ _) (fun _ _ _ _ => esT_foot (fun _ => rfl))
  refine seq_g rfl henv rfl rfl (op_call henv rfl Tryd.call18 rfl (p20_ref (es0 := [1, (-2)]) (hst.pat (k := 0) rfl) (by unfold I64; decide) (by omega)) ?_)
  rintro e w386 ⟨_, rfl, ⟨A380, c381, es382, rfl, hr, hl383, hz384, hn385⟩, hb⟩
  refine ⟨_, rfl, ?_⟩
  clear henv a; intro a henv
  replace hst := hst.freshRd hb hr hl383 (ap_M hr.2.1 ⟨nou_bk rfl, nou_bk rfl, nou_bk rfl, nou_bk rfl, nou_bk rfl, trivial⟩)
  clear hr
  clear hb
  refine seq_g rfl henv rfl rfl (op_call henv rfl Tryd.call26 rfl (p20_is (xs := [1, -2]) (ys := [1, (-2)]) (hst.pat (k := 67) rfl) hz164 (hst.pat (k := 0) rfl) hz384 (zk_small (by decide)) (zk_small (by decide)) hn165) ?_)
  rintro e w387 ⟨rfl, hb⟩
  refine ⟨_, rfl, ?_⟩
  clear henv a; intro a henv
  replace hst := hst.call hb
  clear hb
  rw [show (decide (([1, -2] : List Int) = [1, (-2)])) = true from (decide_eq_true rfl)] at henv
  revert a
  refine sA (v := .bool true) rfl (fun _ henv => rn_pick henv rfl rfl) ?_
  refine mA rfl rfl ?_
  refine gA (v := .agg #[.int .i64 6, .int .i64 2]) rfl rfl rfl rfl (fun _ henv => rn_load0 henv ty_anvil_api_Spot rfl (hst.oat (k := 0) rfl) rfl) ?_
  refine gA (v := .agg #[.int .i64 6, .int .i64 2]) rfl rfl rfl rfl (fun _ henv => rn_spot2 henv rfl rfl) ?_
  refine gA (v := .bool (decide ([(6 : Int), (2 : Int)] = [(6 : Int), (2 : Int)]))) rfl rfl rfl rfl (fun _ henv => rn_eqlI [(6 : Int), (2 : Int)] [(6 : Int), (2 : Int)] henv spotI rfl rfl rfl rfl) ?_
  intro a henv
  rw [show (decide ([(6 : Int), (2 : Int)] = [(6 : Int), (2 : Int)])) = true from (decide_eq_true rfl)] at henv
  revert a
  refine sA (v := .bool true) rfl (fun _ henv => rn_pick henv rfl rfl) ?_
  refine aA rfl rfl ?_
  intro a henv
  refine wpList_nil ?_
  refine th_n ?_
  refine wp_ret ?_
  refine leave henv (res1 Tryd.results9 (RV.tmp henv rfl)) ?_
  exact ⟨rfl, hst.below⟩
end Go.Proofs.YtghaenkacjgdnaaDoor.W
