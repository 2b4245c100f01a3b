/- row.Over, Content, Primitive; the reference's Over, Content, Zero, Primitive. Printed by pv/gen_row9.py. No condition. -/
import Derived.Test.YtghaenkacjgdnaaDoorM47
import Derived.Test.YtghaenkacjgdnaaDoorM15
import Derived.Test.YtghaenkacjgdnaaDoorM38
import Derived.Test.YtghaenkacjgdnaaDoorM49
import Derived.Test.YtghaenkacjgdnaaDoorM24
import Derived.Test.YtghaenkacjgdnaaDoorM36

namespace Go.Proofs.YtghaenkacjgdnaaDoor.W
open Go.RowKit Anv Go.Lib
def ovr (x y : Int) : Int := if x % y = 0 then x / y else 0
theorem divs_step {es : List NE} {xs : List Int} {j : Nat} {A : Option Addr} {c : Nat} {z m : Int} (hz : es.map zz = xs) (hd : divs m (xs.take j)) (he : es[j]? = some (A, c, z)) (h : z % m = 0) : divs m (xs.take (j + 1)) := by
  rw [ztake_snoc hz he]
  intro x hx
  rcases List.mem_append.1 hx with hx | hx
  · exact hd x hx
  · rw [List.mem_singleton.1 hx]; exact h
end Go.Proofs.YtghaenkacjgdnaaDoor.W

/- RowSums: the law's walk. Printed by pv/gen_rowA.py. No condition. -/
namespace Go.Proofs.YtghaenkacjgdnaaDoor.W
open Go.RowKit Anv Go.Lib
theorem Zk.zb {k : Nat} {es : List NE} (h : Zk k (es.map zz)) : ZB k es := h.es rfl
end Go.Proofs.YtghaenkacjgdnaaDoor.W

/- RowTexts, RowReads: the laws' walks. Printed by pv/gen_rowE.py. No condition. -/
namespace Go.Proofs.YtghaenkacjgdnaaDoor.W
open Go.RowKit Anv Go.Lib
theorem go_total {s : List UInt8} : ∀ (n p : Nat) (zs : List Int), s.length + 1 - p = n → p ≤ s.length → ∃ r, Go s p zs r := by
  intro n
  induction n using Nat.strongRecOn with
  | _ n ih =>
    intro p zs hn hp
    obtain ⟨q, hq⟩ := seg_ex (s := s) _ p rfl hp
    rcases word_cases (cutw s p q) with ⟨z, hz⟩ | ⟨b, hb⟩
    · rcases Nat.lt_or_ge q s.length with hlt | hge
      · rcases hq.2.2.2 hlt with hc | hc
        · obtain ⟨r, hr⟩ := ih (s.length + 1 - (q + 1)) (by have := hq.1; omega) (q + 1) (zs ++ [z]) rfl (by omega)
          exact ⟨r, .next hq hz hlt hc hr⟩
        · rcases Nat.lt_or_ge (q + 1) s.length with h1 | h1
          · exact ⟨_, .more hq hz hc h1⟩
          · exact ⟨_, .done hq hz hc (by omega)⟩
      · exact ⟨_, seg_fin hq hz (by have := hq.2.1; omega)⟩
    · exact ⟨_, .bad hq hb⟩
theorem rd0_total (s : List UInt8) : ∃ r, Rd0 s r := by
  by_cases hne : s = []
  · exact ⟨_, .no (.inl hne)⟩
  by_cases h0 : (s.getD 0 0).toNat = 91
  · by_cases h1 : 1 < s.length ∧ (s.getD 1 0).toNat = 93
    · rcases Nat.lt_or_ge 2 s.length with h2 | h2
      · exact ⟨_, .tail h0 h1.2 h2⟩
      · exact ⟨_, .void h0 h1.2 (by omega)⟩
    · obtain ⟨r, hr⟩ := go_total (s := s) _ 1 [] rfl (List.length_pos_iff.2 hne)
      exact ⟨r, .go h0 hne h1 hr⟩
  · exact ⟨_, .no (.inr h0)⟩
theorem pre_len (zs : List Int) : 2 * zs.length + 1 ≤ (preT zs).length := by
  unfold preT
  rw [List.length_cons]
  induction zs with
  | nil => simp
  | cons z zs ih =>
    have h := rz_pos (rz_text z)
    rw [List.flatMap_cons, List.length_append, List.length_append, List.length_cons, List.length_cons, List.length_nil]
    omega
theorem row_read_ok {s : List UInt8} {zs : List Int} {n : Nat} {w0 : World} (h : Rd0 s (.inl zs)) (hn : zs.length = n) (hl : s.length < 8193) :
    Calls Tryd.prog 78 #[.string ⟨s.toArray⟩] w0 fun e w' => ∃ v, e = .returned (.tuple #[v, .agg #[.int .i64 0, .int .i64 0]]) ∧ ZRow w0.heap.size w' v n zs ∧ Below w0.heap.size w0 w' := by
  refine (row_read (by omega)).mono fun e w' ⟨hp, hb⟩ => ?_
  rcases hp with ⟨zs', n', v, h1, h2, _, he, hz⟩ | ⟨b, h1, _⟩ | ⟨p, zs', h1, h2, h3, _⟩
  · obtain rfl : zs = zs' := Sum.inl.inj (rd0_det h h1)
    obtain rfl : n = n' := hn.symm.trans h2
    exact ⟨v, he, hz, hb⟩
  · cases rd0_det h h1
  · have h4 := pre_len zs'
    rw [← h3, List.length_take] at h4
    omega
theorem row_read_bad {s : List UInt8} {b : Nat} {w0 : World} (h : Rd0 s (.inr b)) (hl : s.length < 8193) :
    Calls Tryd.prog 78 #[.string ⟨s.toArray⟩] w0 fun e w' => e = .returned (.tuple #[.slice none 0 0, .agg #[.int .i64 6, .int .i64 (b : Nat)]]) ∧ Below w0.heap.size w0 w' := by
  refine (row_read (by omega)).mono fun e w' ⟨hp, hb⟩ => ?_
  rcases hp with ⟨zs', n', v, h1, _⟩ | ⟨c, h1, he⟩ | ⟨p, zs', h1, h2, h3, _⟩
  · cases rd0_det h h1
  · obtain rfl : b = c := Sum.inr.inj (rd0_det h h1)
    exact ⟨he, hb⟩
  · have h4 := pre_len zs'
    rw [← h3, List.length_take] at h4
    omega
theorem row_text' {A0 : Option Addr} {n0 c0 : Nat} {es0 : List NE} {xs : List Int} {w0 : World} (h0 : (pfRow fN FN 2 A0 n0 c0 es0).P w0) (hz0 : es0.map zz = xs) (hk : Zk 90000 xs) (hn : n0 ≤ 1000000) :
    Calls Tryd.prog 79 #[.slice A0 n0 c0] w0 fun e w' => e = .returned (.string ⟨(textRow xs).toArray⟩) ∧ Below w0.heap.size w0 w' := by
  subst hz0
  exact row_text h0 hk.zb hn
theorem text_flat (zs : List Int) : (textRow zs).length ≤ 2 + (zs.map fun z => (textZ z).length + 1).sum ∧ (zs.map fun z => (textZ z).length).sum ≤ (textRow zs).length ∧ 2 + zs.length ≤ (textRow zs).length + 1 := by
  have h : ∀ l : List Int, ((l.map textZ).flatMap fun t => (32 : UInt8) :: t).length = (l.map fun z => (textZ z).length + 1).sum := by
    intro l
    induction l with
    | nil => rfl
    | cons z l ih => rw [List.map_cons, List.flatMap_cons, List.length_append, List.length_cons, ih]; simp
  have h2 : ∀ l : List Int, (l.map fun z => (textZ z).length).sum ≤ (l.map fun z => (textZ z).length + 1).sum := by
    intro l
    induction l with
    | nil => simp
    | cons z l ih => simp only [List.map_cons, List.sum_cons]; omega
  have h3 : ∀ l : List Int, l.length ≤ (l.map fun z => (textZ z).length + 1).sum := by
    intro l
    induction l with
    | nil => simp
    | cons z l ih => simp only [List.map_cons, List.sum_cons, List.length_cons]; omega
  cases zs with
  | nil => simp [textRow, jn]
  | cons z zs =>
    have e : (textRow (z :: zs)).length = 2 + (textZ z).length + (zs.map fun z => (textZ z).length + 1).sum := by
      simp only [textRow, jn, List.map_cons, List.length_cons, List.length_append, List.length_nil]
      rw [h]
      omega
    have h4 := h2 zs
    have h5 := h3 zs
    simp only [List.map_cons, List.sum_cons, List.length_cons]
    omega
theorem sum_mem {l : List Int} {f : Int → Nat} {z : Int} (h : z ∈ l) : f z ≤ (l.map f).sum := by
  induction l with
  | nil => cases h
  | cons x l ih =>
    rw [List.map_cons, List.sum_cons]
    rcases List.mem_cons.1 h with rfl | h
    · omega
    · have := ih h; omega
theorem text_sizes {s : List UInt8} {zs : List Int} (h : textRow zs = s) : zs.length ≤ s.length ∧ ∀ z ∈ zs, zl z ≤ s.length + 1 := by
  subst h
  obtain ⟨_, h2, h3⟩ := text_flat zs
  refine ⟨by omega, fun z hz => ?_⟩
  have h4 : (textZ z).length ≤ _ := sum_mem (f := fun z => (textZ z).length) hz
  have h5 := rz_zl (rz_text z)
  omega
end Go.Proofs.YtghaenkacjgdnaaDoor.W

/- anvillaw20's list, ref, is, works; slices.Clone, poly.Trim, Same, Text, Read. Printed by pv/gen_po1.py. No condition. -/
namespace Go.Proofs.YtghaenkacjgdnaaDoor.W
open Go.RowKit Anv Go.Lib
def LRowS (B : Nat) (w : World) (v : Value) (n : Nat) (zs : List Int) : Prop := ∃ g es, v = .slice (some ⟨g, 0, none⟩) n (n + 2) ∧ NewRow notU 28 2 fN FN B w (some ⟨g, 0, none⟩) (n + 2) (n + 2) es ∧ es.length = n + 2 ∧ es.map zz = zs ++ [0, 0]
def ZRowN (B : Nat) (w : World) (v : Value) (n : Nat) (zs : List Int) : Prop := ∃ A c es, v = .slice A n c ∧ NewRow notU 28 2 fN FN B w A n c es ∧ es.length = n ∧ es.map zz = zs ∧ (n = 0 → A = none)
def MRowN (B : Nat) (w : World) (v : Value) (n : Nat) (zs : List Int) : Prop := ∃ A c es, v = .slice A n c ∧ NewRow notU 39 2 fM FM B w A n c es ∧ es.length = n ∧ es.map zz = zs ∧ (n = 0 → A = none)
theorem zrown_nil {B n : Nat} {w : World} {zs : List Int} (hn : n = 0) (hz : zs = []) : ZRowN B w (.slice none 0 0) n zs := by
  subst hn hz
  exact ⟨none, 0, [], rfl, ⟨⟨World.ownsRow_nil w 0 _ 2, fun g hg => by simp [Value.ownBlock] at hg⟩, es_nil FN w, fun a h => by cases h⟩, rfl, rfl, fun _ => rfl⟩
theorem lst_step {ps : List NE} {es : List Int} {j m c : Nat} {A : Option Addr} {x : Int} (ho : ps.map zz = es.take j ++ List.replicate (m - j) 0) (he : es[j]? = some x) (hm : j < m) : (ps.set j (A, c, x)).map zz = es.take (j + 1) ++ List.replicate (m - (j + 1)) 0 := by
  have hl : (es.take j).length = j := by
    rw [List.length_take]
    have := (List.getElem?_eq_some_iff.1 he).1
    omega
  rw [List.map_set, ho, List.set_append_right _ _ (by omega), hl, Nat.sub_self, show m - j = (m - (j + 1)) + 1 by omega, List.replicate_succ, List.set_cons_zero, take_one he, List.append_assoc]
  rfl
theorem row_some {α : Type} {f : α → List Value} {F : α → PF} {z n c : Nat} {A : Option Addr} {es : List α} {w : World} (hn : 0 < n) (h : (pfRow f F z A n c es).P w) : A.isNone = false := by
  obtain ⟨b, off, rfl, _⟩ := h.1.cells hn
  rfl
theorem row_none {α : Type} {f : α → List Value} {F : α → PF} {z n c : Nat} {A : Option Addr} {es : List α} {w : World} (h : (pfRow f F z A n c es).P w) (hA : A = none) : n = 0 := by
  subst hA
  rcases Nat.eq_zero_or_pos n with h0 | h0
  · exact h0
  · obtain ⟨b, off, e, _⟩ := h.1.cells h0
    cases e
theorem nil_eq {A : Option Addr} {n : Nat} (h : n = 0 → A = none) (h' : A = none → n = 0) : (A.isNone == (((n : Nat) : Int) == (0 : Int))) = true := by
  rcases Nat.eq_zero_or_pos n with h0 | h0
  · rw [h h0, h0]; rfl
  · cases A with
    | none => exact absurd (h' rfl) (by omega)
    | some a =>
      rw [beq_eq_false_iff_ne.2 (show ((n : Nat) : Int) ≠ 0 by omega)]
      rfl
theorem St.listRow {w0 w : World} {own ps : List PF} {k n m c : Nat} {A : Option Addr} {es : List NE} {zs : List Int} (h : St w0 w own ps) (hk : ps[k]? = some (pfRow fN FN 2 A m c es)) (hz : es.map zz = zs ++ [0, 0]) (hl : zs.length = n) : ∃ es' : List NE, St w0 w own (pfRow fN FN 2 A n c es' :: ps) ∧ es'.length = n ∧ es'.map zz = zs := by
  have h1 : es.length = m := (h.pat hk).2.1
  have h2 := congrArg List.length hz
  rw [List.length_map, List.length_append] at h2
  simp only [List.length_cons, List.length_nil] at h2
  refine ⟨es.take n, h.preRow hk n fN_len (by omega), by rw [List.length_take]; omega, ?_⟩
  rw [List.map_take, hz, List.take_left' hl]
set_option maxRecDepth 100000 in
set_option maxHeartbeats 2000000 in
theorem p20_list {A0 : Option Addr} {n0 c0 : Nat} {es0 : List Int} {w0 : World} (h0 : (pfRow fI FI 1 A0 n0 c0 es0).P w0) (hI : I64 es0) (hn : n0 ≤ 10000000) :
    Calls Tryd.prog 12 #[.slice A0 n0 c0] w0 fun e w' => ∃ v, e = .returned v ∧ LRowS w0.heap.size w' v n0 es0 ∧ Below w0.heap.size w0 w' := by
  refine enter Tryd.func12 rfl Tryd.ntmps12 rfl ?_
  intro a henv hst
  have hlen0 := h0.2.1
  have hbig0 := Nat.le_trans h0.1.cap h0.1.big
  unfold maxLen at hbig0
  replace hst := hst.argRow h0
  clear h0
  refine wp_seq ?_
  refine region_seq ?_
  refine sv (v := .slice none 0 0) henv rfl (rn_assign henv rfl) ?_
  clear henv a; intro a henv
  refine wpList_nil ?_
  refine th_n ?_
  refine wp_seq ?_
  refine region_seq ?_
  revert a
  refine mA rfl rfl ?_
  refine sA (v := .int .i64 (n0 : Nat)) rfl (fun _ henv => rn_len henv Tryd.underlying22 rfl) ?_
  refine sA (v := .int .i64 (n0 + 2 : Nat)) rfl (fun _ henv => rn_add henv rfl rfl (by rw [IntWalk.i64_in _ (by omega)]; omega)) ?_
  intro a henv
  refine seq_step rfl (op_makeC (f := fN) (e0 := (none, 0, 0)) (q := notU) (n := 0) (m := n0 + 2) henv hst rfl Tryd.underlying32 inf_anvil_integer_Int rfl rfl fN_zero rfl rfl rfl (by omega) (by omega) (by unfold maxLen; omega) ?_)
  clear henv hst a; intro a w52 g51 henv hst
  have hzl : zl 0 = 0 := zl_zero
  replace hst := hst.addNs (es_zeros (n0 + 2) _) ⟨nou_rowS, trivial⟩
  refine sv (v := .slice (some ⟨g51, 0, none⟩) 0 (n0 + 2)) henv rfl (rn_assign henv rfl) ?_
  clear henv a; intro a henv
  refine wpList_nil ?_
  refine th_n ?_
  refine wp_seq ?_
  refine wp_seq ?_
  refine region_seq ?_
  revert a
  refine mA rfl rfl ?_
  refine sA (v := .int .i64 (n0 : Nat)) rfl (fun _ henv => rn_len henv Tryd.underlying22 rfl) ?_
  refine mA rfl rfl ?_
  intro a henv
  refine wpList_nil ?_
  refine th_n ?_
  refine wp_block ?_
  refine wp_loop_ghost (fun mz a w => ∃ j : Nat, ∃ ps : List NE, n0 - j = mz ∧ Env 23 a [(10, .slice A0 n0 c0), (11, .int .i64 (n0 : Nat)), (12, .int .i64 (j : Nat)), (3, .slice (some ⟨g51, 0, none⟩) j (n0 + 2))] ∧ St w0 w [rowS notU 28 2 (some ⟨g51, 0, none⟩) (n0 + 2) (n0 + 2) (fl fN ps)] [pfRow fI FI 1 A0 n0 c0 es0, pfEs FN ps] ∧ j ≤ n0 ∧ ps.map zz = es0.take j ++ List.replicate (n0 + 2 - j) 0) _ ⟨0, (List.replicate (n0 + 2) (none, 0, 0)), rfl, henv.sub ⟨rfl, rfl, rfl, rfl, trivial⟩, hst.pick [0] [1, 0] (by decide), (Nat.zero_le _), (by rw [List.map_replicate]; rfl)⟩ ?_
  clear henv hst a
  rintro mz a w53 ⟨j, ps, rfl, henv, hst, hj, ho⟩
  refine wp_seq ?_
  refine region_seq ?_
  refine sv (v := .bool (decide (((j : Nat) : Int) < ((n0 : Nat) : Int)))) henv rfl (rn_bin henv rfl rfl rfl) ?_
  clear henv a; intro a henv
  refine wpList_nil ?_
  refine th_n ?_
  refine wp_seq ?_
  refine if_split henv rfl (fun hc54 => ?_) (fun hc54 => ?_)
  · have hlt : j < n0 := by have := of_decide_eq_true hc54; omega
    obtain ⟨x, he0⟩ : ∃ x, es0[j]? = some x := ⟨_, List.getElem?_eq_getElem (by omega)⟩
    have hx := hI.at he0
    have hpl : ps.length = n0 + 2 := map_len ho (by simp; omega)
    refine wp_skip ?_
    refine th_n ?_
    refine wp_seq ?_
    refine wp_block ?_
    refine wp_seq ?_
    refine region_seq ?_
    revert a
    refine sA (v := .pointer (some ⟨ab A0, ao A0 + j * 1, none⟩)) rfl (fun _ henv => rn_idxR (i := j) henv Tryd.underlying22 (ty_int64.size) rfl rfl (by omega) rfl (show (pfRow fI FI 1 A0 n0 c0 es0).P _ from (hst.pat (k := 0) rfl)).1) ?_
    refine sA (v := .int .i64 x) rfl (fun _ henv => rn_loadE1 (i := j) (j := 0) (e := x) henv ty_int64 rfl rfl fI_len (by decide) (show (pfRow fI FI 1 A0 n0 c0 es0).P _ from (hst.pat (k := 0) rfl)).1 (by omega) he0 rfl) ?_
    refine aA rfl rfl ?_
    intro a henv
    refine wpList_nil ?_
    refine th_n ?_
    refine region_seq ?_
    revert a
    refine mA rfl rfl ?_
    refine mA rfl rfl ?_
    intro a henv
    refine seq_step rfl (op_call henv rfl Tryd.call34 rfl (of_z (n := x) (by omega) (by omega)) ?_)
    rintro e w58 ⟨_, rfl, ⟨A55, c56, rfl, hz57⟩, hb⟩
    refine ⟨_, rfl, ?_⟩
    clear henv a; intro a henv
    replace hst := (hst.call hb).addZ hz57 ⟨nou_rowS, trivial⟩
    clear hz57
    clear hb
    refine seq_step rfl (op_buildSlice (z := 2) (pv := #[(0, .agg #[.bool (neg x), .slice A55 (zl x) c56])]) (c := #[.bool (neg x), .slice A55 (zl x) c56]) henv hst rfl Tryd.underlying32 (ty_anvil_integer_Int.size) zero_anvil_integer_Int (by decide) (by decide) rfl (by kernel_rfl) ?_)
    clear henv hst a; intro a w60 g59 henv hst
    refine seq_step rfl (op_appendIn (f := fN) (e := (A55, c56, x)) (k := 1) (j := 0) henv hst rfl Tryd.underlying32 (ty_anvil_integer_Int.size) rfl rfl rfl rfl fN_len rfl (by omega) hpl rfl rfl ?_)
    clear henv hst a; intro a w61 henv hst
    replace hst := hst.setEs (e := (A55, c56, x)) (i := 2) (j := 0) rfl rfl j
    refine sv (v := .slice (some ⟨g51, 0, none⟩) (j + 1) (n0 + 2)) henv rfl (rn_assign henv rfl) ?_
    clear henv a; intro a henv
    refine wpList_nil ?_
    refine bl_n (th_n ?_)
    refine region_seq ?_
    revert a
    refine sA (v := .int .i64 (j + 1 : Nat)) rfl (fun _ henv => rn_add henv rfl rfl (by rw [IntWalk.i64_in _ (by omega)]; omega)) ?_
    refine mA rfl rfl ?_
    intro a henv
    refine wpList_nil ?_
    exact th_n ⟨_, (by omega), ⟨j + 1, (ps.set j (A55, c56, x)), rfl, henv.sub ⟨rfl, rfl, rfl, rfl, trivial⟩, hst.pick [1] [2, 0] (by decide), (by omega), (lst_step ho he0 (by omega))⟩⟩
  · obtain rfl : n0 = j := by have := of_decide_eq_false hc54; omega
    refine wp_exit ?_
    refine th_x (th_x (bl_x (th_n ?_)))
    refine wp_seq ?_
    refine region_seq ?_
    revert a
    refine mA rfl rfl ?_
    refine aA rfl rfl ?_
    intro a henv
    refine wpList_nil ?_
    refine th_n ?_
    refine wp_ret ?_
    refine leave henv (res1 Tryd.results12 (RV.tmp henv rfl)) ?_
    rw [List.take_of_length_le (by omega)] at ho
    exact ⟨_, rfl, ⟨_, ps, rfl, hst.newRow (k := 0) (j := 1) rfl rfl, map_len ho (by simp; omega), by rw [ho, show n0 + 2 - n0 = 2 by omega]; rfl⟩, hst.below⟩
set_option maxRecDepth 100000 in
set_option maxHeartbeats 2000000 in
theorem p20_ref {A0 : Option Addr} {n0 c0 : Nat} {es0 : List Int} {w0 : World} (h0 : (pfRow fI FI 1 A0 n0 c0 es0).P w0) (hI : I64 es0) (hn : n0 ≤ 10000000) :
    Calls Tryd.prog 18 #[.slice A0 n0 c0] w0 fun e w' => ∃ v, e = .returned v ∧ MRowN w0.heap.size w' v n0 es0 ∧ Below w0.heap.size w0 w' := by
  refine enter Tryd.func18 rfl Tryd.ntmps18 rfl ?_
  intro a henv hst
  have hlen0 := h0.2.1
  have hbig0 := Nat.le_trans h0.1.cap h0.1.big
  unfold maxLen at hbig0
  replace hst := hst.argRow h0
  clear h0
  refine wp_seq ?_
  refine region_seq ?_
  refine sv (v := .slice none 0 0) henv rfl (rn_assign henv rfl) ?_
  clear henv a; intro a henv
  refine wpList_nil ?_
  refine th_n ?_
  refine wp_seq ?_
  refine region_seq ?_
  refine sv (v := .slice none 0 0) henv rfl (rn_assign henv rfl) ?_
  clear henv a; intro a henv
  refine wpList_nil ?_
  refine th_n ?_
  refine wp_seq ?_
  refine wp_seq ?_
  refine region_seq ?_
  revert a
  refine mA rfl rfl ?_
  refine sA (v := .int .i64 (n0 : Nat)) rfl (fun _ henv => rn_len henv Tryd.underlying22 rfl) ?_
  refine mA rfl rfl ?_
  intro a henv
  refine wpList_nil ?_
  refine th_n ?_
  refine wp_block ?_
  replace hst := (hst.addRowS notU 39 2).nilEs FM
  replace hst : St w0 _ [rowS notU 39 2 none 0 0 (fl fM ([]))] [pfEs FM ([]), pfRow fI FI 1 A0 n0 c0 es0] := hst
  refine wp_loop_ghost (fun mz a w => ∃ j : Nat, ∃ B : Option Addr, ∃ d : Nat, ∃ os : List NE, n0 - j = mz ∧ Env 19 a [(6, .slice A0 n0 c0), (7, .int .i64 (n0 : Nat)), (8, .int .i64 (j : Nat)), (3, .slice B j d)] ∧ St w0 w [rowS notU 39 2 B j d (fl fM os)] [pfRow fI FI 1 A0 n0 c0 es0, pfEs FM os] ∧ j ≤ n0 ∧ os.map zz = es0.take j ∧ (j = 0 → B = none)) _ ⟨0, none, 0, [], rfl, henv.sub ⟨rfl, rfl, rfl, rfl, trivial⟩, hst.pick [0] [1, 0] (by decide), (Nat.zero_le _), rfl, (fun _ => rfl)⟩ ?_
  clear henv hst a
  rintro mz a w51 ⟨j, B, d, os, rfl, henv, hst, hj, ho, hB⟩
  refine wp_seq ?_
  refine region_seq ?_
  refine sv (v := .bool (decide (((j : Nat) : Int) < ((n0 : Nat) : Int)))) henv rfl (rn_bin henv rfl rfl rfl) ?_
  clear henv a; intro a henv
  refine wpList_nil ?_
  refine th_n ?_
  refine wp_seq ?_
  refine if_split henv rfl (fun hc52 => ?_) (fun hc52 => ?_)
  · have hlt : j < n0 := by have := of_decide_eq_true hc52; omega
    obtain ⟨x, he0⟩ : ∃ x, es0[j]? = some x := ⟨_, List.getElem?_eq_getElem (by omega)⟩
    have hx := hI.at he0
    refine wp_skip ?_
    refine th_n ?_
    refine wp_seq ?_
    refine wp_block ?_
    refine wp_seq ?_
    refine region_seq ?_
    revert a
    refine sA (v := .pointer (some ⟨ab A0, ao A0 + j * 1, none⟩)) rfl (fun _ henv => rn_idxR (i := j) henv Tryd.underlying22 (ty_int64.size) rfl rfl (by omega) rfl (show (pfRow fI FI 1 A0 n0 c0 es0).P _ from (hst.pat (k := 0) rfl)).1) ?_
    refine sA (v := .int .i64 x) rfl (fun _ henv => rn_loadE1 (i := j) (j := 0) (e := x) henv ty_int64 rfl rfl fI_len (by decide) (show (pfRow fI FI 1 A0 n0 c0 es0).P _ from (hst.pat (k := 0) rfl)).1 (by omega) he0 rfl) ?_
    refine aA rfl rfl ?_
    intro a henv
    refine wpList_nil ?_
    refine th_n ?_
    refine region_seq ?_
    revert a
    refine mA rfl rfl ?_
    refine mA rfl rfl ?_
    intro a henv
    refine seq_step rfl (op_call henv rfl Tryd.call36 rfl (of_r (n := x) (by omega) (by omega)) ?_)
    rintro e w56 ⟨_, rfl, ⟨A53, c54, rfl, hz55⟩, hb⟩
    refine ⟨_, rfl, ?_⟩
    clear henv a; intro a henv
    replace hst := (hst.call hb).addR hz55 ⟨nou_rowS, trivial⟩
    clear hz55
    clear hb
    refine seq_step rfl (op_buildSlice (z := 2) (pv := #[(0, .agg #[.bool (neg x), .slice A53 (dl x) c54])]) (c := #[.bool (neg x), .slice A53 (dl x) c54]) henv hst rfl Tryd.underlying42 (ty_anvil_anvilref02_Int.size) zero_anvil_anvilref02_Int (by decide) (by decide) rfl (by kernel_rfl) ?_)
    clear henv hst a; intro a w58 g57 henv hst
    refine seq_step rfl (op_appendS (k := 1) (j := 0) henv hst rfl Tryd.underlying42 inf_anvil_anvilref02_Int rfl rfl rfl rfl rfl rfl rfl rfl rfl rfl rfl (by unfold maxLen; omega) (by omega) ?_)
    clear henv hst a; intro a w61 g59 c60 henv hst
    rw [show fl fM os ++ (#[.bool (neg x), .slice A53 (dl x) c54] : Array Value).toList = fl fM (os ++ [(A53, c54, x)]) from fl_snoc (f := fM) os (A53, c54, x)] at hst
    replace hst := hst.snocEs (e := (A53, c54, x)) (i := 2) (j := 0) rfl rfl
    refine sv (v := .slice (some ⟨g59, 0, none⟩) (j + 1) c60) henv rfl (rn_assign henv rfl) ?_
    clear henv a; intro a henv
    refine wpList_nil ?_
    refine bl_n (th_n ?_)
    refine region_seq ?_
    revert a
    refine sA (v := .int .i64 (j + 1 : Nat)) rfl (fun _ henv => rn_add henv rfl rfl (by rw [IntWalk.i64_in _ (by omega)]; omega)) ?_
    refine mA rfl rfl ?_
    intro a henv
    refine wpList_nil ?_
    exact th_n ⟨_, (by omega), ⟨j + 1, (some ⟨g59, 0, none⟩), c60, (os ++ [(A53, c54, x)]), rfl, henv.sub ⟨rfl, rfl, rfl, rfl, trivial⟩, hst.pick [1] [2, 0] (by decide), (by omega), (step_ints ho he0), (fun h => absurd h (by omega))⟩⟩
  · obtain rfl : n0 = j := by have := of_decide_eq_false hc52; omega
    refine wp_exit ?_
    refine th_x (th_x (bl_x (th_n ?_)))
    refine wp_seq ?_
    refine region_seq ?_
    revert a
    refine mA rfl rfl ?_
    refine aA rfl rfl ?_
    intro a henv
    refine wpList_nil ?_
    refine th_n ?_
    refine wp_ret ?_
    refine leave henv (res1 Tryd.results18 (RV.tmp henv rfl)) ?_
    exact ⟨_, rfl, ⟨_, _, os, rfl, hst.newRow (k := 0) (j := 1) rfl rfl, map_len ho (by rw [List.length_take]; omega), (ho.trans (List.take_of_length_le (by omega))), hB⟩, hst.below⟩
set_option maxRecDepth 100000 in
set_option maxHeartbeats 2000000 in
theorem z_clone {A0 : Option Addr} {n0 c0 : Nat} {es0 : List NE} {xs : List Int} {w0 : World} (h0 : (pfRow fN FN 2 A0 n0 c0 es0).P w0) (hz0 : es0.map zz = xs) (hp : 0 < n0) (hn : n0 ≤ 10000000) :
    Calls Tryd.prog 61 #[.slice A0 n0 c0] w0 fun e w' => ∃ v, e = .returned v ∧ ZRow w0.heap.size w' v n0 xs ∧ Below w0.heap.size w0 w' := by
  have hnn := row_some hp h0
  refine enter Tryd.func61 rfl Tryd.ntmps61 rfl ?_
  intro a henv hst
  have hlen0 := h0.2.1
  have hbig0 := Nat.le_trans h0.1.cap h0.1.big
  unfold maxLen at hbig0
  replace hst := hst.argRow h0
  clear h0
  refine wp_seq ?_
  refine region_seq ?_
  refine sv (v := .slice none 0 0) henv rfl (rn_assign henv rfl) ?_
  clear henv a; intro a henv
  refine wpList_nil ?_
  refine th_n ?_
  refine wp_seq ?_
  refine wp_seq ?_
  refine region_seq ?_
  revert a
  refine mA rfl rfl ?_
  refine sA (v := .bool A0.isNone) rfl (fun _ henv => rn_nilS henv Tryd.underlying32 rfl) ?_
  intro a henv
  rw [show A0.isNone = false from hnn] at henv
  refine wpList_nil ?_
  refine th_n ?_
  refine if_f henv rfl (rfl) ?_
  refine wp_skip ?_
  refine th_n ?_
  refine wp_seq ?_
  refine region_seq ?_
  refine seq_step rfl (op_buildSlice0 henv hst rfl Tryd.underlying32 (ty_anvil_integer_Int.size) ?_)
  clear henv hst a; intro a w52 g51 henv hst
  replace hst := (hst.bkRow0 (k := 0) rfl 2).nilEs FN
  replace hst : St w0 _ [rowS notU 28 2 (some ⟨g51, 0, none⟩) 0 0 (fl fN ([]))] [pfEs FN ([]), pfRow fN FN 2 A0 n0 c0 es0] := hst
  refine sv (v := .slice A0 n0 c0) henv rfl (rn_move henv rfl) ?_
  clear henv a; intro a henv
  refine seq_step rfl (op_appendR (k := 0) henv hst rfl Tryd.underlying32 inf_anvil_integer_Int rfl rfl rfl rfl rfl (hst.pat (k := 1) rfl).1 (fl_all (fun _ => rfl) _) (fl_all (fun _ => rfl) _) rfl (by omega) (by unfold maxLen; omega) (by omega) ?_)
  clear henv hst a; intro a w55 g53 c54 henv hst
  rw [show fl fN ([]) ++ fl fN es0 = fl fN es0 from rfl] at hst
  replace hst := hst.rowEs (i := 1) rfl
  replace hst : St w0 _ [rowS notU 28 2 (some ⟨g53, 0, none⟩) (0 + n0) c54 (fl fN es0)] [pfEs FN es0, pfEs FN ([]), pfRow fN FN 2 A0 n0 c0 es0] := hst
  refine sv (v := .slice (some ⟨g53, 0, none⟩) (0 + n0) c54) henv rfl (rn_assign henv rfl) ?_
  clear henv a; intro a henv
  refine wpList_nil ?_
  refine th_n ?_
  refine wp_ret ?_
  refine leave henv (res1 Tryd.results61 (RV.tmp henv rfl)) ?_
  exact ⟨_, rfl, ⟨_, _, es0, congrArg (fun k => Value.slice _ k _) (Nat.zero_add _), (Nat.zero_add n0 ▸ hst.newRow (k := 0) (j := 0) rfl rfl), hlen0, hz0⟩, hst.below⟩
set_option maxRecDepth 100000 in
set_option maxHeartbeats 2000000 in
theorem p_trim {A0 : Option Addr} {n0 c0 : Nat} {es0 : List NE} {xs : List Int} {w0 : World} (h0 : (pfRow fN FN 2 A0 n0 c0 es0).P w0) (hz0 : es0.map zz = xs) (hn : n0 ≤ 10000000) :
    Calls Tryd.prog 27 #[.slice A0 n0 c0] w0 fun e w' => ∃ v, e = .returned v ∧ ZRowN w0.heap.size w' v (degN xs) (trimN xs) ∧ Below w0.heap.size w0 w' := by
  have hdl : degN xs ≤ n0 := by have := deg_len xs; rw [← hz0, List.length_map, h0.2.1] at this; rw [← hz0]; exact this
  have hcap0 := h0.1.cap
  refine enter Tryd.func27 rfl Tryd.ntmps27 rfl ?_
  intro a henv hst
  have hlen0 := h0.2.1
  have hbig0 := Nat.le_trans h0.1.cap h0.1.big
  unfold maxLen at hbig0
  replace hst := hst.argRow h0
  clear h0
  refine wp_seq ?_
  refine region_seq ?_
  refine sv (v := .slice none 0 0) henv rfl (rn_assign henv rfl) ?_
  clear henv a; intro a henv
  refine wpList_nil ?_
  refine th_n ?_
  refine wp_seq ?_
  refine region_seq ?_
  refine sv (v := .slice A0 n0 c0) henv rfl (rn_move henv rfl) ?_
  clear henv a; intro a henv
  refine seq_step rfl (op_call henv rfl Tryd.call23 rfl (p_deg (hst.pat (k := 0) rfl) hz0 (by omega)) ?_)
  rintro e w51 ⟨rfl, hb⟩
  refine ⟨_, rfl, ?_⟩
  clear henv a; intro a henv
  replace hst := hst.call hb
  clear hb
  revert a
  refine sA (v := .int .i64 (degN xs : Nat)) rfl (fun _ henv => rn_add henv rfl rfl (by rw [IntWalk.i64_in _ (by omega)]; omega)) ?_
  refine aA rfl rfl ?_
  intro a henv
  refine wpList_nil ?_
  refine th_n ?_
  refine wp_seq ?_
  refine wp_seq ?_
  refine region_seq ?_
  revert a
  refine mA rfl rfl ?_
  refine sA (v := .bool (((degN xs : Nat) : Int) == (0 : Int))) rfl (fun _ henv => rn_bin henv rfl rfl rfl) ?_
  intro a henv
  refine wpList_nil ?_
  refine th_n ?_
  refine if_split henv rfl (fun hc52 => ?_) (fun hc52 => ?_)
  · replace hc52 := eq_of_beq hc52
    have hd0 : degN xs = 0 := by omega
    refine wp_seq ?_
    refine region_seq ?_
    refine sv (v := .slice none 0 0) henv rfl (rn_assign henv rfl) ?_
    clear henv a; intro a henv
    refine wpList_nil ?_
    refine th_n ?_
    refine wp_ret ?_
    refine th_r ?_
    refine leave henv (res1 Tryd.results27 (RV.tmp henv rfl)) ?_
    exact ⟨_, rfl, zrown_nil hd0 (by rw [trimN, hd0]; rfl), hst.below⟩
  · replace hc52 := ne_of_beq_false hc52
    have hpos : 0 < degN xs := by omega
    refine wp_skip ?_
    refine th_n ?_
    refine wp_seq ?_
    refine region_seq ?_
    revert a
    refine mA rfl rfl ?_
    refine mA rfl rfl ?_
    refine sA (v := .slice A0 (degN xs) c0) rfl (fun _ henv => rn_sliceTo (m := degN xs) henv Tryd.underlying32 (ty_anvil_integer_Int.size) rfl rfl (by omega)) ?_
    intro a henv
    refine seq_step rfl (op_call henv rfl Tryd.call61 rfl (z_clone (xs := trimN xs) (row_pre fN_len (hst.pat (k := 0) rfl) hdl) (by rw [List.map_take, hz0]; rfl) hpos (by omega)) ?_)
    rintro e w59 ⟨_, rfl, ⟨A53, c54, es55, rfl, hr, hl56, hz57⟩, hb⟩
    refine ⟨_, rfl, ?_⟩
    clear henv a; intro a henv
    replace hst := hst.freshRow hb hr (ap_N hr.2.1 ⟨nou_rowS, trivial⟩)
    clear hr
    clear hb
    refine sv (v := .slice A53 (degN xs) c54) henv rfl (rn_assign henv rfl) ?_
    clear henv a; intro a henv
    refine wpList_nil ?_
    refine th_n ?_
    refine wp_ret ?_
    refine leave henv (res1 Tryd.results27 (RV.tmp henv rfl)) ?_
    exact ⟨_, rfl, ⟨_, _, _, rfl, hst.newRow (k := 0) (j := 0) rfl rfl, hl56, hz57, fun h => absurd h (by omega)⟩, hst.below⟩
set_option maxRecDepth 100000 in
set_option maxHeartbeats 2000000 in
theorem ps_one {A B : Option Addr} {c d : Nat} {x y : Int} {w0 : World} (hx : ZIn w0 A c x) (hy : ZIn w0 B d y) :
    Calls Tryd.prog 56 #[.agg #[.bool (neg x), .slice A (zl x) c], .agg #[.bool (neg y), .slice B (zl y) d]] w0 fun e w' => e = .returned (.bool (decide (x = y))) ∧ Below w0.heap.size w0 w' := by
  refine enter Tryd.func56 rfl Tryd.ntmps56 rfl ?_
  intro a henv hst
  replace hst := (hst.addZ hx trivial).addZ hy trivial
  clear hx hy
  refine wp_seq ?_
  refine region_seq ?_
  refine seq_step rfl (op_box (c := #[.bool (neg x), .slice A (zl x) c]) henv hst rfl rfl rfl ?_)
  clear henv hst a; intro a w52 g51 henv hst
  refine seq_step rfl (op_box (c := #[.bool (neg y), .slice B (zl y) d]) henv hst rfl rfl rfl ?_)
  clear henv hst a; intro a w54 g53 henv hst
  refine sv (v := .bool false) henv rfl (rn_assign henv rfl) ?_
  clear henv a; intro a henv
  refine wpList_nil ?_
  refine th_n ?_
  refine wp_seq ?_
  refine region_seq ?_
  revert a
  refine sA (v := .agg #[.bool (neg x), .slice A (zl x) c]) rfl (fun _ henv => rn_load0 henv ty_anvil_integer_Int rfl (hst.oat (k := 1) rfl) rfl) ?_
  refine sA (v := .agg #[.bool (neg y), .slice B (zl y) d]) rfl (fun _ henv => rn_load0 henv ty_anvil_integer_Int rfl (hst.oat (k := 0) rfl) rfl) ?_
  intro a henv
  refine seq_step rfl (op_call henv rfl Tryd.call42 rfl (cmp_z (x := x) (y := y) (show ZIn _ A c x from hst.pat (k := 1) rfl) (show ZIn _ B d y from hst.pat (k := 0) rfl)) ?_)
  rintro e w55 ⟨rfl, hb⟩
  refine ⟨_, rfl, ?_⟩
  clear henv a; intro a henv
  replace hst := hst.call hb
  clear hb
  revert a
  refine sA (v := .bool ((x - y).sign == (0 : Int))) rfl (fun _ henv => rn_bin henv rfl rfl rfl) ?_
  refine aA rfl rfl ?_
  intro a henv
  refine wpList_nil ?_
  refine th_n ?_
  refine wp_ret ?_
  refine leave henv (res1 Tryd.results56 (RV.tmp henv rfl)) ?_
  exact ⟨congrArg (fun b => Ending.returned (Value.bool b)) (sub_dec x y), hst.below⟩
set_option maxRecDepth 100000 in
set_option maxHeartbeats 2000000 in
theorem ps_func {A0 A1 : Option Addr} {n0 n1 c0 c1 : Nat} {es0 es1 : List NE} {xs ys : List Int} {w0 : World} (h0 : (pfRow fN FN 2 A0 n0 c0 es0).P w0) (hz0 : es0.map zz = xs) (h1 : (pfRow fN FN 2 A1 n1 c1 es1).P w0) (hz1 : es1.map zz = ys) :
    Calls Tryd.prog 55 #[.slice A0 n0 c0, .slice A1 n1 c1, .func (.func 56) #[] #[]] w0 fun e w' => e = .returned (.bool (decide (xs = ys))) ∧ Below w0.heap.size w0 w' := by
  refine enter Tryd.func55 rfl Tryd.ntmps55 rfl ?_
  intro a henv hst
  have hlen0 := h0.2.1
  have hlen1 := h1.2.1
  have hbig0 := Nat.le_trans h0.1.cap h0.1.big
  unfold maxLen at hbig0
  replace hst := (hst.argRow h1).argRow h0
  clear h0 h1
  refine wp_seq ?_
  refine region_seq ?_
  refine sv (v := .bool false) henv rfl (rn_assign henv rfl) ?_
  clear henv a; intro a henv
  refine wpList_nil ?_
  refine th_n ?_
  refine wp_seq ?_
  refine wp_seq ?_
  refine region_seq ?_
  revert a
  refine mA rfl rfl ?_
  refine sA (v := .int .i64 (n0 : Nat)) rfl (fun _ henv => rn_len henv Tryd.underlying32 rfl) ?_
  refine mA rfl rfl ?_
  refine sA (v := .int .i64 (n1 : Nat)) rfl (fun _ henv => rn_len henv Tryd.underlying32 rfl) ?_
  refine sA (v := .bool (((n0 : Nat) : Int) != ((n1 : Nat) : Int))) rfl (fun _ henv => rn_bin henv rfl rfl rfl) ?_
  intro a henv
  refine wpList_nil ?_
  refine th_n ?_
  refine if_split henv rfl (fun hc51 => ?_) (fun hc51 => ?_)
  · have hne : n0 ≠ n1 := by have := hc51; simp at this; omega
    refine wp_seq ?_
    refine region_seq ?_
    refine sv (v := .bool false) henv rfl (rn_assign henv rfl) ?_
    clear henv a; intro a henv
    refine wpList_nil ?_
    refine th_n ?_
    refine wp_ret ?_
    refine th_r ?_
    refine leave henv (res1 Tryd.results55 (RV.tmp henv rfl)) ?_
    first | exact ⟨by rw [decide_eq_false (eq_ne hz0 hlen0 hz1 hlen1 hne)], hst.below⟩ | exact ⟨by rw [decide_eq_false (eq_at hz0 hz1 he0 he1 hxy)], hst.below⟩
  · have hnn : n0 = n1 := by have := hc51; simp at this; omega
    refine wp_skip ?_
    refine th_n ?_
    refine wp_seq ?_
    refine wp_seq ?_
    refine region_seq ?_
    revert a
    refine mA rfl rfl ?_
    refine sA (v := .int .i64 (n0 : Nat)) rfl (fun _ henv => rn_len henv Tryd.underlying32 rfl) ?_
    refine mA rfl rfl ?_
    intro a henv
    refine wpList_nil ?_
    refine th_n ?_
    refine wp_block ?_
    refine wp_loop_ghost (fun mz a w => ∃ j : Nat, n0 - j = mz ∧ Env 32 a [(1, .slice A1 n1 c1), (2, .func (.func 56) #[] #[]), (15, .slice A0 n0 c0), (16, .int .i64 (n0 : Nat)), (17, .int .i64 (j : Nat))] ∧ St w0 w [] [pfRow fN FN 2 A0 n0 c0 es0, pfRow fN FN 2 A1 n1 c1 es1] ∧ j ≤ n0 ∧ xs.take j = ys.take j) _ ⟨0, rfl, henv.sub ⟨rfl, rfl, rfl, rfl, rfl, trivial⟩, hst.pick [] [0, 1] (by decide), (Nat.zero_le _), rfl⟩ ?_
    clear henv hst a
    rintro mz a w52 ⟨j, rfl, henv, hst, hj, he⟩
    refine wp_seq ?_
    refine region_seq ?_
    refine sv (v := .bool (decide (((j : Nat) : Int) < ((n0 : Nat) : Int)))) henv rfl (rn_bin henv rfl rfl rfl) ?_
    clear henv a; intro a henv
    refine wpList_nil ?_
    refine th_n ?_
    refine wp_seq ?_
    refine if_split henv rfl (fun hc53 => ?_) (fun hc53 => ?_)
    · have hlt : j < n0 := by have := of_decide_eq_true hc53; omega
      obtain ⟨⟨A, c, x⟩, he0⟩ : ∃ e, es0[j]? = some e := ⟨_, List.getElem?_eq_getElem (by omega)⟩
      replace hst := hst.elem (k := 0) rfl he0
      replace hst : St w0 _ [] [pfZ A c x, pfRow fN FN 2 A0 n0 c0 es0, pfRow fN FN 2 A1 n1 c1 es1] := hst
      obtain ⟨⟨C, d, y⟩, he1⟩ : ∃ e, es1[j]? = some e := ⟨_, List.getElem?_eq_getElem (by omega)⟩
      replace hst := hst.elem (k := 2) rfl he1
      replace hst : St w0 _ [] [pfZ C d y, pfZ A c x, pfRow fN FN 2 A0 n0 c0 es0, pfRow fN FN 2 A1 n1 c1 es1] := hst
      refine wp_skip ?_
      refine th_n ?_
      refine wp_seq ?_
      refine wp_block ?_
      refine wp_seq ?_
      refine region_seq ?_
      revert a
      refine mA rfl rfl ?_
      refine sA (v := .pointer (some ⟨ab A0, ao A0 + j * 2, none⟩)) rfl (fun _ henv => rn_idxR (i := j) henv Tryd.underlying32 (ty_anvil_integer_Int.size) rfl rfl (by omega) rfl (show (pfRow fN FN 2 A0 n0 c0 es0).P _ from (hst.pat (k := 2) rfl)).1) ?_
      refine sA (v := .agg #[.bool (neg x), .slice A (zl x) c]) rfl (fun _ henv => rn_loadE (i := j) (e := (A, c, x)) henv ty_anvil_integer_Int rfl rfl fN_len (show (pfRow fN FN 2 A0 n0 c0 es0).P _ from (hst.pat (k := 2) rfl)).1 (by omega) he0 rfl) ?_
      intro a henv
      refine seq_step rfl (op_alloc (c := #[.bool (neg 0), .slice none (zl 0) 0]) henv hst rfl zero_anvil_integer_Int zcells ?_)
      clear henv hst a; intro a w55 g54 henv hst
      refine sv (v := .int .i64 (j : Nat)) henv rfl (rn_assign henv rfl) ?_
      clear henv a; intro a henv
      refine seq_step rfl (op_store (k := 0) (c' := #[.bool (neg x), .slice A (zl x) c]) henv hst (ty_anvil_integer_Int.size) rfl rfl rfl rfl (by simp) rfl rfl ?_)
      clear henv hst a; intro a w56 henv hst
      refine wpList_nil ?_
      refine th_n ?_
      refine wp_seq ?_
      refine region_seq ?_
      revert a
      refine mA rfl rfl ?_
      refine mA rfl rfl ?_
      refine sA (v := .pointer (some ⟨ab A1, ao A1 + j * 2, none⟩)) rfl (fun _ henv => rn_idxR (i := j) henv Tryd.underlying32 (ty_anvil_integer_Int.size) rfl rfl (by omega) rfl (show (pfRow fN FN 2 A1 n1 c1 es1).P _ from (hst.pat (k := 3) rfl)).1) ?_
      refine sA (v := .agg #[.bool (neg y), .slice C (zl y) d]) rfl (fun _ henv => rn_loadE (i := j) (e := (C, d, y)) henv ty_anvil_integer_Int rfl rfl fN_len (show (pfRow fN FN 2 A1 n1 c1 es1).P _ from (hst.pat (k := 3) rfl)).1 (by omega) he1 rfl) ?_
      intro a henv
      refine seq_step rfl (op_alloc (c := #[.bool (neg 0), .slice none (zl 0) 0]) henv hst rfl zero_anvil_integer_Int zcells ?_)
      clear henv hst a; intro a w58 g57 henv hst
      refine seq_step rfl (op_store (k := 0) (c' := #[.bool (neg y), .slice C (zl y) d]) henv hst (ty_anvil_integer_Int.size) rfl rfl rfl rfl (by simp) rfl rfl ?_)
      clear henv hst a; intro a w59 henv hst
      refine wpList_nil ?_
      refine th_n ?_
      refine wp_seq ?_
      refine region_seq ?_
      revert a
      refine mA rfl rfl ?_
      refine sA (v := .agg #[.bool (neg x), .slice A (zl x) c]) rfl (fun _ henv => rn_load0 henv ty_anvil_integer_Int rfl (hst.oat (k := 1) rfl) rfl) ?_
      refine sA (v := .agg #[.bool (neg y), .slice C (zl y) d]) rfl (fun _ henv => rn_load0 henv ty_anvil_integer_Int rfl (hst.oat (k := 0) rfl) rfl) ?_
      intro a henv
      refine seq_step rfl (op_callc (vs := #[.agg #[.bool (neg x), .slice A (zl x) c], .agg #[.bool (neg y), .slice C (zl y) d]]) henv rfl Tryd.call56 rfl rfl (calls_app (by simp) (ps_one (x := x) (y := y) (show ZIn _ A c x from hst.pat (k := 1) rfl) (show ZIn _ C d y from hst.pat (k := 0) rfl))) ?_)
      rintro e w60 ⟨rfl, hb⟩
      refine ⟨_, rfl, ?_⟩
      clear henv a; intro a henv
      replace hst := hst.call hb
      clear hb
      refine sv (v := .bool (!(decide (x = y)))) henv rfl (rn_un henv rfl rfl) ?_
      clear henv a; intro a henv
      refine wpList_nil ?_
      refine th_n ?_
      refine if_split henv rfl (fun hc61 => ?_) (fun hc61 => ?_)
      · have hxy : ¬ x = y := by have := hc61; simpa using this
        refine wp_seq ?_
        refine region_seq ?_
        refine sv (v := .bool false) henv rfl (rn_assign henv rfl) ?_
        clear henv a; intro a henv
        refine wpList_nil ?_
        refine th_n ?_
        refine wp_ret ?_
        refine bl_r (th_r (th_r (bl_r (th_r ?_))))
        refine leave henv (res1 Tryd.results55 (RV.tmp henv rfl)) ?_
        first | exact ⟨by rw [decide_eq_false (eq_ne hz0 hlen0 hz1 hlen1 hne)], hst.below⟩ | exact ⟨by rw [decide_eq_false (eq_at hz0 hz1 he0 he1 hxy)], hst.below⟩
      · have hxy : x = y := by have := hc61; simpa using this
        refine wp_skip ?_
        refine bl_n (th_n ?_)
        refine region_seq ?_
        revert a
        refine sA (v := .int .i64 (j + 1 : Nat)) rfl (fun _ henv => rn_add henv rfl rfl (by rw [IntWalk.i64_in _ (by omega)]; omega)) ?_
        refine mA rfl rfl ?_
        intro a henv
        refine wpList_nil ?_
        exact th_n ⟨_, (by omega), ⟨j + 1, rfl, henv.sub ⟨rfl, rfl, rfl, rfl, rfl, trivial⟩, hst.pick [] [2, 3] (by decide), (by omega), (by rw [zts hz0 he0, zts hz1 he1, he, hxy])⟩⟩
    · have hjn : j = n0 := by have := of_decide_eq_false hc53; omega
      refine wp_exit ?_
      refine th_x (th_x (bl_x (th_n ?_)))
      refine wp_seq ?_
      refine region_seq ?_
      refine sv (v := .bool true) henv rfl (rn_assign henv rfl) ?_
      clear henv a; intro a henv
      refine wpList_nil ?_
      refine th_n ?_
      refine wp_ret ?_
      refine leave henv (res1 Tryd.results55 (RV.tmp henv rfl)) ?_
      have hall : xs = ys := eq_full hz0 hlen0 hz1 hlen1 (hnn ▸ rfl) (hjn ▸ he)
      exact ⟨by rw [decide_eq_true hall], hst.below⟩
set_option maxRecDepth 100000 in
set_option maxHeartbeats 2000000 in
theorem p_same {A0 A1 : Option Addr} {n0 n1 c0 c1 : Nat} {es0 es1 : List NE} {xs ys : List Int} {w0 : World} (h0 : (pfRow fN FN 2 A0 n0 c0 es0).P w0) (hz0 : es0.map zz = xs) (h1 : (pfRow fN FN 2 A1 n1 c1 es1).P w0) (hz1 : es1.map zz = ys) (hn0 : n0 ≤ 10000000) (hn1 : n1 ≤ 10000000) :
    Calls Tryd.prog 19 #[.slice A0 n0 c0, .slice A1 n1 c1] w0 fun e w' => e = .returned (.bool (decide (trimN xs = trimN ys))) ∧ Below w0.heap.size w0 w' := by
  refine enter Tryd.func19 rfl Tryd.ntmps19 rfl ?_
  intro a henv hst
  have hlen0 := h0.2.1
  have hlen1 := h1.2.1
  have hbig0 := Nat.le_trans h0.1.cap h0.1.big
  unfold maxLen at hbig0
  replace hst := (hst.argRow h1).argRow h0
  clear h0 h1
  refine wp_seq ?_
  refine region_seq ?_
  refine sv (v := .bool false) henv rfl (rn_assign henv rfl) ?_
  clear henv a; intro a henv
  refine wpList_nil ?_
  refine th_n ?_
  refine wp_seq ?_
  refine region_seq ?_
  refine sv (v := .slice A0 n0 c0) henv rfl (rn_move henv rfl) ?_
  clear henv a; intro a henv
  refine seq_step rfl (op_call henv rfl Tryd.call27 rfl (p_trim (hst.pat (k := 0) rfl) hz0 (by omega)) ?_)
  rintro e w57 ⟨_, rfl, ⟨A51, c52, es53, rfl, hr, hl54, hz55, hn56⟩, hb⟩
  refine ⟨_, rfl, ?_⟩
  clear henv a; intro a henv
  replace hst := hst.freshRd hb hr hl54 (ap_N hr.2.1 trivial)
  clear hr
  clear hb
  refine sv (v := .slice A1 n1 c1) henv rfl (rn_move henv rfl) ?_
  clear henv a; intro a henv
  refine seq_step rfl (op_call henv rfl Tryd.call27 rfl (p_trim (hst.pat (k := 2) rfl) hz1 (by omega)) ?_)
  rintro e w64 ⟨_, rfl, ⟨A58, c59, es60, rfl, hr, hl61, hz62, hn63⟩, hb⟩
  refine ⟨_, rfl, ?_⟩
  clear henv a; intro a henv
  replace hst := hst.freshRd hb hr hl61 (ap_N hr.2.1 trivial)
  clear hr
  clear hb
  refine seq_step rfl (op_call henv rfl Tryd.call55 rfl (ps_func (hst.pat (k := 1) rfl) hz55 (hst.pat (k := 0) rfl) hz62) ?_)
  rintro e w65 ⟨rfl, hb⟩
  refine ⟨_, rfl, ?_⟩
  clear henv a; intro a henv
  replace hst := hst.call hb
  clear hb
  refine sv (v := .bool (decide (trimN xs = trimN ys))) henv rfl (rn_assign henv rfl) ?_
  clear henv a; intro a henv
  refine wpList_nil ?_
  refine th_n ?_
  refine wp_ret ?_
  refine leave henv (res1 Tryd.results19 (RV.tmp henv rfl)) ?_
  exact ⟨rfl, hst.below⟩
set_option maxRecDepth 100000 in
set_option maxHeartbeats 2000000 in
theorem is20_one {A B : Option Addr} {c d : Nat} {x y : Int} {w0 : World} (hx : ZIn w0 A c x) (hy : RIn w0 B d y) (hn : zl x ≤ 20000) (hm : dl y ≤ 60000) :
    Calls Tryd.prog 60 #[.agg #[.bool (neg x), .slice A (zl x) c], .agg #[.bool (neg y), .slice B (dl y) d]] w0 fun e w' => e = .returned (.bool (decide (x = y))) ∧ Below w0.heap.size w0 w' := by
  refine enter Tryd.func60 rfl Tryd.ntmps60 rfl ?_
  intro a henv hst
  replace hst := (hst.addZ hx trivial).addR hy trivial
  clear hx hy
  refine wp_seq ?_
  refine region_seq ?_
  refine seq_step rfl (op_box (c := #[.bool (neg x), .slice A (zl x) c]) henv hst rfl rfl rfl ?_)
  clear henv hst a; intro a w52 g51 henv hst
  refine seq_step rfl (op_box (c := #[.bool (neg y), .slice B (dl y) d]) henv hst rfl rfl rfl ?_)
  clear henv hst a; intro a w54 g53 henv hst
  refine sv (v := .bool false) henv rfl (rn_assign henv rfl) ?_
  clear henv a; intro a henv
  refine wpList_nil ?_
  refine th_n ?_
  refine wp_seq ?_
  refine region_any (n := 6) (Sk [bk g53 #[.bool (neg y), .slice B (dl y) d] 39, bk g51 #[.bool (neg x), .slice A (zl x) c] 28] [pfR B d y, pfZ A c x] [] []) mixed rfl henv hst ?_
  clear henv hst; intro w55 henv hst
  refine tL (i := 0) 1 1 [1, 3, 4, 5] rfl (by kernel_rfl) (fun _ _ _ h => h) henv rfl ty_anvil_integer_Int rfl hst rfl rfl rfl ?_
  clear henv a; intro a henv
  refine tL (i := 2) 0 0 [3, 4, 5] rfl (by kernel_rfl) (fun _ _ _ h => h) henv rfl ty_anvil_anvilref02_Int rfl hst rfl rfl rfl ?_
  clear henv a; intro a henv
  refine sAny_one (i := 1) (by kernel_rfl) rfl rfl (op_call henv rfl Tryd.call15 rfl (text_z (z := x) (show ZIn _ A c x from hst.pat (k := 1) rfl) (by omega)) ?_)
  rintro e w56 ⟨rfl, hb⟩
  refine ⟨_, rfl, ?_⟩
  clear henv a; intro a henv
  replace hst := hst.call hb
  clear hb
  refine ⟨.inr ⟨hst.kn.pick [0, 1] [0, 1], .inr (hst.kn.pick [] [])⟩, ?_⟩
  refine sAny_one (i := 3) (by kernel_rfl) rfl rfl (op_call henv rfl Tryd.call16 rfl (text_r (z := y) (show RIn _ B d y from hst.pat (k := 0) rfl) (by omega)) ?_)
  rintro e w57 ⟨rfl, hb⟩
  refine ⟨_, rfl, ?_⟩
  clear henv a; intro a henv
  replace hst := hst.call hb
  clear hb
  refine ⟨.inr ⟨hst.kn.pick [0, 1] [0, 1], .inr (hst.kn.pick [] [])⟩, ?_⟩
  refine tA (i := 4) [5] (v := .bool (decide ((textZ x) = (textZ y)))) rfl (by kernel_rfl) (fun _ _ _ h => h) henv rfl (fun _ => rn_eqls (s := (textZ x)) (t := (textZ y)) henv rfl rfl) ?_
  clear henv a; intro a henv
  refine tA (i := 5) [] (v := .bool (decide ((textZ x) = (textZ y)))) rfl (by kernel_rfl) (fun _ _ _ h => h) henv rfl (fun _ => rn_assign henv rfl) ?_
  clear henv a; intro a henv
  refine sAny_done (by kernel_rfl) ?_ _
  refine th_n ?_
  refine wp_ret ?_
  refine leave henv (res1 Tryd.results60 (RV.tmp henv rfl)) ?_
  exact ⟨congrArg (fun b => Ending.returned (Value.bool b)) (decide_eq_decide.2 tz_iff), hst.below⟩
set_option maxRecDepth 100000 in
set_option maxHeartbeats 2000000 in
theorem eq20_func {A0 A1 : Option Addr} {n0 n1 c0 c1 : Nat} {es0 es1 : List NE} {xs ys : List Int} {w0 : World} (h0 : (pfRow fN FN 2 A0 n0 c0 es0).P w0) (hz0 : es0.map zz = xs) (h1 : (pfRow fM FM 2 A1 n1 c1 es1).P w0) (hz1 : es1.map zz = ys) (hk0 : Zk 20000 xs) (hk1 : Zk 20000 ys) :
    Calls Tryd.prog 59 #[.slice A0 n0 c0, .slice A1 n1 c1, .func (.func 60) #[] #[]] w0 fun e w' => e = .returned (.bool (decide (xs = ys))) ∧ Below w0.heap.size w0 w' := by
  have hb0 := hk0.es hz0
  have hb1 := hk1.es hz1
  refine enter Tryd.func59 rfl Tryd.ntmps59 rfl ?_
  intro a henv hst
  have hlen0 := h0.2.1
  have hlen1 := h1.2.1
  have hbig0 := Nat.le_trans h0.1.cap h0.1.big
  unfold maxLen at hbig0
  replace hst := (hst.argRow h1).argRow h0
  clear h0 h1
  refine wp_seq ?_
  refine region_seq ?_
  refine sv (v := .bool false) henv rfl (rn_assign henv rfl) ?_
  clear henv a; intro a henv
  refine wpList_nil ?_
  refine th_n ?_
  refine wp_seq ?_
  refine wp_seq ?_
  refine region_seq ?_
  revert a
  refine mA rfl rfl ?_
  refine sA (v := .int .i64 (n0 : Nat)) rfl (fun _ henv => rn_len henv Tryd.underlying32 rfl) ?_
  refine mA rfl rfl ?_
  refine sA (v := .int .i64 (n1 : Nat)) rfl (fun _ henv => rn_len henv Tryd.underlying42 rfl) ?_
  refine sA (v := .bool (((n0 : Nat) : Int) != ((n1 : Nat) : Int))) rfl (fun _ henv => rn_bin henv rfl rfl rfl) ?_
  intro a henv
  refine wpList_nil ?_
  refine th_n ?_
  refine if_split henv rfl (fun hc51 => ?_) (fun hc51 => ?_)
  · have hne : n0 ≠ n1 := by have := hc51; simp at this; omega
    refine wp_seq ?_
    refine region_seq ?_
    refine sv (v := .bool false) henv rfl (rn_assign henv rfl) ?_
    clear henv a; intro a henv
    refine wpList_nil ?_
    refine th_n ?_
    refine wp_ret ?_
    refine th_r ?_
    refine leave henv (res1 Tryd.results59 (RV.tmp henv rfl)) ?_
    first | exact ⟨by rw [decide_eq_false (eq_ne hz0 hlen0 hz1 hlen1 hne)], hst.below⟩ | exact ⟨by rw [decide_eq_false (eq_at hz0 hz1 he0 he1 hxy)], hst.below⟩
  · have hnn : n0 = n1 := by have := hc51; simp at this; omega
    refine wp_skip ?_
    refine th_n ?_
    refine wp_seq ?_
    refine wp_seq ?_
    refine region_seq ?_
    revert a
    refine mA rfl rfl ?_
    refine sA (v := .int .i64 (n0 : Nat)) rfl (fun _ henv => rn_len henv Tryd.underlying32 rfl) ?_
    refine mA rfl rfl ?_
    intro a henv
    refine wpList_nil ?_
    refine th_n ?_
    refine wp_block ?_
    refine wp_loop_ghost (fun mz a w => ∃ j : Nat, n0 - j = mz ∧ Env 32 a [(1, .slice A1 n1 c1), (2, .func (.func 60) #[] #[]), (15, .slice A0 n0 c0), (16, .int .i64 (n0 : Nat)), (17, .int .i64 (j : Nat))] ∧ St w0 w [] [pfRow fN FN 2 A0 n0 c0 es0, pfRow fM FM 2 A1 n1 c1 es1] ∧ j ≤ n0 ∧ xs.take j = ys.take j) _ ⟨0, rfl, henv.sub ⟨rfl, rfl, rfl, rfl, rfl, trivial⟩, hst.pick [] [0, 1] (by decide), (Nat.zero_le _), rfl⟩ ?_
    clear henv hst a
    rintro mz a w52 ⟨j, rfl, henv, hst, hj, he⟩
    refine wp_seq ?_
    refine region_seq ?_
    refine sv (v := .bool (decide (((j : Nat) : Int) < ((n0 : Nat) : Int)))) henv rfl (rn_bin henv rfl rfl rfl) ?_
    clear henv a; intro a henv
    refine wpList_nil ?_
    refine th_n ?_
    refine wp_seq ?_
    refine if_split henv rfl (fun hc53 => ?_) (fun hc53 => ?_)
    · have hlt : j < n0 := by have := of_decide_eq_true hc53; omega
      obtain ⟨⟨A, c, x⟩, he0⟩ : ∃ e, es0[j]? = some e := ⟨_, List.getElem?_eq_getElem (by omega)⟩
      replace hst := hst.elem (k := 0) rfl he0
      replace hst : St w0 _ [] [pfZ A c x, pfRow fN FN 2 A0 n0 c0 es0, pfRow fM FM 2 A1 n1 c1 es1] := hst
      obtain ⟨⟨C, d, y⟩, he1⟩ : ∃ e, es1[j]? = some e := ⟨_, List.getElem?_eq_getElem (by omega)⟩
      replace hst := hst.elem (k := 2) rfl he1
      replace hst : St w0 _ [] [pfR C d y, pfZ A c x, pfRow fN FN 2 A0 n0 c0 es0, pfRow fM FM 2 A1 n1 c1 es1] := hst
      have hx1 := hb0.at he0
      have hy1 := hb1.at he1
      have hdy := dl_zl y
      refine wp_skip ?_
      refine th_n ?_
      refine wp_seq ?_
      refine wp_block ?_
      refine wp_seq ?_
      refine region_seq ?_
      revert a
      refine mA rfl rfl ?_
      refine sA (v := .pointer (some ⟨ab A0, ao A0 + j * 2, none⟩)) rfl (fun _ henv => rn_idxR (i := j) henv Tryd.underlying32 (ty_anvil_integer_Int.size) rfl rfl (by omega) rfl (show (pfRow fN FN 2 A0 n0 c0 es0).P _ from (hst.pat (k := 2) rfl)).1) ?_
      refine sA (v := .agg #[.bool (neg x), .slice A (zl x) c]) rfl (fun _ henv => rn_loadE (i := j) (e := (A, c, x)) henv ty_anvil_integer_Int rfl rfl fN_len (show (pfRow fN FN 2 A0 n0 c0 es0).P _ from (hst.pat (k := 2) rfl)).1 (by omega) he0 rfl) ?_
      intro a henv
      refine seq_step rfl (op_alloc (c := #[.bool (neg 0), .slice none (zl 0) 0]) henv hst rfl zero_anvil_integer_Int zcells ?_)
      clear henv hst a; intro a w55 g54 henv hst
      refine sv (v := .int .i64 (j : Nat)) henv rfl (rn_assign henv rfl) ?_
      clear henv a; intro a henv
      refine seq_step rfl (op_store (k := 0) (c' := #[.bool (neg x), .slice A (zl x) c]) henv hst (ty_anvil_integer_Int.size) rfl rfl rfl rfl (by simp) rfl rfl ?_)
      clear henv hst a; intro a w56 henv hst
      refine wpList_nil ?_
      refine th_n ?_
      refine wp_seq ?_
      refine region_seq ?_
      revert a
      refine mA rfl rfl ?_
      refine mA rfl rfl ?_
      refine sA (v := .pointer (some ⟨ab A1, ao A1 + j * 2, none⟩)) rfl (fun _ henv => rn_idxR (i := j) henv Tryd.underlying42 (ty_anvil_anvilref02_Int.size) rfl rfl (by omega) rfl (show (pfRow fM FM 2 A1 n1 c1 es1).P _ from (hst.pat (k := 3) rfl)).1) ?_
      refine sA (v := .agg #[.bool (neg y), .slice C (dl y) d]) rfl (fun _ henv => rn_loadE (i := j) (e := (C, d, y)) henv ty_anvil_anvilref02_Int rfl rfl fM_len (show (pfRow fM FM 2 A1 n1 c1 es1).P _ from (hst.pat (k := 3) rfl)).1 (by omega) he1 rfl) ?_
      intro a henv
      refine seq_step rfl (op_alloc (c := #[.bool (neg 0), .slice none (dl 0) 0]) henv hst rfl zero_anvil_anvilref02_Int rcells ?_)
      clear henv hst a; intro a w58 g57 henv hst
      refine seq_step rfl (op_store (k := 0) (c' := #[.bool (neg y), .slice C (dl y) d]) henv hst (ty_anvil_anvilref02_Int.size) rfl rfl rfl rfl (by simp) rfl rfl ?_)
      clear henv hst a; intro a w59 henv hst
      refine wpList_nil ?_
      refine th_n ?_
      refine wp_seq ?_
      refine region_seq ?_
      revert a
      refine mA rfl rfl ?_
      refine sA (v := .agg #[.bool (neg x), .slice A (zl x) c]) rfl (fun _ henv => rn_load0 henv ty_anvil_integer_Int rfl (hst.oat (k := 1) rfl) rfl) ?_
      refine sA (v := .agg #[.bool (neg y), .slice C (dl y) d]) rfl (fun _ henv => rn_load0 henv ty_anvil_anvilref02_Int rfl (hst.oat (k := 0) rfl) rfl) ?_
      intro a henv
      refine seq_step rfl (op_callc (vs := #[.agg #[.bool (neg x), .slice A (zl x) c], .agg #[.bool (neg y), .slice C (dl y) d]]) henv rfl Tryd.call60 rfl rfl (calls_app (by simp) (is20_one (x := x) (y := y) (show ZIn _ A c x from hst.pat (k := 1) rfl) (show RIn _ C d y from hst.pat (k := 0) rfl) (by omega) (by omega))) ?_)
      rintro e w60 ⟨rfl, hb⟩
      refine ⟨_, rfl, ?_⟩
      clear henv a; intro a henv
      replace hst := hst.call hb
      clear hb
      refine sv (v := .bool (!(decide (x = y)))) henv rfl (rn_un henv rfl rfl) ?_
      clear henv a; intro a henv
      refine wpList_nil ?_
      refine th_n ?_
      refine if_split henv rfl (fun hc61 => ?_) (fun hc61 => ?_)
      · have hxy : ¬ x = y := by have := hc61; simpa using this
        refine wp_seq ?_
        refine region_seq ?_
        refine sv (v := .bool false) henv rfl (rn_assign henv rfl) ?_
        clear henv a; intro a henv
        refine wpList_nil ?_
        refine th_n ?_
        refine wp_ret ?_
        refine bl_r (th_r (th_r (bl_r (th_r ?_))))
        refine leave henv (res1 Tryd.results59 (RV.tmp henv rfl)) ?_
        first | exact ⟨by rw [decide_eq_false (eq_ne hz0 hlen0 hz1 hlen1 hne)], hst.below⟩ | exact ⟨by rw [decide_eq_false (eq_at hz0 hz1 he0 he1 hxy)], hst.below⟩
      · have hxy : x = y := by have := hc61; simpa using this
        refine wp_skip ?_
        refine bl_n (th_n ?_)
        refine region_seq ?_
        revert a
        refine sA (v := .int .i64 (j + 1 : Nat)) rfl (fun _ henv => rn_add henv rfl rfl (by rw [IntWalk.i64_in _ (by omega)]; omega)) ?_
        refine mA rfl rfl ?_
        intro a henv
        refine wpList_nil ?_
        exact th_n ⟨_, (by omega), ⟨j + 1, rfl, henv.sub ⟨rfl, rfl, rfl, rfl, rfl, trivial⟩, hst.pick [] [2, 3] (by decide), (by omega), (by rw [zts hz0 he0, zts hz1 he1, he, hxy])⟩⟩
    · have hjn : j = n0 := by have := of_decide_eq_false hc53; omega
      refine wp_exit ?_
      refine th_x (th_x (bl_x (th_n ?_)))
      refine wp_seq ?_
      refine region_seq ?_
      refine sv (v := .bool true) henv rfl (rn_assign henv rfl) ?_
      clear henv a; intro a henv
      refine wpList_nil ?_
      refine th_n ?_
      refine wp_ret ?_
      refine leave henv (res1 Tryd.results59 (RV.tmp henv rfl)) ?_
      have hall : xs = ys := eq_full hz0 hlen0 hz1 hlen1 (hnn ▸ rfl) (hjn ▸ he)
      exact ⟨by rw [decide_eq_true hall], hst.below⟩
set_option maxRecDepth 100000 in
set_option maxHeartbeats 2000000 in
theorem p20_is {A0 A1 : Option Addr} {n0 n1 c0 c1 : Nat} {es0 es1 : List NE} {xs ys : List Int} {w0 : World} (h0 : (pfRow fN FN 2 A0 n0 c0 es0).P w0) (hz0 : es0.map zz = xs) (h1 : (pfRow fM FM 2 A1 n1 c1 es1).P w0) (hz1 : es1.map zz = ys) (hk0 : Zk 20000 xs) (hk1 : Zk 20000 ys) (hnil : n0 = 0 → A0 = none) :
    Calls Tryd.prog 26 #[.slice A0 n0 c0, .slice A1 n1 c1] w0 fun e w' => e = .returned (.bool (decide (xs = ys))) ∧ Below w0.heap.size w0 w' := by
  refine enter Tryd.func26 rfl Tryd.ntmps26 rfl ?_
  intro a henv hst
  have hlen0 := h0.2.1
  have hlen1 := h1.2.1
  have hbig0 := Nat.le_trans h0.1.cap h0.1.big
  unfold maxLen at hbig0
  replace hst := (hst.argRow h1).argRow h0
  clear h0 h1
  refine wp_seq ?_
  refine region_seq ?_
  refine sv (v := .bool false) henv rfl (rn_assign henv rfl) ?_
  clear henv a; intro a henv
  refine wpList_nil ?_
  refine th_n ?_
  refine wp_seq ?_
  refine region_seq ?_
  revert a
  refine mA rfl rfl ?_
  refine mA rfl rfl ?_
  intro a henv
  refine seq_step rfl (op_call henv rfl Tryd.call59 rfl (eq20_func (hst.pat (k := 0) rfl) hz0 (hst.pat (k := 1) rfl) hz1 hk0 hk1) ?_)
  rintro e w51 ⟨rfl, hb⟩
  refine ⟨_, rfl, ?_⟩
  clear henv a; intro a henv
  replace hst := hst.call hb
  clear hb
  refine sv (v := .bool (decide (xs = ys))) henv rfl (rn_move henv rfl) ?_
  clear henv a; intro a henv
  rcases bool_em (decide (xs = ys)) with hg52 | hg52
  · rw [hg52] at henv
    revert a
    refine gA (v := .slice A0 n0 c0) rfl rfl rfl rfl (fun _ henv => rn_move henv rfl) ?_
    refine gA (v := .bool A0.isNone) rfl rfl rfl rfl (fun _ henv => rn_nilS henv Tryd.underlying32 rfl) ?_
    refine gA (v := .slice A0 n0 c0) rfl rfl rfl rfl (fun _ henv => rn_move henv rfl) ?_
    refine gA (v := .int .i64 (n0 : Nat)) rfl rfl rfl rfl (fun _ henv => rn_len henv Tryd.underlying32 rfl) ?_
    refine gA (v := .bool (((n0 : Nat) : Int) == (0 : Int))) rfl rfl rfl rfl (fun _ henv => rn_bin henv rfl rfl rfl) ?_
    refine gA (v := .bool (A0.isNone == (((n0 : Nat) : Int) == (0 : Int)))) rfl rfl rfl rfl (fun _ henv => rn_eqlb henv Tryd.underlying4 rfl rfl) ?_
    intro a henv
    rw [show (A0.isNone == (((n0 : Nat) : Int) == (0 : Int))) = true from (nil_eq hnil (row_none (hst.pat (k := 0) rfl)))] at henv
    revert a
    refine sA (v := .bool true) rfl (fun _ henv => rn_pick henv rfl rfl) ?_
    refine aA rfl rfl ?_
    intro a henv
    refine wpList_nil ?_
    refine th_n ?_
    refine wp_ret ?_
    refine leave henv (res1 Tryd.results26 (RV.tmp henv rfl)) ?_
    exact ⟨by rw [hg52], hst.below⟩
  · rw [hg52] at henv
    revert a
    refine kA rfl rfl rfl rfl rfl ?_
    refine kA rfl rfl rfl rfl rfl ?_
    refine kA rfl rfl rfl rfl rfl ?_
    refine kA rfl rfl rfl rfl rfl ?_
    refine kA rfl rfl rfl rfl rfl ?_
    refine kA rfl rfl rfl rfl rfl ?_
    refine sA (v := .bool false) rfl (fun _ henv => rn_pick henv rfl rfl) ?_
    refine aA rfl rfl ?_
    intro a henv
    refine wpList_nil ?_
    refine th_n ?_
    refine wp_ret ?_
    refine leave henv (res1 Tryd.results26 (RV.tmp henv rfl)) ?_
    exact ⟨by rw [hg52], hst.below⟩
set_option maxRecDepth 100000 in
set_option maxHeartbeats 2000000 in
theorem p_text {A0 : Option Addr} {n0 c0 : Nat} {es0 : List NE} {xs : List Int} {w0 : World} (h0 : (pfRow fN FN 2 A0 n0 c0 es0).P w0) (hz0 : es0.map zz = xs) (hk : Zk 90000 xs) (hn : n0 ≤ 1000000) :
    Calls Tryd.prog 45 #[.slice A0 n0 c0] w0 fun e w' => e = .returned (.string ⟨(textRow xs).toArray⟩) ∧ Below w0.heap.size w0 w' := by
  refine enter Tryd.func45 rfl Tryd.ntmps45 rfl ?_
  intro a henv hst
  have hlen0 := h0.2.1
  have hbig0 := Nat.le_trans h0.1.cap h0.1.big
  unfold maxLen at hbig0
  replace hst := hst.argRow h0
  clear h0
  refine wp_seq ?_
  refine region_seq ?_
  refine sv (v := .string ⟨#[]⟩) henv rfl (rn_assign henv rfl) ?_
  clear henv a; intro a henv
  refine wpList_nil ?_
  refine th_n ?_
  refine wp_seq ?_
  refine region_seq ?_
  refine sv (v := .slice A0 n0 c0) henv rfl (rn_move henv rfl) ?_
  clear henv a; intro a henv
  refine seq_step rfl (op_call henv rfl Tryd.call79 rfl (row_text' (hst.pat (k := 0) rfl) hz0 hk hn) ?_)
  rintro e w51 ⟨rfl, hb⟩
  refine ⟨_, rfl, ?_⟩
  clear henv a; intro a henv
  replace hst := hst.call hb
  clear hb
  refine sv (v := .string ⟨(textRow xs).toArray⟩) henv rfl (rn_assign henv rfl) ?_
  clear henv a; intro a henv
  refine wpList_nil ?_
  refine th_n ?_
  refine wp_ret ?_
  refine leave henv (res1 Tryd.results45 (RV.tmp henv rfl)) ?_
  exact ⟨rfl, hst.below⟩
set_option maxRecDepth 100000 in
set_option maxHeartbeats 2000000 in
theorem p_read_bad {s : List UInt8} {b : Nat} {w0 : World} (hr : Rd0 s (.inr b)) (hl : s.length < 8193) :
    Calls Tryd.prog 44 #[.string ⟨s.toArray⟩] w0 fun e w' => e = .returned (.tuple #[.slice none 0 0, .agg #[.int .i64 6, .int .i64 (b : Nat)]]) ∧ Below w0.heap.size w0 w' := by
  refine enter Tryd.func44 rfl Tryd.ntmps44 rfl ?_
  intro a henv hst
  refine wp_seq ?_
  refine region_seq ?_
  refine sv (v := .slice none 0 0) henv rfl (rn_assign henv rfl) ?_
  clear henv a; intro a henv
  refine seq_step rfl (op_alloc (c := #[.int .i64 0, .int .i64 0]) henv hst rfl zero_anvil_api_Spot rfl ?_)
  clear henv hst a; intro a w52 g51 henv hst
  refine wpList_nil ?_
  refine th_n ?_
  refine wp_seq ?_
  refine region_seq ?_
  refine sv (v := .string ⟨s.toArray⟩) henv rfl (rn_move henv rfl) ?_
  clear henv a; intro a henv
  refine seq_step rfl (op_call henv rfl Tryd.call78 rfl (row_read_bad hr hl) ?_)
  rintro e w53 ⟨rfl, hb⟩
  refine ⟨_, rfl, ?_⟩
  clear henv a; intro a henv
  replace hst := hst.call hb
  clear hb
  revert a
  refine mA rfl rfl ?_
  refine sA (v := .slice none 0 0) rfl (fun _ henv => rn_extract henv rfl rfl) ?_
  refine sA (v := .agg #[.int .i64 6, .int .i64 (b : Nat)]) rfl (fun _ henv => rn_extract henv rfl rfl) ?_
  intro a henv
  refine seq_step rfl (op_alloc (c := #[.int .i64 0, .int .i64 0]) henv hst rfl zero_anvil_api_Spot rfl ?_)
  clear henv hst a; intro a w55 g54 henv hst
  refine sv (v := .slice none 0 0) henv rfl (rn_assign henv rfl) ?_
  clear henv a; intro a henv
  refine seq_step rfl (op_store (k := 0) (c' := #[.int .i64 6, .int .i64 (b : Nat)]) henv hst (ty_anvil_api_Spot.size) rfl rfl rfl rfl (by simp) rfl rfl ?_)
  clear henv hst a; intro a w56 henv hst
  refine wpList_nil ?_
  refine th_n ?_
  refine wp_seq ?_
  refine wp_seq ?_
  refine region_seq ?_
  revert a
  refine mA rfl rfl ?_
  refine sA (v := .int .i64 0) rfl (fun _ henv => rn_len henv Tryd.underlying32 rfl) ?_
  refine sA (v := .bool true) rfl (fun _ henv => rn_bin henv rfl rfl rfl) ?_
  intro a henv
  refine wpList_nil ?_
  refine th_n ?_
  refine if_t henv rfl (rfl) ?_
  refine wp_seq ?_
  refine region_any (n := 3) (Sk [bk g54 #[.int .i64 6, .int .i64 (b : Nat)] 71] [] [2] []) mixed rfl henv hst ?_
  clear henv hst; intro w57 henv hst
  refine tL (i := 0) 0 0 [2] rfl (by kernel_rfl) (fun _ _ _ h => h) henv rfl ty_anvil_api_Spot rfl hst rfl rfl rfl ?_
  clear henv a; intro a henv
  refine tA (i := 1) [2] (v := .slice none 0 0) rfl (by kernel_rfl) (fun _ _ _ h => h) henv rfl (fun _ => rn_assign henv rfl) ?_
  clear henv a; intro a henv
  refine sAny_one (i := 2) (by kernel_rfl) rfl rfl (op_store (k := 1) (c' := #[.int .i64 6, .int .i64 (b : Nat)]) henv hst (ty_anvil_api_Spot.size) rfl rfl rfl rfl (by simp) rfl rfl ?_)
  clear henv hst a; intro a w58 henv hst
  refine ⟨.inr ⟨hst.kn.pick [0] [], .inl rfl⟩, ?_⟩
  refine sAny_done (by kernel_rfl) ?_ _
  refine th_n ?_
  refine wp_ret ?_
  refine th_r ?_
  refine leave henv (res2 Tryd.results44 (RV.tmp henv rfl) (RV.cell henv ty_anvil_api_Spot rfl (hst.oat (k := 1) rfl) rfl)) ?_
  exact ⟨rfl, hst.below⟩
set_option maxRecDepth 100000 in
set_option maxHeartbeats 2000000 in
theorem p_read_ok {s : List UInt8} {zs : List Int} {n : Nat} {w0 : World} (hr0 : Rd0 s (.inl zs)) (hn : zs.length = n) (hl : s.length < 8193) :
    Calls Tryd.prog 44 #[.string ⟨s.toArray⟩] w0 fun e w' => ∃ v, e = .returned (.tuple #[v, .agg #[.int .i64 0, .int .i64 0]]) ∧ ZRowN w0.heap.size w' v n zs ∧ Below w0.heap.size w0 w' := by
  refine enter Tryd.func44 rfl Tryd.ntmps44 rfl ?_
  intro a henv hst
  refine wp_seq ?_
  refine region_seq ?_
  refine sv (v := .slice none 0 0) henv rfl (rn_assign henv rfl) ?_
  clear henv a; intro a henv
  refine seq_step rfl (op_alloc (c := #[.int .i64 0, .int .i64 0]) henv hst rfl zero_anvil_api_Spot rfl ?_)
  clear henv hst a; intro a w52 g51 henv hst
  refine wpList_nil ?_
  refine th_n ?_
  refine wp_seq ?_
  refine region_seq ?_
  refine sv (v := .string ⟨s.toArray⟩) henv rfl (rn_move henv rfl) ?_
  clear henv a; intro a henv
  refine seq_step rfl (op_call henv rfl Tryd.call78 rfl (row_read_ok hr0 hn hl) ?_)
  rintro e w59 ⟨_, rfl, ⟨A53, c54, es55, rfl, hr, hl56, hz57⟩, hb⟩
  refine ⟨_, rfl, ?_⟩
  clear henv a; intro a henv
  replace hst := hst.freshRow hb hr (ap_N hr.2.1 ⟨nou_rowS, ⟨nou_bk rfl, trivial⟩⟩)
  clear hr
  clear hb
  revert a
  refine mA rfl rfl ?_
  refine sA (v := .slice A53 n c54) rfl (fun _ henv => rn_extract henv rfl rfl) ?_
  refine sA (v := .agg #[.int .i64 0, .int .i64 0]) rfl (fun _ henv => rn_extract henv rfl rfl) ?_
  intro a henv
  refine seq_step rfl (op_alloc (c := #[.int .i64 0, .int .i64 0]) henv hst rfl zero_anvil_api_Spot rfl ?_)
  clear henv hst a; intro a w61 g60 henv hst
  refine sv (v := .slice A53 n c54) henv rfl (rn_assign henv rfl) ?_
  clear henv a; intro a henv
  refine seq_step rfl (op_store (k := 0) (c' := #[.int .i64 0, .int .i64 0]) henv hst (ty_anvil_api_Spot.size) rfl rfl rfl rfl (by simp) rfl rfl ?_)
  clear henv hst a; intro a w62 henv hst
  refine wpList_nil ?_
  refine th_n ?_
  refine wp_seq ?_
  refine wp_seq ?_
  refine region_seq ?_
  revert a
  refine mA rfl rfl ?_
  refine sA (v := .int .i64 (n : Nat)) rfl (fun _ henv => rn_len henv Tryd.underlying32 rfl) ?_
  refine sA (v := .bool (((n : Nat) : Int) == (0 : Int))) rfl (fun _ henv => rn_bin henv rfl rfl rfl) ?_
  intro a henv
  refine wpList_nil ?_
  refine th_n ?_
  refine if_split henv rfl (fun hc63 => ?_) (fun hc63 => ?_)
  · replace hc63 := eq_of_beq hc63
    have hn0 : n = 0 := by omega
    refine wp_seq ?_
    refine region_any (n := 3) (Sk [bk g60 #[.int .i64 0, .int .i64 0] 71, rowS notU 28 2 A53 n c54 (fl fN es55)] [pfEs FN es55] [2] []) mixed rfl henv hst ?_
    clear henv hst; intro w64 henv hst
    refine tL (i := 0) 0 0 [2] rfl (by kernel_rfl) (fun _ _ _ h => h) henv rfl ty_anvil_api_Spot rfl hst rfl rfl rfl ?_
    clear henv a; intro a henv
    refine tA (i := 1) [2] (v := .slice none 0 0) rfl (by kernel_rfl) (fun _ _ _ h => h) henv rfl (fun _ => rn_assign henv rfl) ?_
    clear henv a; intro a henv
    refine sAny_one (i := 2) (by kernel_rfl) rfl rfl (op_store (k := 2) (c' := #[.int .i64 0, .int .i64 0]) henv hst (ty_anvil_api_Spot.size) rfl rfl rfl rfl (by simp) rfl rfl ?_)
    clear henv hst a; intro a w65 henv hst
    refine ⟨.inr ⟨hst.kn.pick [0, 1] [0], .inl rfl⟩, ?_⟩
    refine sAny_done (by kernel_rfl) ?_ _
    refine th_n ?_
    refine wp_ret ?_
    refine th_r ?_
    refine leave henv (res2 Tryd.results44 (RV.tmp henv rfl) (RV.cell henv ty_anvil_api_Spot rfl (hst.oat (k := 2) rfl) rfl)) ?_
    exact ⟨_, rfl, zrown_nil hn0 (List.eq_nil_of_length_eq_zero (hn.trans hn0)), hst.below⟩
  · replace hc63 := ne_of_beq_false hc63
    have hn0 : ¬ n = 0 := by omega
    refine wp_skip ?_
    refine th_n ?_
    refine wp_seq ?_
    refine region_any (n := 4) (Sk [bk g60 #[.int .i64 0, .int .i64 0] 71, rowS notU 28 2 A53 n c54 (fl fN es55)] [pfEs FN es55] [3] []) mixed rfl henv hst ?_
    clear henv hst; intro w66 henv hst
    refine tM (i := 0) [2, 3] rfl (by kernel_rfl) (fun _ _ _ h => h) henv rfl rfl ?_
    clear henv a; intro a henv
    refine tL (i := 1) 0 0 [3] rfl (by kernel_rfl) (fun _ _ _ h => h) henv rfl ty_anvil_api_Spot rfl hst rfl rfl rfl ?_
    clear henv a; intro a henv
    refine tA (i := 2) [3] (v := .slice A53 n c54) rfl (by kernel_rfl) (fun _ _ _ h => h) henv rfl (fun _ => rn_assign henv rfl) ?_
    clear henv a; intro a henv
    refine sAny_one (i := 3) (by kernel_rfl) rfl rfl (op_store (k := 2) (c' := #[.int .i64 0, .int .i64 0]) henv hst (ty_anvil_api_Spot.size) rfl rfl rfl rfl (by simp) rfl rfl ?_)
    clear henv hst a; intro a w67 henv hst
    refine ⟨.inr ⟨hst.kn.pick [0, 1] [0], .inl rfl⟩, ?_⟩
    refine sAny_done (by kernel_rfl) ?_ _
    refine th_n ?_
    refine wp_ret ?_
    refine leave henv (res2 Tryd.results44 (RV.tmp henv rfl) (RV.cell henv ty_anvil_api_Spot rfl (hst.oat (k := 2) rfl) rfl)) ?_
    exact ⟨_, rfl, ⟨_, _, _, rfl, hst.newRow (k := 1) (j := 0) rfl rfl, hl56, hz57, fun h => absurd h hn0⟩, hst.below⟩
set_option maxRecDepth 100000 in
set_option maxHeartbeats 4000000 in
theorem p20_works {w0 : World} :
    Calls Tryd.prog 10 #[] w0 fun e w' => e = .returned (.bool true) ∧ Below w0.heap.size w0 w' := by
  refine enter Tryd.func10 rfl Tryd.ntmps10 rfl ?_
  intro a henv hst
  refine wp_seq ?_
  refine region_seq ?_
  refine sv (v := .bool false) henv rfl (rn_assign henv rfl) ?_
  clear henv a; intro a henv
  refine wpList_nil ?_
  refine th_n ?_
  refine wp_seq ?_
  refine region_seq ?_
  refine seq_step rfl (op_buildSlice (z := 1) (pv := #[(0, .int .i64 1), (1, .int .i64 2)]) (c := #[.int .i64 1, .int .i64 2]) henv hst rfl Tryd.underlying22 (ty_int64.size) zero_int64 (by decide) (by decide) rfl (by kernel_rfl) ?_)
  clear henv hst a; intro a w52 g51 henv hst
  replace hst := hst.giveBk (f := fI) (F := FI) (k := 0) (n := 2) (es := [1, 2]) rfl rfl fI_len rfl (by decide) (esT_P (fun _ => rfl) _ _) (fun _ _ _ _ => esT_foot (fun _ => rfl))
  refine seq_step rfl (op_call henv rfl Tryd.call12 rfl (p20_list (es0 := [1, 2]) (hst.pat (k := 0) rfl) (by unfold I64; decide) (by omega)) ?_)
  rintro e w60 ⟨_, rfl, ⟨g53, ps54, rfl, hr, hl55, hz56⟩, hb⟩
  refine ⟨_, rfl, ?_⟩
  clear henv a; intro a henv
  replace hst := hst.freshRd hb hr hl55 (ap_N hr.2.1 trivial)
  clear hr
  obtain ⟨es57, hst, hl58, hz59⟩ := hst.listRow (k := 0) (n := 2) rfl hz56 (rfl)
  clear hb
  refine seq_step rfl (op_buildSlice (z := 1) (pv := #[(0, .int .i64 3), (1, .int .i64 4), (2, .int .i64 5)]) (c := #[.int .i64 3, .int .i64 4, .int .i64 5]) henv hst rfl Tryd.underlying22 (ty_int64.size) zero_int64 (by decide) (by decide) rfl (by kernel_rfl) ?_)
  clear henv hst a; intro a w62 g61 henv hst
  replace hst := hst.giveBk (f := fI) (F := FI) (k := 0) (n := 3) (es := [3, 4, 5]) rfl rfl fI_len rfl (by decide) (esT_P (fun _ => rfl) _ _) (fun _ _ _ _ => esT_foot (fun _ => rfl))
  refine seq_step rfl (op_call henv rfl Tryd.call12 rfl (p20_list (es0 := [3, 4, 5]) (hst.pat (k := 0) rfl) (by unfold I64; decide) (by omega)) ?_)
  rintro e w70 ⟨_, rfl, ⟨g63, ps64, rfl, hr, hl65, hz66⟩, hb⟩
  refine ⟨_, rfl, ?_⟩
  clear henv a; intro a henv
  replace hst := hst.freshRd hb hr hl65 (ap_N hr.2.1 trivial)
  clear hr
  obtain ⟨es67, hst, hl68, hz69⟩ := hst.listRow (k := 0) (n := 3) rfl hz66 (rfl)
  clear hb
  refine seq_step rfl (op_call henv rfl Tryd.call24 rfl (p_mul (xs := [1, 2]) (ys := [3, 4, 5]) (hst.pat (k := 4) rfl) hz59 (hst.pat (k := 0) rfl) hz69 (zk_small (by decide)) (zk_small (by decide)) (by decide) (by decide) (by decide) (by decide)) ?_)
  rintro e w76 ⟨_, rfl, ⟨A71, c72, es73, rfl, hr, hl74, hz75⟩, hb⟩
  refine ⟨_, rfl, ?_⟩
  clear henv a; intro a henv
  replace hst := hst.freshRd hb hr hl74 (ap_N hr.2.1 trivial)
  clear hr
  clear hb
  revert a
  refine mA rfl rfl ?_
  refine sA (v := .slice A71 4 c72) rfl (fun _ henv => rn_extract henv rfl rfl) ?_
  refine sA (v := .int .i64 6) rfl (fun _ henv => rn_extract henv rfl rfl) ?_
  refine aA rfl rfl ?_
  refine aA rfl rfl ?_
  intro a henv
  refine wpList_nil ?_
  refine th_n ?_
  refine wp_seq ?_
  refine region_seq ?_
  revert a
  refine mA rfl rfl ?_
  refine sA (v := .bool true) rfl (fun _ henv => rn_bin henv rfl rfl rfl) ?_
  refine mA rfl rfl ?_
  refine gA (v := .slice A71 4 c72) rfl rfl rfl rfl (fun _ henv => rn_move henv rfl) ?_
  intro a henv
  refine seq_g rfl henv rfl rfl (op_buildSlice (z := 1) (pv := #[(0, .int .i64 3), (1, .int .i64 10), (2, .int .i64 13), (3, .int .i64 10)]) (c := #[.int .i64 3, .int .i64 10, .int .i64 13, .int .i64 10]) henv hst rfl Tryd.underlying22 (ty_int64.size) zero_int64 (by decide) (by decide) rfl (by kernel_rfl) ?_)
  clear henv hst a; intro a w78 g77 henv hst
  replace hst := hst.giveBk (f := fI) (F := FI) (k := 0) (n := 4) (es := [3, 10, 13, 10]) rfl rfl fI_len rfl (by decide) (esT_P (fun _ => rfl) _ _) (fun _ _ _ _ => esT_foot (fun _ => rfl))
  refine seq_g rfl henv rfl rfl (op_call henv rfl Tryd.call18 rfl (p20_ref (es0 := [3, 10, 13, 10]) (hst.pat (k := 0) rfl) (by unfold I64; decide) (by omega)) ?_)
  rintro e w85 ⟨_, rfl, ⟨A79, c80, es81, rfl, hr, hl82, hz83, hn84⟩, hb⟩
  refine ⟨_, rfl, ?_⟩
  clear henv a; intro a henv
  replace hst := hst.freshRd hb hr hl82 (ap_M hr.2.1 trivial)
  clear hr
  clear hb
  refine seq_g rfl henv rfl rfl (op_call henv rfl Tryd.call26 rfl (p20_is (xs := [3, 10, 13, 10]) (ys := [3, 10, 13, 10]) (hst.pat (k := 3) rfl) (hz75.trans (show _ = [3, 10, 13, 10] by decide)) (hst.pat (k := 0) rfl) hz83 (zk_small (by decide)) (zk_small (by decide)) (fun h => absurd h (by decide))) ?_)
  rintro e w86 ⟨rfl, hb⟩
  refine ⟨_, rfl, ?_⟩
  clear henv a; intro a henv
  replace hst := hst.call hb
  clear hb
  rw [show (decide (([3, 10, 13, 10] : List Int) = [3, 10, 13, 10])) = true from (decide_eq_true rfl)] at henv
  revert a
  refine sA (v := .bool true) rfl (fun _ henv => rn_pick henv rfl rfl) ?_
  refine mA rfl rfl ?_
  refine gA (v := .slice A71 4 c72) rfl rfl rfl rfl (fun _ henv => rn_move henv rfl) ?_
  intro a henv
  refine seq_g rfl henv rfl rfl (op_call henv rfl Tryd.call45 rfl (p_text (xs := [3, 10, 13, 10]) (hst.pat (k := 3) rfl) (hz75.trans (show _ = [3, 10, 13, 10] by decide)) (zk_small (by decide)) (by omega)) ?_)
  rintro e w87 ⟨rfl, hb⟩
  refine ⟨_, rfl, ?_⟩
  clear henv a; intro a henv
  replace hst := hst.call hb
  clear hb
  refine seq_g rfl henv rfl rfl (op_val (v := .bool (decide ((textRow ([3, 10, 13, 10])) = [91, 51, 32, 49, 48, 32, 49, 51, 32, 49, 48, 93]))) henv rfl (rn_eqls (s := (textRow ([3, 10, 13, 10]))) (t := [91, 51, 32, 49, 48, 32, 49, 51, 32, 49, 48, 93]) henv rfl rfl) ?_)
  clear henv a; intro a henv
  rw [show (decide ((textRow ([3, 10, 13, 10])) = [91, 51, 32, 49, 48, 32, 49, 51, 32, 49, 48, 93])) = true from (decide_eq_true (by decide +kernel))] at henv
  revert a
  refine sA (v := .bool true) rfl (fun _ henv => rn_pick henv rfl rfl) ?_
  refine mA rfl rfl ?_
  refine gA (v := .slice A71 4 c72) rfl rfl rfl rfl (fun _ henv => rn_move henv rfl) ?_
  intro a henv
  refine seq_g rfl henv rfl rfl (op_call henv rfl Tryd.call23 rfl (p_deg (xs := [3, 10, 13, 10]) (hst.pat (k := 3) rfl) (hz75.trans (show _ = [3, 10, 13, 10] by decide)) (by omega)) ?_)
  rintro e w88 ⟨rfl, hb⟩
  refine ⟨_, rfl, ?_⟩
  clear henv a; intro a henv
  replace hst := hst.call hb
  clear hb
  revert a
  refine gA (v := .bool true) rfl rfl rfl rfl (fun _ henv => rn_bin henv rfl rfl rfl) ?_
  refine sA (v := .bool true) rfl (fun _ henv => rn_pick henv rfl rfl) ?_
  refine aA rfl rfl ?_
  intro a henv
  refine wpList_nil ?_
  refine th_n ?_
  refine wp_ret ?_
  refine leave henv (res1 Tryd.results10 (RV.tmp henv rfl)) ?_
  exact ⟨rfl, hst.below⟩
end Go.Proofs.YtghaenkacjgdnaaDoor.W

/- PolyTexts, PolyBack: the laws' walks. Printed by pv/gen_po2.py. No condition. -/
namespace Go.Proofs.YtghaenkacjgdnaaDoor.W
open Go.RowKit Anv Go.Lib
theorem i64_zk {xs : List Int} (h : I64 xs) : Zk 2 xs := fun z hz => nl_le_of_lt (by have := h z hz; show z.natAbs < _; omega)
theorem text_i64 {xs : List Int} (h : I64 xs) (hn : xs.length ≤ 300) : (textRow xs).length ≤ 7000 := by
  have main : ∀ l : List Int, (∀ z ∈ l, zl z ≤ 2) → (l.map fun z => (textZ z).length + 1).sum ≤ 23 * l.length := by
    intro l
    induction l with
    | nil => intro _; simp
    | cons z l ih =>
      intro hl
      have h1 := ih fun x hx => hl x (List.mem_cons_of_mem _ hx)
      have h2 := textZ_bd z
      have h3 := hl z (List.mem_cons_self ..)
      simp only [List.map_cons, List.sum_cons, List.length_cons]
      omega
  have h1 := main xs (i64_zk h)
  have h2 := (text_flat xs).1
  omega
set_option maxRecDepth 100000 in
set_option maxHeartbeats 4000000 in
theorem pback_wide {A0 : Option Addr} {n0 c0 : Nat} {es0 : List Int} {s : List UInt8} {w0 : World} (h0 : (pfRow fI FI 1 A0 n0 c0 es0).P w0) (hI : I64 es0) (hw : 300 < n0) :
    Calls Tryd.prog 8 #[.slice A0 n0 c0, .string ⟨s.toArray⟩] w0 fun e w' => e = .returned (.bool true) ∧ Below w0.heap.size w0 w' := by
  refine enter Tryd.func8 rfl Tryd.ntmps8 rfl ?_
  intro a henv hst
  have hlen0 := h0.2.1
  have hbig0 := Nat.le_trans h0.1.cap h0.1.big
  unfold maxLen at hbig0
  replace hst := hst.argRow h0
  clear h0
  have hk0 : Zk 2 es0 := i64_zk hI
  have htx := fun h => text_i64 hI (Nat.le_trans (Nat.le_of_eq hlen0) h)
  refine wp_seq ?_
  refine region_seq ?_
  refine sv (v := .bool false) henv rfl (rn_assign henv rfl) ?_
  clear henv a; intro a henv
  refine wpList_nil ?_
  refine th_n ?_
  refine wp_seq ?_
  refine wp_seq ?_
  refine region_seq ?_
  refine seq_step rfl (op_call henv rfl Tryd.call10 rfl p20_works ?_)
  rintro e w51 ⟨rfl, hb⟩
  refine ⟨_, rfl, ?_⟩
  clear henv a; intro a henv
  replace hst := hst.call hb
  clear hb
  refine sv (v := .bool false) henv rfl (rn_un henv rfl rfl) ?_
  clear henv a; intro a henv
  refine wpList_nil ?_
  refine th_n ?_
  refine if_f henv rfl (rfl) ?_
  refine wp_skip ?_
  refine th_n ?_
  refine wp_seq ?_
  refine wp_seq ?_
  refine region_seq ?_
  revert a
  refine mA rfl rfl ?_
  refine sA (v := .int .i64 (n0 : Nat)) rfl (fun _ henv => rn_len henv Tryd.underlying22 rfl) ?_
  refine sA (v := .bool (decide (((n0 : Nat) : Int) > (300 : Int)))) rfl (fun _ henv => rn_bin henv rfl rfl rfl) ?_
  intro a henv
  rw [show (decide (((n0 : Nat) : Int) > (300 : Int))) = true from (decide_eq_true (by omega))] at henv
  revert a
  refine mA rfl rfl ?_
  refine kA rfl rfl rfl rfl rfl ?_
  refine kA rfl rfl rfl rfl rfl ?_
  refine kA rfl rfl rfl rfl rfl ?_
  refine sA (v := .bool true) rfl (fun _ henv => rn_pick henv rfl rfl) ?_
  intro a henv
  refine wpList_nil ?_
  refine th_n ?_
  refine if_t henv rfl (rfl) ?_
  refine wp_seq ?_
  refine region_seq ?_
  refine sv (v := .bool true) henv rfl (rn_assign henv rfl) ?_
  clear henv a; intro a henv
  refine wpList_nil ?_
  refine th_n ?_
  refine wp_ret ?_
  refine th_r ?_
  refine leave henv (res1 Tryd.results8 (RV.tmp henv rfl)) ?_
  exact ⟨rfl, hst.below⟩
set_option maxRecDepth 100000 in
set_option maxHeartbeats 4000000 in
theorem pback_mid {A0 : Option Addr} {n0 c0 : Nat} {es0 : List Int} {s : List UInt8} {w0 : World} (h0 : (pfRow fI FI 1 A0 n0 c0 es0).P w0) (hI : I64 es0) (hl : 1000 < s.length) (hw : n0 ≤ 300) :
    Calls Tryd.prog 8 #[.slice A0 n0 c0, .string ⟨s.toArray⟩] w0 fun e w' => e = .returned (.bool true) ∧ Below w0.heap.size w0 w' := by
  refine enter Tryd.func8 rfl Tryd.ntmps8 rfl ?_
  intro a henv hst
  have hlen0 := h0.2.1
  have hbig0 := Nat.le_trans h0.1.cap h0.1.big
  unfold maxLen at hbig0
  replace hst := hst.argRow h0
  clear h0
  have hk0 : Zk 2 es0 := i64_zk hI
  have htx := fun h => text_i64 hI (Nat.le_trans (Nat.le_of_eq hlen0) h)
  refine wp_seq ?_
  refine region_seq ?_
  refine sv (v := .bool false) henv rfl (rn_assign henv rfl) ?_
  clear henv a; intro a henv
  refine wpList_nil ?_
  refine th_n ?_
  refine wp_seq ?_
  refine wp_seq ?_
  refine region_seq ?_
  refine seq_step rfl (op_call henv rfl Tryd.call10 rfl p20_works ?_)
  rintro e w51 ⟨rfl, hb⟩
  refine ⟨_, rfl, ?_⟩
  clear henv a; intro a henv
  replace hst := hst.call hb
  clear hb
  refine sv (v := .bool false) henv rfl (rn_un henv rfl rfl) ?_
  clear henv a; intro a henv
  refine wpList_nil ?_
  refine th_n ?_
  refine if_f henv rfl (rfl) ?_
  refine wp_skip ?_
  refine th_n ?_
  refine wp_seq ?_
  refine wp_seq ?_
  refine region_seq ?_
  revert a
  refine mA rfl rfl ?_
  refine sA (v := .int .i64 (n0 : Nat)) rfl (fun _ henv => rn_len henv Tryd.underlying22 rfl) ?_
  refine sA (v := .bool (decide (((n0 : Nat) : Int) > (300 : Int)))) rfl (fun _ henv => rn_bin henv rfl rfl rfl) ?_
  intro a henv
  rw [show (decide (((n0 : Nat) : Int) > (300 : Int))) = false from (decide_eq_false (by omega))] at henv
  revert a
  refine mA rfl rfl ?_
  refine gA (v := .string ⟨s.toArray⟩) rfl rfl rfl rfl (fun _ henv => rn_move henv rfl) ?_
  refine gA (v := .int .i64 (s.length : Nat)) rfl rfl rfl rfl (fun _ henv => rn_lenS henv Tryd.underlying9 rfl) ?_
  refine gA (v := .bool (decide (((s.length : Nat) : Int) > (1000 : Int)))) rfl rfl rfl rfl (fun _ henv => rn_bin henv rfl rfl rfl) ?_
  intro a henv
  rw [show (decide (((s.length : Nat) : Int) > (1000 : Int))) = true from (decide_eq_true (by omega))] at henv
  refine sv (v := .bool true) henv rfl (rn_pick henv rfl rfl) ?_
  clear henv a; intro a henv
  refine wpList_nil ?_
  refine th_n ?_
  refine if_t henv rfl (rfl) ?_
  refine wp_seq ?_
  refine region_seq ?_
  refine sv (v := .bool true) henv rfl (rn_assign henv rfl) ?_
  clear henv a; intro a henv
  refine wpList_nil ?_
  refine th_n ?_
  refine wp_ret ?_
  refine th_r ?_
  refine leave henv (res1 Tryd.results8 (RV.tmp henv rfl)) ?_
  exact ⟨rfl, hst.below⟩
set_option maxRecDepth 100000 in
set_option maxHeartbeats 4000000 in
theorem pback_bad {A0 : Option Addr} {n0 c0 : Nat} {es0 : List Int} {s : List UInt8} {b : Nat} {w0 : World} (h0 : (pfRow fI FI 1 A0 n0 c0 es0).P w0) (hI : I64 es0) (hl : s.length ≤ 1000) (hw : n0 ≤ 300) (hr : Rd0 s (.inr b)) :
    Calls Tryd.prog 8 #[.slice A0 n0 c0, .string ⟨s.toArray⟩] w0 fun e w' => e = .returned (.bool true) ∧ Below w0.heap.size w0 w' := by
  refine enter Tryd.func8 rfl Tryd.ntmps8 rfl ?_
  intro a henv hst
  have hlen0 := h0.2.1
  have hbig0 := Nat.le_trans h0.1.cap h0.1.big
  unfold maxLen at hbig0
  replace hst := hst.argRow h0
  clear h0
  have hk0 : Zk 2 es0 := i64_zk hI
  have htx := fun h => text_i64 hI (Nat.le_trans (Nat.le_of_eq hlen0) h)
  have htl := htx hw
  refine wp_seq ?_
  refine region_seq ?_
  refine sv (v := .bool false) henv rfl (rn_assign henv rfl) ?_
  clear henv a; intro a henv
  refine wpList_nil ?_
  refine th_n ?_
  refine wp_seq ?_
  refine wp_seq ?_
  refine region_seq ?_
  refine seq_step rfl (op_call henv rfl Tryd.call10 rfl p20_works ?_)
  rintro e w51 ⟨rfl, hb⟩
  refine ⟨_, rfl, ?_⟩
  clear henv a; intro a henv
  replace hst := hst.call hb
  clear hb
  refine sv (v := .bool false) henv rfl (rn_un henv rfl rfl) ?_
  clear henv a; intro a henv
  refine wpList_nil ?_
  refine th_n ?_
  refine if_f henv rfl (rfl) ?_
  refine wp_skip ?_
  refine th_n ?_
  refine wp_seq ?_
  refine wp_seq ?_
  refine region_seq ?_
  revert a
  refine mA rfl rfl ?_
  refine sA (v := .int .i64 (n0 : Nat)) rfl (fun _ henv => rn_len henv Tryd.underlying22 rfl) ?_
  refine sA (v := .bool (decide (((n0 : Nat) : Int) > (300 : Int)))) rfl (fun _ henv => rn_bin henv rfl rfl rfl) ?_
  intro a henv
  rw [show (decide (((n0 : Nat) : Int) > (300 : Int))) = false from (decide_eq_false (by omega))] at henv
  revert a
  refine mA rfl rfl ?_
  refine gA (v := .string ⟨s.toArray⟩) rfl rfl rfl rfl (fun _ henv => rn_move henv rfl) ?_
  refine gA (v := .int .i64 (s.length : Nat)) rfl rfl rfl rfl (fun _ henv => rn_lenS henv Tryd.underlying9 rfl) ?_
  refine gA (v := .bool (decide (((s.length : Nat) : Int) > (1000 : Int)))) rfl rfl rfl rfl (fun _ henv => rn_bin henv rfl rfl rfl) ?_
  intro a henv
  rw [show (decide (((s.length : Nat) : Int) > (1000 : Int))) = false from (decide_eq_false (by omega))] at henv
  refine sv (v := .bool false) henv rfl (rn_pick henv rfl rfl) ?_
  clear henv a; intro a henv
  refine wpList_nil ?_
  refine th_n ?_
  refine if_f henv rfl (rfl) ?_
  refine wp_skip ?_
  refine th_n ?_
  refine wp_seq ?_
  refine region_seq ?_
  refine sv (v := .slice A0 n0 c0) henv rfl (rn_move henv rfl) ?_
  clear henv a; intro a henv
  refine seq_step rfl (op_call henv rfl Tryd.call12 rfl (p20_list (es0 := es0) (hst.pat (k := 0) rfl) hI (by omega)) ?_)
  rintro e w59 ⟨_, rfl, ⟨g52, ps53, rfl, hr, hl54, hz55⟩, hb⟩
  refine ⟨_, rfl, ?_⟩
  clear henv a; intro a henv
  replace hst := hst.freshRd hb hr hl54 (ap_N hr.2.1 trivial)
  clear hr
  obtain ⟨es56, hst, hl57, hz58⟩ := hst.listRow (k := 0) (n := n0) rfl hz55 (hlen0)
  clear hb
  refine sv (v := .slice (some ⟨g52, 0, none⟩) n0 (n0 + 2)) henv rfl (rn_assign henv rfl) ?_
  clear henv a; intro a henv
  refine wpList_nil ?_
  refine th_n ?_
  refine wp_seq ?_
  refine region_seq ?_
  refine sv (v := .slice (some ⟨g52, 0, none⟩) n0 (n0 + 2)) henv rfl (rn_move henv rfl) ?_
  clear henv a; intro a henv
  refine seq_step rfl (op_call henv rfl Tryd.call45 rfl (p_text (xs := es0) (hst.pat (k := 0) rfl) hz58 (hk0.mono (by decide)) (by omega)) ?_)
  rintro e w60 ⟨rfl, hb⟩
  refine ⟨_, rfl, ?_⟩
  clear henv a; intro a henv
  replace hst := hst.call hb
  clear hb
  refine seq_step rfl (op_call henv rfl Tryd.call44 rfl (p_read_ok (rd_text es0) (by omega) (by omega)) ?_)
  rintro e w67 ⟨_, rfl, ⟨A61, c62, es63, rfl, hr, hl64, hz65, hn66⟩, hb⟩
  refine ⟨_, rfl, ?_⟩
  clear henv a; intro a henv
  replace hst := hst.freshRd hb hr hl64 (ap_N hr.2.1 trivial)
  clear hr
  clear hb
  revert a
  refine mA rfl rfl ?_
  refine sA (v := .slice A61 n0 c62) rfl (fun _ henv => rn_extract henv rfl rfl) ?_
  refine sA (v := .agg #[.int .i64 0, .int .i64 0]) rfl (fun _ henv => rn_extract henv rfl rfl) ?_
  intro a henv
  refine seq_step rfl (op_alloc (c := #[.int .i64 0, .int .i64 0]) henv hst rfl zero_anvil_api_Spot rfl ?_)
  clear henv hst a; intro a w69 g68 henv hst
  refine sv (v := .slice A61 n0 c62) henv rfl (rn_assign henv rfl) ?_
  clear henv a; intro a henv
  refine seq_step rfl (op_store (k := 0) (c' := #[.int .i64 0, .int .i64 0]) henv hst (ty_anvil_api_Spot.size) rfl rfl rfl rfl (by simp) rfl rfl ?_)
  clear henv hst a; intro a w70 henv hst
  refine wpList_nil ?_
  refine th_n ?_
  refine wp_seq ?_
  refine wp_seq ?_
  refine region_seq ?_
  revert a
  refine sA (v := .agg #[.int .i64 0, .int .i64 0]) rfl (fun _ henv => rn_load0 henv ty_anvil_api_Spot rfl (hst.oat (k := 0) rfl) rfl) ?_
  refine sA (v := .agg #[.int .i64 0, .int .i64 0]) rfl (fun _ henv => rn_spot0) ?_
  refine sA (v := .bool (!decide ([(0 : Int), (0 : Int)] = [(0 : Int), (0 : Int)]))) rfl (fun _ henv => rn_neqI [(0 : Int), (0 : Int)] [(0 : Int), (0 : Int)] henv spotI rfl rfl rfl rfl) ?_
  intro a henv
  rw [show (!decide ([(0 : Int), (0 : Int)] = [(0 : Int), (0 : Int)])) = false from (by rw [decide_eq_true rfl]; rfl)] at henv
  revert a
  refine mA rfl rfl ?_
  refine gA (v := .slice A61 n0 c62) rfl rfl rfl rfl (fun _ henv => rn_move henv rfl) ?_
  refine gA (v := .int .i64 (n0 : Nat)) rfl rfl rfl rfl (fun _ henv => rn_len henv Tryd.underlying32 rfl) ?_
  refine gA (v := .slice (some ⟨g52, 0, none⟩) n0 (n0 + 2)) rfl rfl rfl rfl (fun _ henv => rn_move henv rfl) ?_
  refine gA (v := .int .i64 (n0 : Nat)) rfl rfl rfl rfl (fun _ henv => rn_len henv Tryd.underlying32 rfl) ?_
  refine gA (v := .bool (((n0 : Nat) : Int) != ((n0 : Nat) : Int))) rfl rfl rfl rfl (fun _ henv => rn_bin henv rfl rfl rfl) ?_
  intro a henv
  rw [show (((n0 : Nat) : Int) != ((n0 : Nat) : Int)) = false from (bne_self_eq_false _)] at henv
  revert a
  refine sA (v := .bool false) rfl (fun _ henv => rn_pick henv rfl rfl) ?_
  refine mA rfl rfl ?_
  refine gA (v := .slice A61 n0 c62) rfl rfl rfl rfl (fun _ henv => rn_move henv rfl) ?_
  refine gA (v := .slice (some ⟨g52, 0, none⟩) n0 (n0 + 2)) rfl rfl rfl rfl (fun _ henv => rn_move henv rfl) ?_
  intro a henv
  refine seq_g rfl henv rfl rfl (op_call henv rfl Tryd.call19 rfl (p_same (xs := es0) (ys := es0) (hst.pat (k := 0) rfl) hz65 (hst.pat (k := 1) rfl) hz58 (by omega) (by omega)) ?_)
  rintro e w71 ⟨rfl, hb⟩
  refine ⟨_, rfl, ?_⟩
  clear henv a; intro a henv
  replace hst := hst.call hb
  clear hb
  rw [show (decide (trimN es0 = trimN es0)) = true from (decide_eq_true rfl)] at henv
  revert a
  refine gA (v := .bool false) rfl rfl rfl rfl (fun _ henv => rn_un henv rfl rfl) ?_
  refine sA (v := .bool false) rfl (fun _ henv => rn_pick henv rfl rfl) ?_
  intro a henv
  refine wpList_nil ?_
  refine th_n ?_
  refine if_f henv rfl (rfl) ?_
  refine wp_skip ?_
  refine th_n ?_
  refine wp_seq ?_
  refine region_seq ?_
  refine sv (v := .string ⟨s.toArray⟩) henv rfl (rn_move henv rfl) ?_
  clear henv a; intro a henv
  refine seq_step rfl (op_call henv rfl Tryd.call44 rfl (p_read_bad hr (by omega)) ?_)
  rintro e w72 ⟨rfl, hb⟩
  refine ⟨_, rfl, ?_⟩
  clear henv a; intro a henv
  replace hst := hst.call hb
  clear hb
  revert a
  refine mA rfl rfl ?_
  refine sA (v := .slice none 0 0) rfl (fun _ henv => rn_extract henv rfl rfl) ?_
  refine sA (v := .agg #[.int .i64 6, .int .i64 (b : Nat)]) rfl (fun _ henv => rn_extract henv rfl rfl) ?_
  refine aA rfl rfl ?_
  intro a henv
  refine seq_step rfl (op_store (k := 0) (c' := #[.int .i64 6, .int .i64 (b : Nat)]) henv hst (ty_anvil_api_Spot.size) rfl rfl rfl rfl (by simp) rfl rfl ?_)
  clear henv hst a; intro a w73 henv hst
  refine wpList_nil ?_
  refine th_n ?_
  refine wp_seq ?_
  refine region_seq ?_
  revert a
  refine sA (v := .pointer (some ⟨g68, 0, none⟩)) rfl (fun _ henv => rn_fieldAddr henv fd_anvil_api_Spot_0 (ty_anvil_api_Errno.size) (by decide) rfl) ?_
  refine sA (v := .int .i64 6) rfl (fun _ henv => rn_load1 henv ty_anvil_api_Errno rfl (hst.oat (k := 0) rfl) rfl) ?_
  refine sA (v := .bool true) rfl (fun _ henv => rn_bin henv rfl rfl rfl) ?_
  refine mA rfl rfl ?_
  refine gA (v := .slice none 0 0) rfl rfl rfl rfl (fun _ henv => rn_move henv rfl) ?_
  refine gA (v := .bool none.isNone) rfl rfl rfl rfl (fun _ henv => rn_nilS henv Tryd.underlying32 rfl) ?_
  intro a henv
  rw [show none.isNone = true from rfl] at henv
  revert a
  refine sA (v := .bool true) rfl (fun _ henv => rn_pick henv rfl rfl) ?_
  refine mA rfl rfl ?_
  refine kA rfl rfl rfl rfl rfl ?_
  refine kA rfl rfl rfl rfl rfl ?_
  refine kA rfl rfl rfl rfl rfl ?_
  refine kA rfl rfl rfl rfl rfl ?_
  refine kA rfl rfl rfl rfl rfl ?_
  refine kA rfl rfl rfl rfl rfl ?_
  refine kA rfl rfl rfl rfl rfl ?_
  refine kA rfl rfl rfl rfl rfl ?_
  refine kA rfl rfl rfl rfl rfl ?_
  refine sA (v := .bool true) rfl (fun _ henv => rn_pick henv rfl rfl) ?_
  refine aA rfl rfl ?_
  intro a henv
  refine wpList_nil ?_
  refine th_n ?_
  refine wp_ret ?_
  refine leave henv (res1 Tryd.results8 (RV.tmp henv rfl)) ?_
  exact ⟨rfl, hst.below⟩
set_option maxRecDepth 100000 in
set_option maxHeartbeats 4000000 in
theorem pback_ok {A0 : Option Addr} {n0 c0 : Nat} {es0 : List Int} {s : List UInt8} {zs : List Int} {w0 : World} (h0 : (pfRow fI FI 1 A0 n0 c0 es0).P w0) (hI : I64 es0) (hl : s.length ≤ 1000) (hw : n0 ≤ 300) (hr : Rd0 s (.inl zs)) :
    Calls Tryd.prog 8 #[.slice A0 n0 c0, .string ⟨s.toArray⟩] w0 fun e w' => e = .returned (.bool true) ∧ Below w0.heap.size w0 w' := by
  obtain ⟨hcn, hkz⟩ := text_sizes (rd_back hr)
  have hkx : Zk 1200 zs := fun z hz => Nat.le_trans (hkz z hz) (by omega)
  refine enter Tryd.func8 rfl Tryd.ntmps8 rfl ?_
  intro a henv hst
  have hlen0 := h0.2.1
  have hbig0 := Nat.le_trans h0.1.cap h0.1.big
  unfold maxLen at hbig0
  replace hst := hst.argRow h0
  clear h0
  have hk0 : Zk 2 es0 := i64_zk hI
  have htx := fun h => text_i64 hI (Nat.le_trans (Nat.le_of_eq hlen0) h)
  have htl := htx hw
  refine wp_seq ?_
  refine region_seq ?_
  refine sv (v := .bool false) henv rfl (rn_assign henv rfl) ?_
  clear henv a; intro a henv
  refine wpList_nil ?_
  refine th_n ?_
  refine wp_seq ?_
  refine wp_seq ?_
  refine region_seq ?_
  refine seq_step rfl (op_call henv rfl Tryd.call10 rfl p20_works ?_)
  rintro e w51 ⟨rfl, hb⟩
  refine ⟨_, rfl, ?_⟩
  clear henv a; intro a henv
  replace hst := hst.call hb
  clear hb
  refine sv (v := .bool false) henv rfl (rn_un henv rfl rfl) ?_
  clear henv a; intro a henv
  refine wpList_nil ?_
  refine th_n ?_
  refine if_f henv rfl (rfl) ?_
  refine wp_skip ?_
  refine th_n ?_
  refine wp_seq ?_
  refine wp_seq ?_
  refine region_seq ?_
  revert a
  refine mA rfl rfl ?_
  refine sA (v := .int .i64 (n0 : Nat)) rfl (fun _ henv => rn_len henv Tryd.underlying22 rfl) ?_
  refine sA (v := .bool (decide (((n0 : Nat) : Int) > (300 : Int)))) rfl (fun _ henv => rn_bin henv rfl rfl rfl) ?_
  intro a henv
  rw [show (decide (((n0 : Nat) : Int) > (300 : Int))) = false from (decide_eq_false (by omega))] at henv
  revert a
  refine mA rfl rfl ?_
  refine gA (v := .string ⟨s.toArray⟩) rfl rfl rfl rfl (fun _ henv => rn_move henv rfl) ?_
  refine gA (v := .int .i64 (s.length : Nat)) rfl rfl rfl rfl (fun _ henv => rn_lenS henv Tryd.underlying9 rfl) ?_
  refine gA (v := .bool (decide (((s.length : Nat) : Int) > (1000 : Int)))) rfl rfl rfl rfl (fun _ henv => rn_bin henv rfl rfl rfl) ?_
  intro a henv
  rw [show (decide (((s.length : Nat) : Int) > (1000 : Int))) = false from (decide_eq_false (by omega))] at henv
  refine sv (v := .bool false) henv rfl (rn_pick henv rfl rfl) ?_
  clear henv a; intro a henv
  refine wpList_nil ?_
  refine th_n ?_
  refine if_f henv rfl (rfl) ?_
  refine wp_skip ?_
  refine th_n ?_
  refine wp_seq ?_
  refine region_seq ?_
  refine sv (v := .slice A0 n0 c0) henv rfl (rn_move henv rfl) ?_
  clear henv a; intro a henv
  refine seq_step rfl (op_call henv rfl Tryd.call12 rfl (p20_list (es0 := es0) (hst.pat (k := 0) rfl) hI (by omega)) ?_)
  rintro e w59 ⟨_, rfl, ⟨g52, ps53, rfl, hr, hl54, hz55⟩, hb⟩
  refine ⟨_, rfl, ?_⟩
  clear henv a; intro a henv
  replace hst := hst.freshRd hb hr hl54 (ap_N hr.2.1 trivial)
  clear hr
  obtain ⟨es56, hst, hl57, hz58⟩ := hst.listRow (k := 0) (n := n0) rfl hz55 (hlen0)
  clear hb
  refine sv (v := .slice (some ⟨g52, 0, none⟩) n0 (n0 + 2)) henv rfl (rn_assign henv rfl) ?_
  clear henv a; intro a henv
  refine wpList_nil ?_
  refine th_n ?_
  refine wp_seq ?_
  refine region_seq ?_
  refine sv (v := .slice (some ⟨g52, 0, none⟩) n0 (n0 + 2)) henv rfl (rn_move henv rfl) ?_
  clear henv a; intro a henv
  refine seq_step rfl (op_call henv rfl Tryd.call45 rfl (p_text (xs := es0) (hst.pat (k := 0) rfl) hz58 (hk0.mono (by decide)) (by omega)) ?_)
  rintro e w60 ⟨rfl, hb⟩
  refine ⟨_, rfl, ?_⟩
  clear henv a; intro a henv
  replace hst := hst.call hb
  clear hb
  refine seq_step rfl (op_call henv rfl Tryd.call44 rfl (p_read_ok (rd_text es0) (by omega) (by omega)) ?_)
  rintro e w67 ⟨_, rfl, ⟨A61, c62, es63, rfl, hr, hl64, hz65, hn66⟩, hb⟩
  refine ⟨_, rfl, ?_⟩
  clear henv a; intro a henv
  replace hst := hst.freshRd hb hr hl64 (ap_N hr.2.1 trivial)
  clear hr
  clear hb
  revert a
  refine mA rfl rfl ?_
  refine sA (v := .slice A61 n0 c62) rfl (fun _ henv => rn_extract henv rfl rfl) ?_
  refine sA (v := .agg #[.int .i64 0, .int .i64 0]) rfl (fun _ henv => rn_extract henv rfl rfl) ?_
  intro a henv
  refine seq_step rfl (op_alloc (c := #[.int .i64 0, .int .i64 0]) henv hst rfl zero_anvil_api_Spot rfl ?_)
  clear henv hst a; intro a w69 g68 henv hst
  refine sv (v := .slice A61 n0 c62) henv rfl (rn_assign henv rfl) ?_
  clear henv a; intro a henv
  refine seq_step rfl (op_store (k := 0) (c' := #[.int .i64 0, .int .i64 0]) henv hst (ty_anvil_api_Spot.size) rfl rfl rfl rfl (by simp) rfl rfl ?_)
  clear henv hst a; intro a w70 henv hst
  refine wpList_nil ?_
  refine th_n ?_
  refine wp_seq ?_
  refine wp_seq ?_
  refine region_seq ?_
  revert a
  refine sA (v := .agg #[.int .i64 0, .int .i64 0]) rfl (fun _ henv => rn_load0 henv ty_anvil_api_Spot rfl (hst.oat (k := 0) rfl) rfl) ?_
  refine sA (v := .agg #[.int .i64 0, .int .i64 0]) rfl (fun _ henv => rn_spot0) ?_
  refine sA (v := .bool (!decide ([(0 : Int), (0 : Int)] = [(0 : Int), (0 : Int)]))) rfl (fun _ henv => rn_neqI [(0 : Int), (0 : Int)] [(0 : Int), (0 : Int)] henv spotI rfl rfl rfl rfl) ?_
  intro a henv
  rw [show (!decide ([(0 : Int), (0 : Int)] = [(0 : Int), (0 : Int)])) = false from (by rw [decide_eq_true rfl]; rfl)] at henv
  revert a
  refine mA rfl rfl ?_
  refine gA (v := .slice A61 n0 c62) rfl rfl rfl rfl (fun _ henv => rn_move henv rfl) ?_
  refine gA (v := .int .i64 (n0 : Nat)) rfl rfl rfl rfl (fun _ henv => rn_len henv Tryd.underlying32 rfl) ?_
  refine gA (v := .slice (some ⟨g52, 0, none⟩) n0 (n0 + 2)) rfl rfl rfl rfl (fun _ henv => rn_move henv rfl) ?_
  refine gA (v := .int .i64 (n0 : Nat)) rfl rfl rfl rfl (fun _ henv => rn_len henv Tryd.underlying32 rfl) ?_
  refine gA (v := .bool (((n0 : Nat) : Int) != ((n0 : Nat) : Int))) rfl rfl rfl rfl (fun _ henv => rn_bin henv rfl rfl rfl) ?_
  intro a henv
  rw [show (((n0 : Nat) : Int) != ((n0 : Nat) : Int)) = false from (bne_self_eq_false _)] at henv
  revert a
  refine sA (v := .bool false) rfl (fun _ henv => rn_pick henv rfl rfl) ?_
  refine mA rfl rfl ?_
  refine gA (v := .slice A61 n0 c62) rfl rfl rfl rfl (fun _ henv => rn_move henv rfl) ?_
  refine gA (v := .slice (some ⟨g52, 0, none⟩) n0 (n0 + 2)) rfl rfl rfl rfl (fun _ henv => rn_move henv rfl) ?_
  intro a henv
  refine seq_g rfl henv rfl rfl (op_call henv rfl Tryd.call19 rfl (p_same (xs := es0) (ys := es0) (hst.pat (k := 0) rfl) hz65 (hst.pat (k := 1) rfl) hz58 (by omega) (by omega)) ?_)
  rintro e w71 ⟨rfl, hb⟩
  refine ⟨_, rfl, ?_⟩
  clear henv a; intro a henv
  replace hst := hst.call hb
  clear hb
  rw [show (decide (trimN es0 = trimN es0)) = true from (decide_eq_true rfl)] at henv
  revert a
  refine gA (v := .bool false) rfl rfl rfl rfl (fun _ henv => rn_un henv rfl rfl) ?_
  refine sA (v := .bool false) rfl (fun _ henv => rn_pick henv rfl rfl) ?_
  intro a henv
  refine wpList_nil ?_
  refine th_n ?_
  refine if_f henv rfl (rfl) ?_
  refine wp_skip ?_
  refine th_n ?_
  refine wp_seq ?_
  refine region_seq ?_
  refine sv (v := .string ⟨s.toArray⟩) henv rfl (rn_move henv rfl) ?_
  clear henv a; intro a henv
  refine seq_step rfl (op_call henv rfl Tryd.call44 rfl (p_read_ok hr rfl (by omega)) ?_)
  rintro e w78 ⟨_, rfl, ⟨A72, c73, es74, rfl, hr, hl75, hz76, hn77⟩, hb⟩
  refine ⟨_, rfl, ?_⟩
  clear henv a; intro a henv
  replace hst := hst.freshRd hb hr hl75 (ap_N hr.2.1 ⟨nou_bk rfl, trivial⟩)
  clear hr
  clear hb
  revert a
  refine mA rfl rfl ?_
  refine sA (v := .slice A72 zs.length c73) rfl (fun _ henv => rn_extract henv rfl rfl) ?_
  refine sA (v := .agg #[.int .i64 0, .int .i64 0]) rfl (fun _ henv => rn_extract henv rfl rfl) ?_
  refine aA rfl rfl ?_
  intro a henv
  refine seq_step rfl (op_store (k := 0) (c' := #[.int .i64 0, .int .i64 0]) henv hst (ty_anvil_api_Spot.size) rfl rfl rfl rfl (by simp) rfl rfl ?_)
  clear henv hst a; intro a w79 henv hst
  refine wpList_nil ?_
  refine th_n ?_
  refine wp_seq ?_
  refine region_seq ?_
  revert a
  refine sA (v := .pointer (some ⟨g68, 0, none⟩)) rfl (fun _ henv => rn_fieldAddr henv fd_anvil_api_Spot_0 (ty_anvil_api_Errno.size) (by decide) rfl) ?_
  refine sA (v := .int .i64 0) rfl (fun _ henv => rn_load1 henv ty_anvil_api_Errno rfl (hst.oat (k := 0) rfl) rfl) ?_
  refine sA (v := .bool false) rfl (fun _ henv => rn_bin henv rfl rfl rfl) ?_
  refine mA rfl rfl ?_
  refine kA rfl rfl rfl rfl rfl ?_
  refine kA rfl rfl rfl rfl rfl ?_
  refine sA (v := .bool false) rfl (fun _ henv => rn_pick henv rfl rfl) ?_
  refine mA rfl rfl ?_
  refine gA (v := .pointer (some ⟨g68, 0, none⟩)) rfl rfl rfl rfl (fun _ henv => rn_fieldAddr henv fd_anvil_api_Spot_0 (ty_anvil_api_Errno.size) (by decide) rfl) ?_
  refine gA (v := .int .i64 0) rfl rfl rfl rfl (fun _ henv => rn_load1 henv ty_anvil_api_Errno rfl (hst.oat (k := 0) rfl) rfl) ?_
  refine gA (v := .bool true) rfl rfl rfl rfl (fun _ henv => rn_bin henv rfl rfl rfl) ?_
  refine gA (v := .bool true) rfl rfl rfl rfl (fun _ henv => rn_move henv rfl) ?_
  refine gA (v := .slice A72 zs.length c73) rfl rfl rfl rfl (fun _ henv => rn_move henv rfl) ?_
  intro a henv
  refine seq_g rfl henv rfl rfl (op_call henv rfl Tryd.call45 rfl (p_text (xs := zs) (hst.pat (k := 0) rfl) hz76 (hkx.mono (by decide)) (by omega)) ?_)
  rintro e w80 ⟨rfl, hb⟩
  refine ⟨_, rfl, ?_⟩
  clear henv a; intro a henv
  replace hst := hst.call hb
  clear hb
  revert a
  refine gA (v := .string ⟨s.toArray⟩) rfl rfl rfl rfl (fun _ henv => rn_move henv rfl) ?_
  refine gA (v := .bool (decide ((textRow zs) = s))) rfl rfl rfl rfl (fun _ henv => rn_eqls (s := (textRow zs)) (t := s) henv rfl rfl) ?_
  intro a henv
  rw [show (decide ((textRow zs) = s)) = true from (decide_eq_true (rd_back hr))] at henv
  revert a
  refine gA (v := .bool true) rfl rfl rfl rfl (fun _ henv => rn_pick henv rfl rfl) ?_
  refine sA (v := .bool true) rfl (fun _ henv => rn_pick henv rfl rfl) ?_
  refine aA rfl rfl ?_
  intro a henv
  refine wpList_nil ?_
  refine th_n ?_
  refine wp_ret ?_
  refine leave henv (res1 Tryd.results8 (RV.tmp henv rfl)) ?_
  exact ⟨rfl, hst.below⟩
theorem pback_law {A0 : Option Addr} {n0 c0 : Nat} {es0 : List Int} {s : List UInt8} {w0 : World} (h0 : (pfRow fI FI 1 A0 n0 c0 es0).P w0) (hI : I64 es0) (_hm : s.length ≤ maxLen) :
    Calls Tryd.prog 8 #[.slice A0 n0 c0, .string ⟨s.toArray⟩] w0 fun e w' => e = .returned (.bool true) ∧ Below w0.heap.size w0 w' := by
  rcases Nat.lt_or_ge 300 n0 with h3 | h3
  · exact pback_wide h0 hI h3
  rcases Nat.lt_or_ge 1000 s.length with h1 | h1
  · exact pback_mid h0 hI h1 h3
  · obtain ⟨r, hr⟩ := rd0_total s
    cases r with
    | inl zs => exact pback_ok h0 hI h1 h3 hr
    | inr b => exact pback_bad h0 hI h1 h3 hr
end Go.Proofs.YtghaenkacjgdnaaDoor.W
