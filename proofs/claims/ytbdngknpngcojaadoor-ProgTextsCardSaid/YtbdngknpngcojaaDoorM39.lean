/- The reference's text of a number. Printed by pv/gen_rtext.py. No condition. -/
import Derived.Test.YtbdngknpngcojaaDoorM34
import Derived.Test.YtbdngknpngcojaaDoorM15
import Derived.Test.YtbdngknpngcojaaDoorM35
import Derived.Test.YtbdngknpngcojaaDoorM38

namespace Go.Proofs.YtbdngknpngcojaaDoor.W
open Go.RowKit Anv Go.Lib
def txt0 (M : Nat) : List UInt8 := if M = 0 then [] else textN M
theorem txt0_zero : txt0 0 = [] := rfl
theorem txt0_pos {M : Nat} (h : M ≠ 0) : txt0 M = textN M := if_neg h
theorem txt_step {M : Nat} (h : 0 < M) : txt0 M = txt0 (M / 10) ++ [dch (M % 10)] := by
  rw [txt0_pos (by omega)]
  by_cases h1 : M / 10 = 0
  · rw [h1, txt0_zero, List.nil_append, Nat.mod_eq_of_lt (by omega)]
    exact textN_one h (by omega)
  · rw [txt0_pos h1]
    have := textN_ten (q := M / 10) (d := M % 10) (by omega) (Nat.mod_lt _ (by decide))
    rwa [Nat.div_add_mod'] at this
theorem txt0_bd (N : Nat) : (txt0 N).length ≤ 5 * dn N := by
  by_cases h : N = 0
  · subst h; simp [txt0]
  · rw [txt0_pos h]
    have hd := dn_pos (N := N) (by omega)
    refine textN_len (by omega) ?_
    have h1 : N < 65536 ^ dn N := lt_pow_dig (by decide) N
    refine Nat.lt_of_lt_of_le h1 ?_
    rw [Nat.pow_mul]
    exact Nat.pow_le_pow_left (by decide) _
theorem txt_len {M N : Nat} {bs : List UInt8} (h : txt0 M ++ bs.reverse = txt0 N) : bs.length ≤ (txt0 N).length := by
  rw [← h]; simp
theorem txt_rev {N : Nat} {bs : List UInt8} (h : txt0 0 ++ bs.reverse = txt0 N) : bs.reverse = txt0 N := h
theorem txt_nil {N : Nat} (h : txt0 N = []) : N = 0 := by
  rcases Nat.eq_zero_or_pos N with h0 | h0
  · exact h0
  · rw [txt0_pos (by omega)] at h
    exact absurd h (textN_ne N)
theorem txt_neg {z : Int} {bs : List UInt8} (hn : neg z = true) (h0 : z.natAbs ≠ 0) (h : bs.reverse = txt0 z.natAbs) : (bs ++ [45]).reverse = textZ z := by
  rw [List.reverse_append, h, txt0_pos h0]
  unfold textZ
  rw [hn]
  rfl
theorem txt_pos {z : Int} {bs : List UInt8} (hn : neg z = false) (h0 : z.natAbs ≠ 0) (h : bs.reverse = txt0 z.natAbs) : bs.reverse = textZ z := by
  rw [h, txt0_pos h0]
  unfold textZ
  rw [hn]
  rfl
theorem bc_neg (l : List UInt8) : byteCells l ++ (#[Value.int .u8 45] : Array Value).toList = byteCells (l ++ [45]) := by simp [byteCells]
theorem bc_zero (l : List UInt8) : byteCells l ++ (#[Value.int .u8 48] : Array Value).toList = byteCells (l ++ [dch 0]) := by simp [byteCells]; rfl
theorem D_dig {d : Nat} (h : 0 < d) (h1 : d < 65536) : (D d).getD 0 0 = d := by
  rw [D_pos h, List.getD_cons_zero, Nat.mod_eq_of_lt h1]
theorem D_ten : D 10 = [10] := dig_val (b := 65536) (by decide) (xs := [10]) (by intro x hx; simp at hx; omega) (by simp [Anv.Norm])
theorem divide_ten {A B : Option Addr} {c d N : Nat} {w : World} (hx : U32 w A (dn N) c (D N)) (hy : U32 w B 1 d [10]) (hn : dn N ≤ 60000) :
    Calls Tryd.prog 72 #[.slice A (dn N) c, .slice B 1 d] w fun e w' =>
      ∃ A1 c1 A2 c2, e = .returned (.tuple #[.slice A1 (dn (N / 10)) c1, .slice A2 (dn (N % 10)) c2]) ∧ U32 w' A1 (dn (N / 10)) c1 (D (N / 10)) ∧ U32 w' A2 (dn (N % 10)) c2 (D (N % 10)) ∧ Below w.heap.size w w' := by
  have h1 : dn 10 = 1 := by unfold dn; rw [D_ten]; rfl
  have h2 := divide_ref (M := 10) (B := B) (d := d) hx (by rw [D_ten, h1]; exact hy) hn (by omega) (by decide)
  rw [h1] at h2
  exact h2
def swp (l : List UInt8) (i k : Nat) : UInt8 := if k < i ∨ l.length - i ≤ k then l.getD (l.length - 1 - k) 0 else l.getD k 0
theorem swp_zero {l : List UInt8} {n : Nat} {cur : Array Value} (hn : n = l.length) (h : ∀ i, i < n → cur[i]? = some (.int .u8 ((l.getD i 0).toNat : Nat))) : ∀ i, i < l.length → cur[i]? = some (.int .u8 ((swp l 0 i).toNat : Nat)) := by
  intro i hi
  unfold swp
  rw [if_neg (by omega)]
  exact h i (by omega)
theorem swp_next {l : List UInt8} {j : Nat} {cur : Array Value} (h : ∀ i, i < l.length → cur[i]? = some (.int .u8 ((swp l j i).toNat : Nat))) (hj : j < l.length / 2) (hs : l.length ≤ cur.size) :
    ∀ i, i < l.length → ((cur.setIfInBounds j (.int .u8 ((swp l j (l.length - 1 - j)).toNat : Nat))).setIfInBounds (l.length - 1 - j) (.int .u8 ((swp l j j).toNat : Nat)))[i]? = some (.int .u8 ((swp l (j + 1) i).toNat : Nat)) := by
  intro i hi
  have hA : swp l j (l.length - 1 - j) = l.getD (l.length - 1 - j) 0 := by unfold swp; rw [if_neg (by omega)]
  have hB : swp l j j = l.getD j 0 := by unfold swp; rw [if_neg (by omega)]
  rw [Array.getElem?_setIfInBounds]
  split
  · rename_i e
    subst e
    rw [if_pos (by simp; omega), hB]
    unfold swp
    rw [if_pos (by omega), show l.length - 1 - (l.length - 1 - j) = j by omega]
  · rename_i e
    rw [Array.getElem?_setIfInBounds]
    split
    · rename_i e2
      subst e2
      rw [if_pos (by omega), hA]
      unfold swp
      rw [if_pos (by omega)]
    · rename_i e2
      rw [h i hi]
      unfold swp
      by_cases h3 : i < j ∨ l.length - j ≤ i
      · rw [if_pos h3, if_pos (by omega)]
      · rw [if_neg h3, if_neg (by omega)]
theorem swp_end {l : List UInt8} {j : Nat} {cur : Array Value} (h : ∀ i, i < l.length → cur[i]? = some (.int .u8 ((swp l j i).toNat : Nat))) (hj : j = l.length / 2) :
    ∀ i, i < l.length → cur[i]? = some (.int .u8 ((l.reverse.getD i 0).toNat : Nat)) := by
  intro i hi
  rw [h i hi]
  have e : l.reverse.getD i 0 = l.getD (l.length - 1 - i) 0 := by
    simp only [List.getD, List.getElem?_reverse hi]
  rw [e]
  unfold swp
  by_cases h3 : i < j ∨ l.length - j ≤ i
  · rw [if_pos h3]
  · rw [if_neg h3, show l.length - 1 - i = i by omega]
theorem St.openG {w0 w : World} {own ps : List PF} {q : Value → Bool} {E k n : Nat} {v : Value} {bs : List UInt8} (h : St w0 w own ps) (hk : own[k]? = some (rowG q E 1 v n (byteCells bs))) (hne : bs ≠ []) :
    ∃ g cap cur, v = .slice (some ⟨g, 0, none⟩) n cap ∧ (∀ i, i < n → cur[i]? = some (.int .u8 ((bs.getD i 0).toNat : Nat))) ∧ cur.size = cap ∧ n ≤ cap ∧ St w0 w (own.set k (bk g cur E)) ps := by
  have h1 : w.ownsRow 0 E 1 v n (byteCells bs) := (h.owns hk).1
  have hl : bs.length = n := by have := h1.1; simpa [byteCells] using this
  rcases h1.2 with hn | ⟨g, cap, cur, rfl, h0, hg, hnc, hcm, hsz, htk⟩
  · exact absurd (List.length_eq_zero_iff.1 (by rw [hl]; exact hn.2)) hne
  · refine ⟨g, cap, cur, rfl, fun i hi => ?_, by omega, hnc, h.step' hk (e' := bk g cur E) hg (fun b hb => .inl ?_) rfl rfl rfl (Nat.le_refl _) fun _ _ _ => rfl⟩
    · have h1 : (cur.toList.take (n * 1))[i]? = some (.int .u8 ((bs.getD i 0).toNat : Nat)) := by
        rw [htk]
        have hi' : i < bs.length := by omega
        simp [byteCells, List.getD, hi']
      rw [List.getElem?_take_of_lt (by omega)] at h1
      simpa using h1
    · obtain rfl : b = g := hb
      rfl
set_option maxRecDepth 100000 in
set_option maxHeartbeats 4000000 in
theorem text_r {A : Option Addr} {c : Nat} {z : Int} {w0 : World} (hx : RIn w0 A c z) (hn : dl z ≤ 60000) :
    Calls Tryd.prog 63 #[.agg #[.bool (neg z), .slice A (dl z) c]] w0 fun e w' => e = .returned (.string ⟨(textZ z).toArray⟩) ∧ Below w0.heap.size w0 w' := by
  have htl := txt0_bd z.natAbs
  have hdz : dn z.natAbs = dl z := rfl
  refine enter Tryd.func63 rfl Tryd.ntmps63 rfl ?_
  intro a henv hst
  replace hst := hst.addU (show U32 _ A (dl z) c (D z.natAbs) from hx) trivial
  refine wp_seq ?_
  refine region_seq ?_
  refine seq_step rfl (op_box (c := #[.bool (neg z), .slice A (dl z) c]) henv hst rfl rfl rfl ?_)
  clear henv hst a; intro a w2 g1 henv hst
  refine sv (v := .string ⟨#[]⟩) henv rfl (rn_assign henv rfl) ?_
  clear henv a; intro a henv
  refine wpList_nil ?_
  refine th_n ?_
  refine wp_seq ?_
  refine region_seq ?_
  refine sv (v := .slice none 0 0) henv rfl (rn_assign henv rfl) ?_
  clear henv a; intro a henv
  refine wpList_nil ?_
  refine th_n ?_
  refine wp_seq ?_
  refine region_seq ?_
  revert a
  refine sA (v := .pointer (some ⟨g1, 1, none⟩)) rfl (fun _ henv => rn_fieldAddr henv fd_anvil_anvilref02_Int_1 (ty__uint32.size) (by decide) rfl) ?_
  refine sA (v := .slice A (dl z) c) rfl (fun _ henv => rn_load1 henv ty__uint32 rfl (hst.oat (k := 0) rfl) rfl) ?_
  refine aA rfl rfl ?_
  intro a henv
  refine wpList_nil ?_
  refine th_n ?_
  refine wp_seq ?_
  refine wp_block ?_
  replace hst := hst.addRowG notU 5 1
  refine wp_loop_ghost (fun mz a w => ∃ M : Nat, ∃ A1 : Option Addr, ∃ c1 : Nat, ∃ v : Value, ∃ bs : List UInt8, M = mz ∧ Env 72 a [(1, .pointer (some ⟨g1, 0, none⟩)), (3, v), (4, .slice A1 (dn M) c1)] ∧ St w0 w [rowG notU 5 1 v bs.length (byteCells bs), bk g1 #[.bool (neg z), .slice A (dl z) c] 95] [pfU A1 (dn M) c1 (D M)] ∧ txt0 M ++ bs.reverse = txt0 z.natAbs ∧ M ≤ z.natAbs) _ ⟨z.natAbs, A, c, _, [], rfl, henv.sub ⟨rfl, rfl, rfl, trivial⟩, hst.pick [0, 1] [0] (by decide), (List.append_nil _), (Nat.le_refl _)⟩ ?_
  clear henv hst a
  rintro mz a w3 ⟨M, A1, c1, v, bs, rfl, henv, hst, hbs, hMz⟩
  have hbl := txt_len hbs
  have hMd := dn_mono hMz
  refine wp_seq ?_
  refine wp_seq ?_
  refine region_seq ?_
  revert a
  refine mA rfl rfl ?_
  refine sA (v := .int .i64 ((dn M) : Nat)) rfl (fun _ henv => rn_len henv Tryd.underlying93 rfl) ?_
  refine sA (v := .bool (decide ((((dn M) : Nat) : Int) > (0 : Int)))) rfl (fun _ henv => rn_bin henv rfl rfl rfl) ?_
  intro a henv
  refine wpList_nil ?_
  refine th_n ?_
  refine if_split henv rfl (fun hc4 => ?_) (fun hc4 => ?_)
  · have hM0 : 0 < M := Nat.pos_of_ne_zero fun h0 => by have h1 := of_decide_eq_true hc4; rw [h0, dn_zero] at h1; omega
    refine wp_skip ?_
    refine th_n ?_
    refine wp_block ?_
    refine wp_seq ?_
    refine region_seq ?_
    refine sv (v := .slice A1 (dn M) c1) henv rfl (rn_move henv rfl) ?_
    clear henv a; intro a henv
    refine seq_step rfl (op_buildSlice (z := 1) (pv := #[(0, .int .u32 10)]) (c := #[.int .u32 10]) henv hst rfl Tryd.underlying93 (ty_uint32.size) zero_uint32 (by decide) (by decide) rfl (by kernel_rfl) ?_)
    clear henv hst a; intro a w6 g5 henv hst
    replace hst := hst.giveU (k := 0) (n := 1) (xs := [10]) rfl (lt1 (by decide)) rfl (by decide)
    refine seq_step rfl (op_call henv rfl Tryd.call72 rfl (divide_ten (N := M) (show U32 _ A1 (dn M) c1 (D M) from hst.pat (k := 1) rfl) (show U32 _ (some ⟨g5, 0, none⟩) 1 1 [10] from hst.pat (k := 0) rfl) (by omega)) ?_)
    rintro e w11 ⟨A7, c8, A9, c10, rfl, hU, hV, hb⟩
    refine ⟨_, rfl, ?_⟩
    clear henv a; intro a henv
    replace hst := ((hst.call hb).addU hU ⟨nou_rowG, nou_bk rfl, trivial⟩).addU hV ⟨nou_rowG, nou_bk rfl, trivial⟩
    clear hU hV
    clear hb
    revert a
    refine mA rfl rfl ?_
    refine sA (v := .slice A7 (dn (M / 10)) c8) rfl (fun _ henv => rn_extract henv rfl rfl) ?_
    refine sA (v := .slice A9 (dn (M % 10)) c10) rfl (fun _ henv => rn_extract henv rfl rfl) ?_
    refine aA rfl rfl ?_
    refine aA rfl rfl ?_
    intro a henv
    refine wpList_nil ?_
    refine th_n ?_
    refine wp_seq ?_
    refine region_seq ?_
    refine sv (v := .int .u32 0) henv rfl (rn_assign henv rfl) ?_
    clear henv a; intro a henv
    refine wpList_nil ?_
    refine th_n ?_
    refine wp_seq ?_
    refine wp_seq ?_
    refine region_seq ?_
    revert a
    refine mA rfl rfl ?_
    refine sA (v := .int .i64 (dn (M % 10) : Nat)) rfl (fun _ henv => rn_len henv Tryd.underlying93 rfl) ?_
    refine sA (v := .bool (decide (((dn (M % 10) : Nat) : Int) > (0 : Int)))) rfl (fun _ henv => rn_bin henv rfl rfl rfl) ?_
    intro a henv
    refine wpList_nil ?_
    refine th_n ?_
    refine if_split henv rfl (fun hc12 => ?_) (fun hc12 => ?_)
    · have hr0 : 0 < M % 10 := Nat.pos_of_ne_zero fun h0 => by have h1 := of_decide_eq_true hc12; rw [h0, dn_zero] at h1; omega
      have hdr := dn_pos hr0
      refine region_seq ?_
      revert a
      refine mA rfl rfl ?_
      refine sA (v := .pointer (some ⟨ab A9, ao A9 + 0, none⟩)) rfl (fun _ henv => rn_idxU (i := 0) henv Tryd.underlying93 (ty_uint32.size) rfl rfl (by omega) (show U32 _ A9 (dn (M % 10)) c10 (D (M % 10)) from (hst.pat (k := 0) rfl))) ?_
      refine sA (v := .int .u32 ((D (M % 10)).getD 0 0 : Nat)) rfl (fun _ henv => rn_loadU henv ty_uint32 rfl (by omega) (show U32 _ A9 (dn (M % 10)) c10 (D (M % 10)) from (hst.pat (k := 0) rfl))) ?_
      refine aA rfl rfl ?_
      intro a henv
      rw [D_dig hr0 (by omega)] at henv
      refine wpList_nil ?_
      refine th_n ?_
      refine wp_seq ?_
      refine region_seq ?_
      revert a
      refine mA rfl rfl ?_
      refine mA rfl rfl ?_
      refine sA (v := .int .u32 (48 + (M % 10) : Nat)) rfl (fun _ henv => rn_add henv rfl rfl (by rw [IntWalk.u32_in _ (by omega)]; omega)) ?_
      refine sA (v := .int .u8 (48 + (M % 10) : Nat)) rfl (fun _ henv => rn_conv henv rfl Tryd.underlying105 Tryd.underlying5 (IntWalk.u8_in _ (by omega))) ?_
      intro a henv
      refine seq_step rfl (op_buildSlice (z := 1) (pv := #[(0, .int .u8 (48 + (M % 10) : Nat))]) (c := #[.int .u8 (48 + (M % 10) : Nat)]) henv hst rfl Tryd.underlying62 (ty_uint8.size) zero_uint8 (by decide) (by decide) rfl (by kernel_rfl) ?_)
      clear henv hst a; intro a w14 g13 henv hst
      refine seq_step rfl (op_appendG (k := 1) (j := 0) henv hst rfl Tryd.underlying62 inf_u8 rfl rfl rfl rfl rfl rfl rfl rfl rfl rfl rfl (by unfold maxLen; omega) (by omega) ?_)
      clear henv hst a; intro a w16 v15 henv hst
      rw [show byteCells bs ++ (#[.int .u8 (48 + (M % 10) : Nat)] : Array Value).toList = byteCells (bs ++ [dch (M % 10)]) from (bc_dig (Nat.mod_lt _ (by decide)) _)] at hst
      refine sv (v := v15) henv rfl (rn_assign henv rfl) ?_
      clear henv a; intro a henv
      refine wpList_nil ?_
      refine th_n ?_
      refine region_seq ?_
      revert a
      refine mA rfl rfl ?_
      refine aA rfl rfl ?_
      intro a henv
      refine wpList_nil ?_
      refine bl_n ?_
      rw [show bs.length + 1 = (bs ++ [dch (M % 10)]).length by simp] at hst
      exact th_n ⟨_, (Nat.div_lt_self hM0 (by decide)), ⟨M / 10, A7, c8, v15, bs ++ [dch (M % 10)], rfl, henv.sub ⟨rfl, rfl, rfl, trivial⟩, hst.pick [1, 2] [1] (by decide), (by rw [List.reverse_append, List.reverse_singleton, ← List.append_assoc, ← txt_step hM0]; exact hbs), (Nat.le_trans (Nat.div_le_self _ _) hMz)⟩⟩
    · have hr0 : M % 10 = 0 := by have h1 := of_decide_eq_false hc12; exact (Nat.eq_zero_or_pos _).resolve_right fun h0 => by have := dn_pos h0; omega
      refine wp_skip ?_
      refine th_n ?_
      refine wp_seq ?_
      refine region_seq ?_
      revert a
      refine mA rfl rfl ?_
      refine mA rfl rfl ?_
      refine sA (v := .int .u32 48) rfl (fun _ henv => rn_bin henv rfl rfl rfl) ?_
      refine sA (v := .int .u8 48) rfl (fun _ henv => rn_conv henv rfl Tryd.underlying105 Tryd.underlying5 rfl) ?_
      intro a henv
      refine seq_step rfl (op_buildSlice (z := 1) (pv := #[(0, .int .u8 48)]) (c := #[.int .u8 48]) henv hst rfl Tryd.underlying62 (ty_uint8.size) zero_uint8 (by decide) (by decide) rfl (by kernel_rfl) ?_)
      clear henv hst a; intro a w18 g17 henv hst
      refine seq_step rfl (op_appendG (k := 1) (j := 0) henv hst rfl Tryd.underlying62 inf_u8 rfl rfl rfl rfl rfl rfl rfl rfl rfl rfl rfl (by unfold maxLen; omega) (by omega) ?_)
      clear henv hst a; intro a w20 v19 henv hst
      rw [show byteCells bs ++ (#[.int .u8 48] : Array Value).toList = byteCells (bs ++ [dch (M % 10)]) from (by rw [hr0]; exact bc_zero _)] at hst
      refine sv (v := v19) henv rfl (rn_assign henv rfl) ?_
      clear henv a; intro a henv
      refine wpList_nil ?_
      refine th_n ?_
      refine region_seq ?_
      revert a
      refine mA rfl rfl ?_
      refine aA rfl rfl ?_
      intro a henv
      refine wpList_nil ?_
      refine bl_n ?_
      rw [show bs.length + 1 = (bs ++ [dch (M % 10)]).length by simp] at hst
      exact th_n ⟨_, (Nat.div_lt_self hM0 (by decide)), ⟨M / 10, A7, c8, v19, bs ++ [dch (M % 10)], rfl, henv.sub ⟨rfl, rfl, rfl, trivial⟩, hst.pick [1, 2] [1] (by decide), (by rw [List.reverse_append, List.reverse_singleton, ← List.append_assoc, ← txt_step hM0]; exact hbs), (Nat.le_trans (Nat.div_le_self _ _) hMz)⟩⟩
  · have hM0 : M = 0 := by have h1 := of_decide_eq_false hc4; exact (Nat.eq_zero_or_pos M).resolve_right fun h0 => by have := dn_pos h0; omega
    subst hM0
    have hbs := txt_rev hbs
    refine wp_exit ?_
    refine th_x (th_x (bl_x (th_n ?_)))
    refine wp_seq ?_
    refine wp_seq ?_
    refine region_seq ?_
    revert a
    refine mA rfl rfl ?_
    refine sA (v := .int .i64 (bs.length : Nat)) rfl (fun _ henv => rn_lenR henv Tryd.underlying62 rfl (rowG_F (hst.owns (k := 0) rfl))) ?_
    refine sA (v := .bool (((bs.length : Nat) : Int) == (0 : Int))) rfl (fun _ henv => rn_bin henv rfl rfl rfl) ?_
    intro a henv
    refine wpList_nil ?_
    refine th_n ?_
    refine if_split henv rfl (fun hc21 => ?_) (fun hc21 => ?_)
    · have hz0 : z.natAbs = 0 := txt_nil (by have h1 := hc21; simp at h1; rw [h1] at hbs; exact hbs.symm)
      refine wp_seq ?_
      refine region_seq ?_
      refine sv (v := .string ⟨#[48]⟩) henv rfl (rn_assign henv rfl) ?_
      clear henv a; intro a henv
      refine wpList_nil ?_
      refine th_n ?_
      refine wp_ret ?_
      refine th_r ?_
      refine leave henv (res1 Tryd.results63 (RV.tmp henv rfl)) ?_
      exact ⟨by rw [show z = 0 by omega]; rfl, hst.below⟩
    · have hbne0 : bs ≠ [] := by intro h0; have h1 := hc21; rw [h0] at h1; simp at h1
      have hz0 : z.natAbs ≠ 0 := fun h0 => by rw [h0, txt0_zero] at hbs; exact hbne0 (List.reverse_eq_nil_iff.1 hbs)
      refine wp_skip ?_
      refine th_n ?_
      refine wp_seq ?_
      refine wp_seq ?_
      refine region_seq ?_
      revert a
      refine sA (v := .pointer (some ⟨g1, 0, none⟩)) rfl (fun _ henv => rn_fieldAddr henv fd_anvil_anvilref02_Int_0 (ty_bool.size) (by decide) rfl) ?_
      refine sA (v := .bool (neg z)) rfl (fun _ henv => rn_load1 henv ty_bool rfl (hst.oat (k := 1) rfl) rfl) ?_
      intro a henv
      refine wpList_nil ?_
      refine th_n ?_
      refine if_split henv rfl (fun hc22 => ?_) (fun hc22 => ?_)
      · have hng := hc22
        refine region_seq ?_
        refine sv (v := v) henv rfl (rn_move henv rfl) ?_
        clear henv a; intro a henv
        refine seq_step rfl (op_buildSlice (z := 1) (pv := #[(0, .int .u8 45)]) (c := #[.int .u8 45]) henv hst rfl Tryd.underlying62 (ty_uint8.size) zero_uint8 (by decide) (by decide) rfl (by kernel_rfl) ?_)
        clear henv hst a; intro a w24 g23 henv hst
        refine seq_step rfl (op_appendG (k := 1) (j := 0) henv hst rfl Tryd.underlying62 inf_u8 rfl rfl rfl rfl rfl rfl rfl rfl rfl rfl rfl (by unfold maxLen; omega) (by omega) ?_)
        clear henv hst a; intro a w26 v25 henv hst
        rw [show byteCells bs ++ (#[.int .u8 45] : Array Value).toList = byteCells (bs ++ [45]) from (bc_neg _)] at hst
        refine sv (v := v25) henv rfl (rn_assign henv rfl) ?_
        clear henv a; intro a henv
        refine wpList_nil ?_
        refine th_n ?_
        refine wp_seq ?_
        refine wp_seq ?_
        obtain ⟨bt, hbt⟩ : ∃ bt, (bs ++ [45]) = bt := ⟨_, rfl⟩
        have hlt : (bs.length + 1) = bt.length := by rw [← hbt]; simp
        rw [hbt, hlt] at hst
        have hbne : bt ≠ [] := by rw [← hbt]; simp
        have htz : bt.reverse = textZ z := by rw [← hbt]; exact txt_neg hng hz0 hbs
        have hbtl : bt.length ≤ bs.length + 1 := by rw [← hbt]; simp
        refine region_seq ?_
        refine sv (v := .int .i64 0) henv rfl (rn_assign henv rfl) ?_
        clear henv a; intro a henv
        refine wpList_nil ?_
        refine th_n ?_
        refine wp_block ?_
        obtain ⟨g28, cap, cur, rfl, hcl, hcs, hnc, hst⟩ := hst.openG (k := 1) rfl hbne
        refine wp_loop_ghost (fun mz a w => ∃ j : Nat, ∃ cur : Array Value, bt.length / 2 - j = mz ∧ Env 72 a [(1, .pointer (some ⟨g1, 0, none⟩)), (3, .slice (some ⟨g28, 0, none⟩) bt.length cap), (8, .int .i64 (j : Nat))] ∧ St w0 w [bk g28 cur 5] [] ∧ j ≤ bt.length / 2 ∧ cur.size = cap ∧ ∀ i, i < bt.length → cur[i]? = some (.int .u8 ((swp bt j i).toNat : Nat))) _ ⟨0, _, rfl, henv.sub ⟨rfl, rfl, rfl, trivial⟩, hst.pick [1] [] (by decide), (Nat.zero_le _), hcs, (swp_zero rfl hcl)⟩ ?_
        clear henv hst a
        rintro mz a w29 ⟨j, cur, rfl, henv, hst, hj, hsz, hcell⟩
        refine wp_seq ?_
        refine wp_seq ?_
        refine region_seq ?_
        revert a
        refine mA rfl rfl ?_
        refine mA rfl rfl ?_
        refine sA (v := .int .i64 (bt.length : Nat)) rfl (fun _ henv => rn_len henv Tryd.underlying62 rfl) ?_
        refine sA (v := .int .i64 (bt.length / 2 : Nat)) rfl (fun _ henv => rn_quo henv rfl rfl (by decide) (quo_i64 (t := bt.length) (c := 2) (by omega))) ?_
        refine sA (v := .bool (decide (((j : Nat) : Int) < ((bt.length / 2 : Nat) : Int)))) rfl (fun _ henv => rn_bin henv rfl rfl rfl) ?_
        intro a henv
        refine wpList_nil ?_
        refine th_n ?_
        refine if_split henv rfl (fun hc30 => ?_) (fun hc30 => ?_)
        · have hjl : j < bt.length / 2 := by have := of_decide_eq_true hc30; omega
          refine wp_skip ?_
          refine th_n ?_
          refine wp_seq ?_
          refine wp_block ?_
          refine region_any (n := 24) (Sk [] [] [21, 23] [bk g28 cur 5]) mixed rfl henv hst ?_
          clear henv hst; intro w31 henv hst
          refine tM (i := 0) (rg 20 4) rfl (by kernel_rfl) (fun _ _ _ h => h) henv rfl rfl ?_
          clear henv a; intro a henv
          refine tM (i := 1) (rg 20 4) rfl (by kernel_rfl) (fun _ _ _ h => h) henv rfl rfl ?_
          clear henv a; intro a henv
          refine tM (i := 2) [22, 23] rfl (by kernel_rfl) (fun _ _ _ h => h) henv rfl rfl ?_
          clear henv a; intro a henv
          refine tM (i := 3) [4, 5, 7, 22, 23] rfl (by kernel_rfl) (fun _ _ _ h => h) henv rfl rfl ?_
          clear henv a; intro a henv
          refine tA (i := 4) [5, 7, 22, 23] (v := .int .i64 (bt.length : Nat)) rfl (by kernel_rfl) (fun _ _ _ h => h) henv rfl (fun _ => rn_len henv Tryd.underlying62 rfl) ?_
          clear henv a; intro a henv
          refine tA (i := 5) [7, 22, 23] (v := .int .i64 (bt.length - 1 : Nat)) rfl (by kernel_rfl) (fun _ _ _ h => h) henv rfl (fun _ => rn_sub henv rfl rfl (by rw [IntWalk.i64_in _ (by omega)]; omega)) ?_
          clear henv a; intro a henv
          refine tM (i := 6) [7, 22, 23] rfl (by kernel_rfl) (fun _ _ _ h => h) henv rfl rfl ?_
          clear henv a; intro a henv
          refine tA (i := 7) [22, 23] (v := .int .i64 ((bt.length - 1) - j : Nat)) rfl (by kernel_rfl) (fun _ _ _ h => h) henv rfl (fun _ => rn_sub henv rfl rfl (by rw [IntWalk.i64_in _ (by omega)]; omega)) ?_
          clear henv a; intro a henv
          refine tM (i := 8) [14, 15, 20, 21, 22, 23] rfl (by kernel_rfl) (fun _ _ _ h => h) henv rfl rfl ?_
          clear henv a; intro a henv
          refine tM (i := 9) [10, 11, 13, 14, 15, 20, 21, 22, 23] rfl (by kernel_rfl) (fun _ _ _ h => h) henv rfl rfl ?_
          clear henv a; intro a henv
          refine tA (i := 10) [11, 13, 14, 15, 20, 21, 22, 23] (v := .int .i64 (bt.length : Nat)) rfl (by kernel_rfl) (fun _ _ _ h => h) henv rfl (fun _ => rn_len henv Tryd.underlying62 rfl) ?_
          clear henv a; intro a henv
          refine tA (i := 11) [13, 14, 15, 20, 21, 22, 23] (v := .int .i64 (bt.length - 1 : Nat)) rfl (by kernel_rfl) (fun _ _ _ h => h) henv rfl (fun _ => rn_sub henv rfl rfl (by rw [IntWalk.i64_in _ (by omega)]; omega)) ?_
          clear henv a; intro a henv
          refine tM (i := 12) [13, 14, 15, 20, 21, 22, 23] rfl (by kernel_rfl) (fun _ _ _ h => h) henv rfl rfl ?_
          clear henv a; intro a henv
          refine tA (i := 13) [14, 15, 20, 21, 22, 23] (v := .int .i64 ((bt.length - 1) - j : Nat)) rfl (by kernel_rfl) (fun _ _ _ h => h) henv rfl (fun _ => rn_sub henv rfl rfl (by rw [IntWalk.i64_in _ (by omega)]; omega)) ?_
          clear henv a; intro a henv
          refine tA (i := 14) [15, 20, 21, 22, 23] (v := .pointer (some ⟨g28, (bt.length - 1) - j, none⟩)) rfl (by kernel_rfl) (fun _ _ _ h => h) henv rfl (fun _ => rn_idxO (i := (bt.length - 1) - j) henv Tryd.underlying62 (ty_uint8.size) rfl rfl (by omega) (by omega)) ?_
          clear henv a; intro a henv
          refine sAny_take (i := 15) [20, 21, 22, 23] (fun w' => w'.heap[g28]? = some (.cells cur 5 (0, 0))) (v := .int .u8 ((swp bt j ((bt.length - 1) - j)).toNat : Nat)) rfl (by kernel_rfl) (fun _ _ _ h => h) (fun _ _ hj hS => (hS.two rfl hj).oat (k := 0) rfl) henv rfl (hst.oat (k := 0) rfl) (fun w' hg => rn_load1 henv ty_uint8 rfl hg (hcell ((bt.length - 1) - j) (by omega))) ?_
          clear henv a; intro a henv
          refine tM (i := 16) (rg 18 6) rfl (by kernel_rfl) (fun _ _ _ h => h) henv rfl rfl ?_
          clear henv a; intro a henv
          refine tM (i := 17) (rg 18 6) rfl (by kernel_rfl) (fun _ _ _ h => h) henv rfl rfl ?_
          clear henv a; intro a henv
          refine tA (i := 18) (rg 19 5) (v := .pointer (some ⟨g28, j, none⟩)) rfl (by kernel_rfl) (fun _ _ _ h => h) henv rfl (fun _ => rn_idxO (i := j) henv Tryd.underlying62 (ty_uint8.size) rfl rfl (by omega) (by omega)) ?_
          clear henv a; intro a henv
          refine sAny_take (i := 19) [20, 21, 22, 23] (fun w' => w'.heap[g28]? = some (.cells cur 5 (0, 0))) (v := .int .u8 ((swp bt j j).toNat : Nat)) rfl (by kernel_rfl) (fun _ _ _ h => h) (fun _ _ hj hS => (hS.two rfl hj).oat (k := 0) rfl) henv rfl (hst.oat (k := 0) rfl) (fun w' hg => rn_load1 henv ty_uint8 rfl hg (hcell j (by omega))) ?_
          clear henv a; intro a henv
          refine tA (i := 20) [21, 22, 23] (v := .pointer (some ⟨g28, j, none⟩)) rfl (by kernel_rfl) (fun _ _ _ h => h) henv rfl (fun _ => rn_idxO (i := j) henv Tryd.underlying62 (ty_uint8.size) rfl rfl (by omega) (by omega)) ?_
          clear henv a; intro a henv
          refine sAny_one (i := 21) (by kernel_rfl) rfl rfl (op_store1 (k := 0) (c' := cur.setIfInBounds j (.int .u8 ((swp bt j ((bt.length - 1) - j)).toNat : Nat))) henv hst (ty_uint8.size) rfl rfl rfl (by first | omega | (simp; omega)) rfl rfl ?_)
          clear henv hst a; intro a w32 henv hst
          refine ⟨.inr ⟨hst.kn.pick [] [], .inl rfl⟩, ?_⟩
          refine tA (i := 22) [23] (v := .pointer (some ⟨g28, (bt.length - 1) - j, none⟩)) rfl (by kernel_rfl) (fun _ _ _ h => h) henv rfl (fun _ => rn_idxO (i := (bt.length - 1) - j) henv Tryd.underlying62 (ty_uint8.size) rfl rfl (by omega) (by omega)) ?_
          clear henv a; intro a henv
          refine sAny_one (i := 23) (by kernel_rfl) rfl rfl (op_store1 (k := 0) (c' := (cur.setIfInBounds j (.int .u8 ((swp bt j ((bt.length - 1) - j)).toNat : Nat))).setIfInBounds ((bt.length - 1) - j) (.int .u8 ((swp bt j j).toNat : Nat))) henv hst (ty_uint8.size) rfl rfl rfl (by first | omega | (simp; omega)) rfl rfl ?_)
          clear henv hst a; intro a w33 henv hst
          refine ⟨.inr ⟨hst.kn.pick [] [], .inl rfl⟩, ?_⟩
          refine sAny_done (by kernel_rfl) ?_ _
          refine bl_n (th_n ?_)
          refine region_seq ?_
          revert a
          refine mA rfl rfl ?_
          refine sA (v := .int .i64 (j + 1 : Nat)) rfl (fun _ henv => rn_add henv rfl rfl (by rw [IntWalk.i64_in _ (by omega)]; omega)) ?_
          refine aA rfl rfl ?_
          intro a henv
          refine wpList_nil ?_
          exact th_n ⟨_, (by omega), ⟨j + 1, _, rfl, henv.sub ⟨rfl, rfl, rfl, trivial⟩, hst.pick [0] [] (by decide), (by omega), (by simp [hsz]), (swp_next hcell (by omega) (by omega))⟩⟩
        · have hjl : j = bt.length / 2 := by have := of_decide_eq_false hc30; omega
          refine wp_exit ?_
          refine th_x (th_x (bl_x (th_n ?_)))
          refine wp_seq ?_
          refine region_seq ?_
          revert a
          refine mA rfl rfl ?_
          refine sA (v := .string ⟨(bt.reverse).toArray⟩) rfl (fun _ henv => rn_bytesStr (s := bt.reverse) henv Tryd.underlying62 Tryd.underlying5 Tryd.underlying9 rfl (List.length_reverse) (hst.oat (k := 0) rfl) (swp_end hcell (by omega))) ?_
          refine aA rfl rfl ?_
          intro a henv
          refine wpList_nil ?_
          refine th_n ?_
          refine wp_ret ?_
          refine leave henv (res1 Tryd.results63 (RV.tmp henv rfl)) ?_
          rw [htz]
          exact ⟨rfl, hst.below⟩
      · have hng := hc22
        refine wp_skip ?_
        refine th_n ?_
        refine wp_seq ?_
        refine wp_seq ?_
        obtain ⟨bt, hbt⟩ : ∃ bt, bs = bt := ⟨_, rfl⟩
        have hlt : bs.length = bt.length := by rw [hbt]
        rw [hbt] at hst
        have hbne : bt ≠ [] := by rw [← hbt]; exact hbne0
        have htz : bt.reverse = textZ z := by rw [← hbt]; exact txt_pos hng hz0 hbs
        have hbtl : bt.length ≤ bs.length + 1 := by rw [← hbt]; simp
        refine region_seq ?_
        refine sv (v := .int .i64 0) henv rfl (rn_assign henv rfl) ?_
        clear henv a; intro a henv
        refine wpList_nil ?_
        refine th_n ?_
        refine wp_block ?_
        obtain ⟨g35, cap, cur, rfl, hcl, hcs, hnc, hst⟩ := hst.openG (k := 0) rfl hbne
        refine wp_loop_ghost (fun mz a w => ∃ j : Nat, ∃ cur : Array Value, bt.length / 2 - j = mz ∧ Env 72 a [(1, .pointer (some ⟨g1, 0, none⟩)), (3, .slice (some ⟨g35, 0, none⟩) bt.length cap), (8, .int .i64 (j : Nat))] ∧ St w0 w [bk g35 cur 5] [] ∧ j ≤ bt.length / 2 ∧ cur.size = cap ∧ ∀ i, i < bt.length → cur[i]? = some (.int .u8 ((swp bt j i).toNat : Nat))) _ ⟨0, _, rfl, henv.sub ⟨rfl, rfl, rfl, trivial⟩, hst.pick [0] [] (by decide), (Nat.zero_le _), hcs, (swp_zero rfl hcl)⟩ ?_
        clear henv hst a
        rintro mz a w36 ⟨j, cur, rfl, henv, hst, hj, hsz, hcell⟩
        refine wp_seq ?_
        refine wp_seq ?_
        refine region_seq ?_
        revert a
        refine mA rfl rfl ?_
        refine mA rfl rfl ?_
        refine sA (v := .int .i64 (bt.length : Nat)) rfl (fun _ henv => rn_len henv Tryd.underlying62 rfl) ?_
        refine sA (v := .int .i64 (bt.length / 2 : Nat)) rfl (fun _ henv => rn_quo henv rfl rfl (by decide) (quo_i64 (t := bt.length) (c := 2) (by omega))) ?_
        refine sA (v := .bool (decide (((j : Nat) : Int) < ((bt.length / 2 : Nat) : Int)))) rfl (fun _ henv => rn_bin henv rfl rfl rfl) ?_
        intro a henv
        refine wpList_nil ?_
        refine th_n ?_
        refine if_split henv rfl (fun hc37 => ?_) (fun hc37 => ?_)
        · have hjl : j < bt.length / 2 := by have := of_decide_eq_true hc37; omega
          refine wp_skip ?_
          refine th_n ?_
          refine wp_seq ?_
          refine wp_block ?_
          refine region_any (n := 24) (Sk [] [] [21, 23] [bk g35 cur 5]) mixed rfl henv hst ?_
          clear henv hst; intro w38 henv hst
          refine tM (i := 0) (rg 20 4) rfl (by kernel_rfl) (fun _ _ _ h => h) henv rfl rfl ?_
          clear henv a; intro a henv
          refine tM (i := 1) (rg 20 4) rfl (by kernel_rfl) (fun _ _ _ h => h) henv rfl rfl ?_
          clear henv a; intro a henv
          refine tM (i := 2) [22, 23] rfl (by kernel_rfl) (fun _ _ _ h => h) henv rfl rfl ?_
          clear henv a; intro a henv
          refine tM (i := 3) [4, 5, 7, 22, 23] rfl (by kernel_rfl) (fun _ _ _ h => h) henv rfl rfl ?_
          clear henv a; intro a henv
          refine tA (i := 4) [5, 7, 22, 23] (v := .int .i64 (bt.length : Nat)) rfl (by kernel_rfl) (fun _ _ _ h => h) henv rfl (fun _ => rn_len henv Tryd.underlying62 rfl) ?_
          clear henv a; intro a henv
          refine tA (i := 5) [7, 22, 23] (v := .int .i64 (bt.length - 1 : Nat)) rfl (by kernel_rfl) (fun _ _ _ h => h) henv rfl (fun _ => rn_sub henv rfl rfl (by rw [IntWalk.i64_in _ (by omega)]; omega)) ?_
          clear henv a; intro a henv
          refine tM (i := 6) [7, 22, 23] rfl (by kernel_rfl) (fun _ _ _ h => h) henv rfl rfl ?_
          clear henv a; intro a henv
          refine tA (i := 7) [22, 23] (v := .int .i64 ((bt.length - 1) - j : Nat)) rfl (by kernel_rfl) (fun _ _ _ h => h) henv rfl (fun _ => rn_sub henv rfl rfl (by rw [IntWalk.i64_in _ (by omega)]; omega)) ?_
          clear henv a; intro a henv
          refine tM (i := 8) [14, 15, 20, 21, 22, 23] rfl (by kernel_rfl) (fun _ _ _ h => h) henv rfl rfl ?_
          clear henv a; intro a henv
          refine tM (i := 9) [10, 11, 13, 14, 15, 20, 21, 22, 23] rfl (by kernel_rfl) (fun _ _ _ h => h) henv rfl rfl ?_
          clear henv a; intro a henv
          refine tA (i := 10) [11, 13, 14, 15, 20, 21, 22, 23] (v := .int .i64 (bt.length : Nat)) rfl (by kernel_rfl) (fun _ _ _ h => h) henv rfl (fun _ => rn_len henv Tryd.underlying62 rfl) ?_
          clear henv a; intro a henv
          refine tA (i := 11) [13, 14, 15, 20, 21, 22, 23] (v := .int .i64 (bt.length - 1 : Nat)) rfl (by kernel_rfl) (fun _ _ _ h => h) henv rfl (fun _ => rn_sub henv rfl rfl (by rw [IntWalk.i64_in _ (by omega)]; omega)) ?_
          clear henv a; intro a henv
          refine tM (i := 12) [13, 14, 15, 20, 21, 22, 23] rfl (by kernel_rfl) (fun _ _ _ h => h) henv rfl rfl ?_
          clear henv a; intro a henv
          refine tA (i := 13) [14, 15, 20, 21, 22, 23] (v := .int .i64 ((bt.length - 1) - j : Nat)) rfl (by kernel_rfl) (fun _ _ _ h => h) henv rfl (fun _ => rn_sub henv rfl rfl (by rw [IntWalk.i64_in _ (by omega)]; omega)) ?_
          clear henv a; intro a henv
          refine tA (i := 14) [15, 20, 21, 22, 23] (v := .pointer (some ⟨g35, (bt.length - 1) - j, none⟩)) rfl (by kernel_rfl) (fun _ _ _ h => h) henv rfl (fun _ => rn_idxO (i := (bt.length - 1) - j) henv Tryd.underlying62 (ty_uint8.size) rfl rfl (by omega) (by omega)) ?_
          clear henv a; intro a henv
          refine sAny_take (i := 15) [20, 21, 22, 23] (fun w' => w'.heap[g35]? = some (.cells cur 5 (0, 0))) (v := .int .u8 ((swp bt j ((bt.length - 1) - j)).toNat : Nat)) rfl (by kernel_rfl) (fun _ _ _ h => h) (fun _ _ hj hS => (hS.two rfl hj).oat (k := 0) rfl) henv rfl (hst.oat (k := 0) rfl) (fun w' hg => rn_load1 henv ty_uint8 rfl hg (hcell ((bt.length - 1) - j) (by omega))) ?_
          clear henv a; intro a henv
          refine tM (i := 16) (rg 18 6) rfl (by kernel_rfl) (fun _ _ _ h => h) henv rfl rfl ?_
          clear henv a; intro a henv
          refine tM (i := 17) (rg 18 6) rfl (by kernel_rfl) (fun _ _ _ h => h) henv rfl rfl ?_
          clear henv a; intro a henv
          refine tA (i := 18) (rg 19 5) (v := .pointer (some ⟨g35, j, none⟩)) rfl (by kernel_rfl) (fun _ _ _ h => h) henv rfl (fun _ => rn_idxO (i := j) henv Tryd.underlying62 (ty_uint8.size) rfl rfl (by omega) (by omega)) ?_
          clear henv a; intro a henv
          refine sAny_take (i := 19) [20, 21, 22, 23] (fun w' => w'.heap[g35]? = some (.cells cur 5 (0, 0))) (v := .int .u8 ((swp bt j j).toNat : Nat)) rfl (by kernel_rfl) (fun _ _ _ h => h) (fun _ _ hj hS => (hS.two rfl hj).oat (k := 0) rfl) henv rfl (hst.oat (k := 0) rfl) (fun w' hg => rn_load1 henv ty_uint8 rfl hg (hcell j (by omega))) ?_
          clear henv a; intro a henv
          refine tA (i := 20) [21, 22, 23] (v := .pointer (some ⟨g35, j, none⟩)) rfl (by kernel_rfl) (fun _ _ _ h => h) henv rfl (fun _ => rn_idxO (i := j) henv Tryd.underlying62 (ty_uint8.size) rfl rfl (by omega) (by omega)) ?_
          clear henv a; intro a henv
          refine sAny_one (i := 21) (by kernel_rfl) rfl rfl (op_store1 (k := 0) (c' := cur.setIfInBounds j (.int .u8 ((swp bt j ((bt.length - 1) - j)).toNat : Nat))) henv hst (ty_uint8.size) rfl rfl rfl (by first | omega | (simp; omega)) rfl rfl ?_)
          clear henv hst a; intro a w39 henv hst
          refine ⟨.inr ⟨hst.kn.pick [] [], .inl rfl⟩, ?_⟩
          refine tA (i := 22) [23] (v := .pointer (some ⟨g35, (bt.length - 1) - j, none⟩)) rfl (by kernel_rfl) (fun _ _ _ h => h) henv rfl (fun _ => rn_idxO (i := (bt.length - 1) - j) henv Tryd.underlying62 (ty_uint8.size) rfl rfl (by omega) (by omega)) ?_
          clear henv a; intro a henv
          refine sAny_one (i := 23) (by kernel_rfl) rfl rfl (op_store1 (k := 0) (c' := (cur.setIfInBounds j (.int .u8 ((swp bt j ((bt.length - 1) - j)).toNat : Nat))).setIfInBounds ((bt.length - 1) - j) (.int .u8 ((swp bt j j).toNat : Nat))) henv hst (ty_uint8.size) rfl rfl rfl (by first | omega | (simp; omega)) rfl rfl ?_)
          clear henv hst a; intro a w40 henv hst
          refine ⟨.inr ⟨hst.kn.pick [] [], .inl rfl⟩, ?_⟩
          refine sAny_done (by kernel_rfl) ?_ _
          refine bl_n (th_n ?_)
          refine region_seq ?_
          revert a
          refine mA rfl rfl ?_
          refine sA (v := .int .i64 (j + 1 : Nat)) rfl (fun _ henv => rn_add henv rfl rfl (by rw [IntWalk.i64_in _ (by omega)]; omega)) ?_
          refine aA rfl rfl ?_
          intro a henv
          refine wpList_nil ?_
          exact th_n ⟨_, (by omega), ⟨j + 1, _, rfl, henv.sub ⟨rfl, rfl, rfl, trivial⟩, hst.pick [0] [] (by decide), (by omega), (by simp [hsz]), (swp_next hcell (by omega) (by omega))⟩⟩
        · have hjl : j = bt.length / 2 := by have := of_decide_eq_false hc37; omega
          refine wp_exit ?_
          refine th_x (th_x (bl_x (th_n ?_)))
          refine wp_seq ?_
          refine region_seq ?_
          revert a
          refine mA rfl rfl ?_
          refine sA (v := .string ⟨(bt.reverse).toArray⟩) rfl (fun _ henv => rn_bytesStr (s := bt.reverse) henv Tryd.underlying62 Tryd.underlying5 Tryd.underlying9 rfl (List.length_reverse) (hst.oat (k := 0) rfl) (swp_end hcell (by omega))) ?_
          refine aA rfl rfl ?_
          intro a henv
          refine wpList_nil ?_
          refine th_n ?_
          refine wp_ret ?_
          refine leave henv (res1 Tryd.results63 (RV.tmp henv rfl)) ?_
          rw [htz]
          exact ⟨rfl, hst.below⟩
end Go.Proofs.YtbdngknpngcojaaDoor.W
