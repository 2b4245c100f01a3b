/- IntegerTexts, IntegerReads: the laws' walks. Printed by pv/gen_ilaw.py. No condition. -/
import Derived.Test.YtnldopjbiacbfaaDoorM39

namespace Go.Proofs.YtnldopjbiacbfaaDoor.W
open Go.RowKit Anv Go.Lib

theorem zero_z {A : Option Addr} {c : Nat} {w : World} (hx : ZIn w A c 0) :
    Calls Tryd.prog 26 #[.agg #[.bool (neg 0), .slice A (zl 0) c]] w fun e w' => e = .returned (.bool true) ∧ Below w.heap.size w w' := by
  rw [neg_zero, zl_zero]; exact zero_true hx
theorem sign_cases (t : List UInt8) : (t.getD 0 0).toNat ≠ 45 ∨ ∃ d, t = 45 :: d := by
  cases t with
  | nil => exact .inl (by decide)
  | cons c d =>
    by_cases h : c.toNat = 45
    · exact .inr ⟨d, by rw [UInt8.toNat_inj.1 (h.trans (show (45 : Nat) = (45 : UInt8).toNat from rfl))]⟩
    · exact .inl h
theorem iread_fb0 {d : List UInt8} {b : Nat} {w0 : World} (h45 : (d.getD 0 0).toNat ≠ 45) (hl : d.length + 0 ≤ 65536) (hfb : Fb 0 d b) :
    Calls Tryd.prog 42 #[.string ⟨d.toArray⟩] w0 fun e w' => e = .returned (.tuple #[.agg #[.bool (neg 0), .slice none (zl 0) 0], .agg #[.int .i64 6, .int .i64 (b : Nat)]]) ∧ Below w0.heap.size w0 w' := by
  by_cases hd : d = []
  · have hb : b = 0 := by rcases hfb.1 with h | h; rw [hd] at h; simp at h; exact h.1
    subst hb
    exact iread_empty hd
  · exact iread_bad0 h45 hl hd hfb
theorem iread_fb1 {d : List UInt8} {b : Nat} {w0 : World} (hl : d.length + 1 ≤ 65536) (hfb : Fb 1 d b) :
    Calls Tryd.prog 42 #[.string ⟨(45 :: d).toArray⟩] w0 fun e w' => e = .returned (.tuple #[.agg #[.bool (neg 0), .slice none (zl 0) 0], .agg #[.int .i64 6, .int .i64 (b + 1 : Nat)]]) ∧ Below w0.heap.size w0 w' :=
  iread_bad1 hl hfb
theorem rread_fb0 {d : List UInt8} {b : Nat} {w0 : World} (h45 : (d.getD 0 0).toNat ≠ 45) (hl : d.length ≤ 100000) (hfb : Fb 0 d b) :
    Calls Tryd.prog 45 #[.string ⟨d.toArray⟩] w0 fun e w' => e = .returned (.tuple #[.agg #[.bool (neg 0), .slice none (dl 0) 0], .int .i64 (b : Nat)]) ∧ Below w0.heap.size w0 w' := by
  rcases Nat.eq_zero_or_pos b with rfl | hb
  · rcases hfb.1 with ⟨h1, h2⟩ | ⟨_, h2⟩
    · unfold BadD at h2
      rcases (show (d.getD 0 0).toNat < 48 ∨ 57 < (d.getD 0 0).toNat by omega) with h3 | h3
      · exact rread_lo0 h45 h1 h3 hl
      · exact rread_hi0 h45 h1 h3 hl
    · exact rread_empty0 h2
  · exact rread_bad0 h45 hfb hb hl
theorem rread_fb1 {d : List UInt8} {b : Nat} {w0 : World} (hl : d.length ≤ 100000) (hfb : Fb 1 d b) :
    Calls Tryd.prog 45 #[.string ⟨(45 :: d).toArray⟩] w0 fun e w' => e = .returned (.tuple #[.agg #[.bool (neg 0), .slice none (dl 0) 0], .int .i64 (b + 1 : Nat)]) ∧ Below w0.heap.size w0 w' := by
  rcases Nat.eq_zero_or_pos b with rfl | hb
  · rcases hfb.1 with ⟨h1, h2⟩ | ⟨_, h2⟩
    · unfold BadD at h2
      rcases (show (d.getD 0 0).toNat < 48 ∨ 57 < (d.getD 0 0).toNat ∨ (d.getD 0 0).toNat = 48 by omega) with h3 | h3 | h3
      · exact rread_lo1 h1 h3 hl
      · exact rread_hi1 h1 h3 hl
      · exact rread_z1 h1 h3 hl
    · exact rread_empty1 h2
  · exact rread_bad1 hfb hb hl
/-- A number's text holds nothing wrong. -/
theorem ok_textN (N f : Nat) (h : f = 1 → 0 < N) : Ok f (textN N) := by
  refine ⟨List.length_pos_iff.2 (textN_ne N), fun q hq hb => ?_⟩
  have h1 := textN_ok N q hq
  unfold BadAt at h1
  unfold BadD at hb
  have h2 : ¬ (q = 0 ∧ f = 1 ∧ ((textN N).getD 0 0).toNat = 48) := fun ⟨_, h3, h4⟩ => textN_head (h h3) h4
  omega
theorem neg_sg {b : Bool} {N : Nat} (h : b = true → 0 < N) : neg (sg b N) = b := by
  rw [sg_neg]
  cases b
  · rfl
  · simp [h rfl]
theorem textZ_sg {b : Bool} {N : Nat} (h : b = true → 0 < N) : textZ (sg b N) = (if b then [45] else []) ++ textN N := by
  unfold textZ
  rw [neg_sg h, sg_abs]
theorem textZ_cases (z : Int) : (neg z = true ∧ 0 < z.natAbs ∧ textZ z = 45 :: textN z.natAbs ∧ sg true z.natAbs = z) ∨ (neg z = false ∧ textZ z = textN z.natAbs ∧ sg false z.natAbs = z) := by
  have hs := sg_self z
  unfold textZ
  cases h : neg z with
  | true =>
    refine .inl ⟨rfl, ?_, rfl, by rw [← h]; exact hs⟩
    unfold neg at h
    have := of_decide_eq_true h
    omega
  | false => exact .inr ⟨rfl, rfl, by rw [← h]; exact hs⟩
theorem iread_textZ {z : Int} {w0 : World} (h : zl z ≤ 6000) :
    Calls Tryd.prog 42 #[.string ⟨(textZ z).toArray⟩] w0 fun e w' => ∃ v, e = .returned (.tuple #[v, .agg #[.int .i64 0, .int .i64 0]]) ∧ ZAt w' v z ∧ Below w0.heap.size w0 w' := by
  have hl := textN_bd z.natAbs
  have hz : nl z.natAbs = zl z := rfl
  rcases textZ_cases z with ⟨_, h0, ht, hs⟩ | ⟨_, ht, hs⟩
  · rw [ht]
    have h1 := iread_ok1 (d := textN z.natAbs) (w0 := w0) (by omega) (ok_textN _ 1 fun _ => h0)
    rw [numOf_textN, hs] at h1
    exact h1
  · rw [ht]
    have h2 := ok_textN z.natAbs 0 (fun e => by cases e)
    have h3 := ok_first h2
    have h1 := iread_ok0 (d := textN z.natAbs) (w0 := w0) (by omega) (by omega) h2
    rw [numOf_textN, hs] at h1
    exact h1
theorem pos_num {d : List UInt8} (h : Ok 1 d) : 0 < numOf d := by
  rcases Nat.eq_zero_or_pos (numOf d) with h0 | h0
  · have h1 := textN_numOf _ d rfl h.ne h.ok
    rw [h0, textN_zero] at h1
    have h2 := (ok_first h).2.2.2 rfl
    rw [← h1] at h2
    exact absurd rfl h2
  · exact h0
theorem textZ_back0 {d : List UInt8} (h : Ok 0 d) : textZ (sg false (numOf d)) = d := by
  rw [textZ_sg (fun e => by cases e)]
  exact textN_numOf _ d rfl h.ne h.ok
theorem textZ_back1 {d : List UInt8} (h : Ok 1 d) : textZ (sg true (numOf d)) = 45 :: d := by
  rw [textZ_sg (fun _ => pos_num h), textN_numOf _ d rfl h.ne h.ok]
  rfl
theorem zl_num0 {d : List UInt8} (h : ∀ c ∈ d, 48 ≤ c.toNat ∧ c.toNat ≤ 57) : zl (sg false (numOf d)) ≤ d.length + 1 := by
  rw [sg_zl]
  have h1 := numOf_lt (l := d) fun c hc => (h c hc).2
  refine nl_le_of_lt (Nat.lt_of_lt_of_le h1 ?_)
  exact Nat.le_trans (Nat.pow_le_pow_left (show 10 ≤ 4294967296 by decide) _) (Nat.pow_le_pow_right (by decide) (by omega))
theorem zl_num1 {d : List UInt8} (h : ∀ c ∈ d, 48 ≤ c.toNat ∧ c.toNat ≤ 57) : zl (sg true (numOf d)) ≤ d.length + 1 := by
  have := zl_num0 h
  rw [sg_zl] at this ⊢
  exact this

set_option maxRecDepth 100000 in
set_option maxHeartbeats 4000000 in
theorem itexts_texts {b0 : Bool} {A0 : Option Addr} {n0 c0 : Nat} {xs0 : List Nat} {x : Int} {w0 : World} (u0 : U32 w0 A0 n0 c0 xs0) (hs0 : n0 ≤ 60) (hz0 : sg b0 (val 4294967296 xs0) = x) :
    Calls Tryd.prog 5 #[.agg #[.bool b0, .slice A0 n0 c0]] w0 fun e w' => e = .returned (.bool true) ∧ Below w0.heap.size w0 w' := by
  have hzx : zl x ≤ n0 := by rw [← hz0, sg_zl]; exact nl_val u0
  have hdx := dl_zl x
  refine enter Tryd.func5 rfl Tryd.ntmps5 rfl ?_
  intro a henv hst
  have hL0 := Nat.le_trans u0.cap u0.big
  replace hst := hst.addU u0 trivial
  clear u0
  refine wp_seq ?_
  refine region_seq ?_
  refine seq_step rfl (op_box (c := #[.bool b0, .slice A0 n0 c0]) henv hst rfl rfl rfl ?_)
  clear henv hst a; intro a w2 g1 henv hst
  refine seq_step rfl (op_val (v := .bool false) henv rfl (rn_assign henv rfl) ?_)
  clear henv a; intro a henv
  refine wpList_nil ?_
  refine th_n ?_
  refine wp_seq ?_
  refine wp_seq ?_
  refine region_seq ?_
  refine seq_step rfl (op_call henv rfl Tryd.call17 rfl (live_true _) ?_)
  rintro e w3 ⟨rfl, hb⟩
  refine ⟨_, rfl, ?_⟩
  clear henv a; intro a henv
  replace hst := hst.call hb
  clear hb
  refine seq_step rfl (op_val (v := .bool false) henv rfl (rn_un henv rfl rfl) ?_)
  clear henv a; intro a henv
  refine wpList_nil ?_
  refine th_n ?_
  refine if_f henv rfl (rfl) ?_
  refine wp_skip ?_
  refine th_n ?_
  refine wp_seq ?_
  refine wp_seq ?_
  refine region_seq ?_
  refine seq_step rfl (op_val (v := .agg #[.bool b0, .slice A0 n0 c0]) henv rfl (rn_load0 henv ty_anvil_anvillaw02_Num rfl (hst.oat (k := 0) rfl) rfl) ?_)
  clear henv a; intro a henv
  refine seq_step rfl (op_buildSlice (z := 2) (pv := #[(0, .agg #[.bool b0, .slice A0 n0 c0])]) (c := #[.bool b0, .slice A0 n0 c0]) henv hst rfl Tryd.underlying95 (ty_anvil_anvillaw02_Num.size) zero_anvil_anvillaw02_Num (by decide) (by decide) rfl (by kernel_rfl) ?_)
  clear henv hst a; intro a w5 g4 henv hst
  refine seq_step rfl (op_call henv rfl Tryd.call18 rfl (long_own1 (hst.oat (k := 0) rfl) hL0 false (by simp; omega)) ?_)
  rintro e w6 ⟨rfl, hb⟩
  refine ⟨_, rfl, ?_⟩
  clear henv a; intro a henv
  replace hst := hst.call hb
  clear hb
  refine wpList_nil ?_
  refine th_n ?_
  refine if_f henv rfl (rfl) ?_
  refine wp_skip ?_
  refine th_n ?_
  refine wp_seq ?_
  refine region_seq ?_
  refine seq_step rfl (op_val (v := .agg #[.bool b0, .slice A0 n0 c0]) henv rfl (rn_load0 henv ty_anvil_anvillaw02_Num rfl (hst.oat (k := 1) rfl) rfl) ?_)
  clear henv a; intro a henv
  refine seq_step rfl (op_call henv rfl Tryd.call19 rfl (of_given (z := x) (show U32 _ A0 n0 c0 xs0 from hst.pat (k := 0) rfl) hs0 hz0) ?_)
  rintro e w13 ⟨_, _, rfl, ⟨A7, c8, rfl, hz9⟩, ⟨A10, c11, rfl, hz12⟩, hb⟩
  refine ⟨_, rfl, ?_⟩
  clear henv a; intro a henv
  replace hst := ((hst.call hb).addZ hz9 ⟨nou_bk rfl, nou_bk rfl, trivial⟩).addR hz12 ⟨nou_bk rfl, nou_bk rfl, trivial⟩
  clear hz9 hz12
  clear hb
  refine seq_step rfl (op_val (v := .tuple #[.agg #[.bool (neg x), .slice A7 (zl x) c8], .agg #[.bool (neg x), .slice A10 (dl x) c11]]) henv rfl (rn_move henv rfl) ?_)
  clear henv a; intro a henv
  refine seq_step rfl (op_val (v := .agg #[.bool (neg x), .slice A7 (zl x) c8]) henv rfl (rn_extract henv rfl rfl) ?_)
  clear henv a; intro a henv
  refine seq_step rfl (op_val (v := .agg #[.bool (neg x), .slice A10 (dl x) c11]) henv rfl (rn_extract henv rfl rfl) ?_)
  clear henv a; intro a henv
  refine seq_step rfl (op_alloc (c := #[.bool (neg 0), .slice none (zl 0) 0]) henv hst rfl zero_anvil_integer_Int zcells ?_)
  clear henv hst a; intro a w15 g14 henv hst
  refine seq_step rfl (op_alloc (c := #[.bool (neg 0), .slice none (dl 0) 0]) henv hst rfl zero_anvil_anvilref02_Int rcells ?_)
  clear henv hst a; intro a w17 g16 henv hst
  refine seq_step rfl (op_store (k := 1) (c' := #[.bool (neg x), .slice A7 (zl x) c8]) henv hst (ty_anvil_integer_Int.size) rfl rfl rfl rfl (by simp) rfl rfl ?_)
  clear henv hst a; intro a w18 henv hst
  refine seq_step rfl (op_store (k := 0) (c' := #[.bool (neg x), .slice A10 (dl x) c11]) henv hst (ty_anvil_anvilref02_Int.size) rfl rfl rfl rfl (by simp) rfl rfl ?_)
  clear henv hst a; intro a w19 henv hst
  refine wpList_nil ?_
  refine th_n ?_
  refine wp_seq ?_
  refine region_seq ?_
  refine seq_step rfl (op_val (v := .agg #[.bool (neg x), .slice A7 (zl x) c8]) henv rfl (rn_load0 henv ty_anvil_integer_Int rfl (hst.oat (k := 1) rfl) rfl) ?_)
  clear henv a; intro a henv
  refine seq_step rfl (op_call henv rfl Tryd.call41 rfl (text_z (z := x) (show ZIn _ A7 c8 x from hst.pat (k := 1) rfl) (by omega)) ?_)
  rintro e w20 ⟨rfl, hb⟩
  refine ⟨_, rfl, ?_⟩
  clear henv a; intro a henv
  replace hst := hst.call hb
  clear hb
  refine seq_step rfl (op_val (v := .string ⟨(textZ x).toArray⟩) henv rfl (rn_assign henv rfl) ?_)
  clear henv a; intro a henv
  refine wpList_nil ?_
  refine th_n ?_
  refine wp_seq ?_
  refine region_seq ?_
  refine seq_step rfl (op_val (v := .string ⟨(textZ x).toArray⟩) henv rfl (rn_move henv rfl) ?_)
  clear henv a; intro a henv
  refine seq_step rfl (op_call henv rfl Tryd.call42 rfl (iread_textZ (z := x) (by omega)) ?_)
  rintro e w24 ⟨_, rfl, ⟨A21, c22, rfl, hz23⟩, hb⟩
  refine ⟨_, rfl, ?_⟩
  clear henv a; intro a henv
  replace hst := (hst.call hb).addZ hz23 ⟨nou_bk rfl, nou_bk rfl, nou_bk rfl, nou_bk rfl, trivial⟩
  clear hz23
  clear hb
  refine seq_step rfl (op_val (v := .tuple #[.agg #[.bool (neg x), .slice A21 (zl x) c22], .agg #[.int .i64 0, .int .i64 0]]) henv rfl (rn_move henv rfl) ?_)
  clear henv a; intro a henv
  refine seq_step rfl (op_val (v := .agg #[.bool (neg x), .slice A21 (zl x) c22]) henv rfl (rn_extract henv rfl rfl) ?_)
  clear henv a; intro a henv
  refine seq_step rfl (op_val (v := .agg #[.int .i64 0, .int .i64 0]) henv rfl (rn_extract henv rfl rfl) ?_)
  clear henv a; intro a henv
  refine seq_step rfl (op_alloc (c := #[.bool (neg 0), .slice none (zl 0) 0]) henv hst rfl zero_anvil_integer_Int zcells ?_)
  clear henv hst a; intro a w26 g25 henv hst
  refine seq_step rfl (op_alloc (c := #[.int .i64 0, .int .i64 0]) henv hst rfl zero_anvil_api_Spot rfl ?_)
  clear henv hst a; intro a w28 g27 henv hst
  refine seq_step rfl (op_store (k := 1) (c' := #[.bool (neg x), .slice A21 (zl x) c22]) henv hst (ty_anvil_integer_Int.size) rfl rfl rfl rfl (by simp) rfl rfl ?_)
  clear henv hst a; intro a w29 henv hst
  refine seq_step rfl (op_store (k := 0) (c' := #[.int .i64 0, .int .i64 0]) henv hst (ty_anvil_api_Spot.size) rfl rfl rfl rfl (by simp) rfl rfl ?_)
  clear henv hst a; intro a w30 henv hst
  refine wpList_nil ?_
  refine th_n ?_
  refine wp_seq ?_
  refine region_seq ?_
  refine seq_step rfl (op_val (v := .string ⟨(textZ x).toArray⟩) henv rfl (rn_move henv rfl) ?_)
  clear henv a; intro a henv
  refine seq_step rfl (op_val (v := .agg #[.bool (neg x), .slice A10 (dl x) c11]) henv rfl (rn_load0 henv ty_anvil_anvilref02_Int rfl (hst.oat (k := 2) rfl) rfl) ?_)
  clear henv a; intro a henv
  refine seq_step rfl (op_call henv rfl Tryd.call43 rfl (text_r (z := x) (show RIn _ A10 c11 x from hst.pat (k := 1) rfl) (by omega)) ?_)
  rintro e w31 ⟨rfl, hb⟩
  refine ⟨_, rfl, ?_⟩
  clear henv a; intro a henv
  replace hst := hst.call hb
  clear hb
  refine seq_step rfl (op_val (v := .bool (decide ((textZ x) = (textZ x)))) henv rfl (rn_eqls (s := (textZ x)) (t := (textZ x)) henv rfl rfl) ?_)
  clear henv a; intro a henv
  rw [show (decide ((textZ x) = (textZ x))) = true from decide_eq_true rfl] at henv
  refine seq_step rfl (op_val (v := .bool true) henv rfl (rn_move henv rfl) ?_)
  clear henv a; intro a henv
  refine seq_g rfl henv rfl rfl (op_val (v := .pointer (some ⟨g27, 0, none⟩)) henv rfl (rn_fieldAddr henv fd_anvil_api_Spot_0 (ty_anvil_api_Errno.size) (by decide) rfl) ?_)
  clear henv a; intro a henv
  refine seq_g rfl henv rfl rfl (op_val (v := .int .i64 0) henv rfl (rn_load1 henv ty_anvil_api_Errno rfl (hst.oat (k := 0) rfl) rfl) ?_)
  clear henv a; intro a henv
  refine seq_g rfl henv rfl rfl (op_val (v := .bool true) henv rfl (rn_bin henv rfl rfl rfl) ?_)
  clear henv a; intro a henv
  refine seq_step rfl (op_val (v := .bool true) henv rfl (rn_pick henv rfl rfl) ?_)
  clear henv a; intro a henv
  refine seq_step rfl (op_val (v := .bool true) henv rfl (rn_move henv rfl) ?_)
  clear henv a; intro a henv
  refine seq_g rfl henv rfl rfl (op_val (v := .pointer (some ⟨g27, 1, none⟩)) henv rfl (rn_fieldAddr henv fd_anvil_api_Spot_1 (ty_int.size) (by decide) rfl) ?_)
  clear henv a; intro a henv
  refine seq_g rfl henv rfl rfl (op_val (v := .int .i64 0) henv rfl (rn_load1 henv ty_int rfl (hst.oat (k := 0) rfl) rfl) ?_)
  clear henv a; intro a henv
  refine seq_g rfl henv rfl rfl (op_val (v := .bool true) henv rfl (rn_bin henv rfl rfl rfl) ?_)
  clear henv a; intro a henv
  refine seq_step rfl (op_val (v := .bool true) henv rfl (rn_pick henv rfl rfl) ?_)
  clear henv a; intro a henv
  refine seq_step rfl (op_val (v := .bool true) henv rfl (rn_move henv rfl) ?_)
  clear henv a; intro a henv
  refine seq_g rfl henv rfl rfl (op_val (v := .agg #[.bool (neg x), .slice A21 (zl x) c22]) henv rfl (rn_load0 henv ty_anvil_integer_Int rfl (hst.oat (k := 1) rfl) rfl) ?_)
  clear henv a; intro a henv
  refine seq_g rfl henv rfl rfl (op_val (v := .agg #[.bool (neg x), .slice A10 (dl x) c11]) henv rfl (rn_load0 henv ty_anvil_anvilref02_Int rfl (hst.oat (k := 2) rfl) rfl) ?_)
  clear henv a; intro a henv
  refine seq_g rfl henv rfl rfl (op_call henv rfl Tryd.call28 rfl (is_same (z := x) (y := x) (show ZIn _ A21 c22 x from hst.pat (k := 0) rfl) (show RIn _ A10 c11 x from hst.pat (k := 1) rfl) rfl (by omega) (by omega)) ?_)
  rintro e w32 ⟨rfl, hb⟩
  refine ⟨_, rfl, ?_⟩
  clear henv a; intro a henv
  replace hst := hst.call hb
  clear hb
  refine seq_step rfl (op_val (v := .bool true) henv rfl (rn_pick henv rfl rfl) ?_)
  clear henv a; intro a henv
  refine seq_step rfl (op_val (v := .bool true) henv rfl (rn_assign henv rfl) ?_)
  clear henv a; intro a henv
  refine wpList_nil ?_
  refine th_n ?_
  refine wp_ret ?_
  refine leave henv (res1 Tryd.results5 (RV.tmp henv rfl)) ?_
  exact ⟨rfl, hst.below⟩

set_option maxRecDepth 100000 in
set_option maxHeartbeats 4000000 in
theorem itexts_long {b0 : Bool} {A0 : Option Addr} {n0 c0 : Nat} {xs0 : List Nat} {w0 : World} (u0 : U32 w0 A0 n0 c0 xs0) (hs0 : 60 < n0) :
    Calls Tryd.prog 5 #[.agg #[.bool b0, .slice A0 n0 c0]] w0 fun e w' => e = .returned (.bool true) ∧ Below w0.heap.size w0 w' := by
  refine enter Tryd.func5 rfl Tryd.ntmps5 rfl ?_
  intro a henv hst
  have hL0 := Nat.le_trans u0.cap u0.big
  replace hst := hst.addU u0 trivial
  clear u0
  refine wp_seq ?_
  refine region_seq ?_
  refine seq_step rfl (op_box (c := #[.bool b0, .slice A0 n0 c0]) henv hst rfl rfl rfl ?_)
  clear henv hst a; intro a w2 g1 henv hst
  refine seq_step rfl (op_val (v := .bool false) henv rfl (rn_assign henv rfl) ?_)
  clear henv a; intro a henv
  refine wpList_nil ?_
  refine th_n ?_
  refine wp_seq ?_
  refine wp_seq ?_
  refine region_seq ?_
  refine seq_step rfl (op_call henv rfl Tryd.call17 rfl (live_true _) ?_)
  rintro e w3 ⟨rfl, hb⟩
  refine ⟨_, rfl, ?_⟩
  clear henv a; intro a henv
  replace hst := hst.call hb
  clear hb
  refine seq_step rfl (op_val (v := .bool false) henv rfl (rn_un henv rfl rfl) ?_)
  clear henv a; intro a henv
  refine wpList_nil ?_
  refine th_n ?_
  refine if_f henv rfl (rfl) ?_
  refine wp_skip ?_
  refine th_n ?_
  refine wp_seq ?_
  refine wp_seq ?_
  refine region_seq ?_
  refine seq_step rfl (op_val (v := .agg #[.bool b0, .slice A0 n0 c0]) henv rfl (rn_load0 henv ty_anvil_anvillaw02_Num rfl (hst.oat (k := 0) rfl) rfl) ?_)
  clear henv a; intro a henv
  refine seq_step rfl (op_buildSlice (z := 2) (pv := #[(0, .agg #[.bool b0, .slice A0 n0 c0])]) (c := #[.bool b0, .slice A0 n0 c0]) henv hst rfl Tryd.underlying95 (ty_anvil_anvillaw02_Num.size) zero_anvil_anvillaw02_Num (by decide) (by decide) rfl (by kernel_rfl) ?_)
  clear henv hst a; intro a w5 g4 henv hst
  refine seq_step rfl (op_call henv rfl Tryd.call18 rfl (long_own1 (hst.oat (k := 0) rfl) hL0 true (by simp; omega)) ?_)
  rintro e w6 ⟨rfl, hb⟩
  refine ⟨_, rfl, ?_⟩
  clear henv a; intro a henv
  replace hst := hst.call hb
  clear hb
  refine wpList_nil ?_
  refine th_n ?_
  refine if_t henv rfl (rfl) ?_
  refine wp_seq ?_
  refine region_seq ?_
  refine seq_step rfl (op_val (v := .bool true) henv rfl (rn_assign henv rfl) ?_)
  clear henv a; intro a henv
  refine wpList_nil ?_
  refine th_n ?_
  refine wp_ret ?_
  refine th_r ?_
  refine leave henv (res1 Tryd.results5 (RV.tmp henv rfl)) ?_
  exact ⟨rfl, hst.below⟩

theorem itexts_law {b0 : Bool} {A0 : Option Addr} {n0 c0 : Nat} {xs0 : List Nat} {w0 : World} (u0 : U32 w0 A0 n0 c0 xs0) :
    Calls Tryd.prog 5 #[.agg #[.bool b0, .slice A0 n0 c0]] w0 fun e w' => e = .returned (.bool true) ∧ Below w0.heap.size w0 w' := by
  rcases Nat.lt_or_ge 60 n0 with h | h
  · exact itexts_long u0 h
  · exact itexts_texts u0 h rfl

set_option maxRecDepth 100000 in
set_option maxHeartbeats 4000000 in
theorem ireads_bad0 {d : List UInt8} {b : Nat} {w0 : World} (hl : d.length + 0 ≤ 400) (h45 : (d.getD 0 0).toNat ≠ 45) (hfb : Fb 0 d b) :
    Calls Tryd.prog 7 #[.string ⟨d.toArray⟩] w0 fun e w' => e = .returned (.bool true) ∧ Below w0.heap.size w0 w' := by
  have hl1 : d.length + 0 ≤ 65536 := by omega
  refine enter Tryd.func7 rfl Tryd.ntmps7 rfl ?_
  intro a henv hst
  refine wp_seq ?_
  refine region_seq ?_
  refine seq_step rfl (op_val (v := .bool false) henv rfl (rn_assign henv rfl) ?_)
  clear henv a; intro a henv
  refine wpList_nil ?_
  refine th_n ?_
  refine wp_seq ?_
  refine wp_seq ?_
  refine region_seq ?_
  refine seq_step rfl (op_call henv rfl Tryd.call17 rfl (live_true _) ?_)
  rintro e w1 ⟨rfl, hb⟩
  refine ⟨_, rfl, ?_⟩
  clear henv a; intro a henv
  replace hst := hst.call hb
  clear hb
  refine seq_step rfl (op_val (v := .bool false) henv rfl (rn_un henv rfl rfl) ?_)
  clear henv a; intro a henv
  refine wpList_nil ?_
  refine th_n ?_
  refine if_f henv rfl (rfl) ?_
  refine wp_skip ?_
  refine th_n ?_
  refine wp_seq ?_
  refine wp_seq ?_
  refine region_seq ?_
  refine seq_step rfl (op_val (v := .string ⟨d.toArray⟩) henv rfl (rn_move henv rfl) ?_)
  clear henv a; intro a henv
  refine seq_step rfl (op_val (v := .int .i64 (d.length : Nat)) henv rfl (rn_lenS henv Tryd.underlying9 rfl) ?_)
  clear henv a; intro a henv
  refine seq_step rfl (op_val (v := .bool (decide (((d.length : Nat) : Int) > (400 : Int)))) henv rfl (rn_bin henv rfl rfl rfl) ?_)
  clear henv a; intro a henv
  rw [show (decide (((d.length : Nat) : Int) > (400 : Int))) = false from decide_eq_false (by omega)] at henv
  refine wpList_nil ?_
  refine th_n ?_
  refine if_f henv rfl (rfl) ?_
  refine wp_skip ?_
  refine th_n ?_
  refine wp_seq ?_
  refine region_seq ?_
  refine seq_step rfl (op_val (v := .string ⟨d.toArray⟩) henv rfl (rn_move henv rfl) ?_)
  clear henv a; intro a henv
  refine seq_step rfl (op_call henv rfl Tryd.call42 rfl (iread_fb0 h45 hl1 hfb) ?_)
  rintro e w2 ⟨rfl, hb⟩
  refine ⟨_, rfl, ?_⟩
  clear henv a; intro a henv
  replace hst := hst.call hb
  replace hst := hst.addZ (zin_none _) trivial
  clear hb
  refine seq_step rfl (op_val (v := .tuple #[.agg #[.bool (neg 0), .slice none (zl 0) 0], .agg #[.int .i64 6, .int .i64 (b : Nat)]]) henv rfl (rn_move henv rfl) ?_)
  clear henv a; intro a henv
  refine seq_step rfl (op_val (v := .agg #[.bool (neg 0), .slice none (zl 0) 0]) henv rfl (rn_extract henv rfl rfl) ?_)
  clear henv a; intro a henv
  refine seq_step rfl (op_val (v := .agg #[.int .i64 6, .int .i64 (b : Nat)]) henv rfl (rn_extract henv rfl rfl) ?_)
  clear henv a; intro a henv
  refine seq_step rfl (op_alloc (c := #[.bool (neg 0), .slice none (zl 0) 0]) henv hst rfl zero_anvil_integer_Int zcells ?_)
  clear henv hst a; intro a w4 g3 henv hst
  refine seq_step rfl (op_alloc (c := #[.int .i64 0, .int .i64 0]) henv hst rfl zero_anvil_api_Spot rfl ?_)
  clear henv hst a; intro a w6 g5 henv hst
  refine seq_step rfl (op_store (k := 1) (c' := #[.bool (neg 0), .slice none (zl 0) 0]) henv hst (ty_anvil_integer_Int.size) rfl rfl rfl rfl (by simp) rfl rfl ?_)
  clear henv hst a; intro a w7 henv hst
  refine seq_step rfl (op_store (k := 0) (c' := #[.int .i64 6, .int .i64 (b : Nat)]) henv hst (ty_anvil_api_Spot.size) rfl rfl rfl rfl (by simp) rfl rfl ?_)
  clear henv hst a; intro a w8 henv hst
  refine wpList_nil ?_
  refine th_n ?_
  refine wp_seq ?_
  refine region_seq ?_
  refine seq_step rfl (op_val (v := .string ⟨d.toArray⟩) henv rfl (rn_move henv rfl) ?_)
  clear henv a; intro a henv
  refine seq_step rfl (op_call henv rfl Tryd.call45 rfl (rread_fb0 h45 (by omega) hfb) ?_)
  rintro e w9 ⟨rfl, hb⟩
  refine ⟨_, rfl, ?_⟩
  clear henv a; intro a henv
  replace hst := hst.call hb
  replace hst := hst.addR (rin_none _) ⟨nou_bk rfl, nou_bk rfl, trivial⟩
  clear hb
  refine seq_step rfl (op_val (v := .tuple #[.agg #[.bool (neg 0), .slice none (dl 0) 0], .int .i64 (b : Nat)]) henv rfl (rn_move henv rfl) ?_)
  clear henv a; intro a henv
  refine seq_step rfl (op_val (v := .agg #[.bool (neg 0), .slice none (dl 0) 0]) henv rfl (rn_extract henv rfl rfl) ?_)
  clear henv a; intro a henv
  refine seq_step rfl (op_val (v := .int .i64 (b : Nat)) henv rfl (rn_extract henv rfl rfl) ?_)
  clear henv a; intro a henv
  refine seq_step rfl (op_alloc (c := #[.bool (neg 0), .slice none (dl 0) 0]) henv hst rfl zero_anvil_anvilref02_Int rcells ?_)
  clear henv hst a; intro a w11 g10 henv hst
  refine seq_step rfl (op_store (k := 0) (c' := #[.bool (neg 0), .slice none (dl 0) 0]) henv hst (ty_anvil_anvilref02_Int.size) rfl rfl rfl rfl (by simp) rfl rfl ?_)
  clear henv hst a; intro a w12 henv hst
  refine seq_step rfl (op_val (v := .int .i64 (b : Nat)) henv rfl (rn_assign henv rfl) ?_)
  clear henv a; intro a henv
  refine wpList_nil ?_
  refine th_n ?_
  refine wp_seq ?_
  refine wp_seq ?_
  refine region_seq ?_
  refine seq_step rfl (op_val (v := .int .i64 (b : Nat)) henv rfl (rn_move henv rfl) ?_)
  clear henv a; intro a henv
  refine seq_step rfl (op_val (v := .bool (decide (((b : Nat) : Int) ≥ (0 : Int)))) henv rfl (rn_bin henv rfl rfl rfl) ?_)
  clear henv a; intro a henv
  rw [show (decide (((b : Nat) : Int) ≥ (0 : Int))) = true from decide_eq_true (by omega)] at henv
  refine wpList_nil ?_
  refine th_n ?_
  refine if_t henv rfl (rfl) ?_
  refine wp_seq ?_
  refine region_seq ?_
  refine seq_step rfl (op_val (v := .agg #[.bool (neg 0), .slice none (zl 0) 0]) henv rfl (rn_load0 henv ty_anvil_integer_Int rfl (hst.oat (k := 2) rfl) rfl) ?_)
  clear henv a; intro a henv
  refine seq_step rfl (op_call henv rfl Tryd.call26 rfl (zero_z (show ZIn _ none 0 0 from hst.pat (k := 1) rfl)) ?_)
  rintro e w13 ⟨rfl, hb⟩
  refine ⟨_, rfl, ?_⟩
  clear henv a; intro a henv
  replace hst := hst.call hb
  clear hb
  refine seq_step rfl (op_val (v := .bool true) henv rfl (rn_move henv rfl) ?_)
  clear henv a; intro a henv
  refine seq_g rfl henv rfl rfl (op_val (v := .pointer (some ⟨g5, 0, none⟩)) henv rfl (rn_fieldAddr henv fd_anvil_api_Spot_0 (ty_anvil_api_Errno.size) (by decide) rfl) ?_)
  clear henv a; intro a henv
  refine seq_g rfl henv rfl rfl (op_val (v := .int .i64 6) henv rfl (rn_load1 henv ty_anvil_api_Errno rfl (hst.oat (k := 1) rfl) rfl) ?_)
  clear henv a; intro a henv
  refine seq_g rfl henv rfl rfl (op_val (v := .bool true) henv rfl (rn_bin henv rfl rfl rfl) ?_)
  clear henv a; intro a henv
  refine seq_step rfl (op_val (v := .bool true) henv rfl (rn_pick henv rfl rfl) ?_)
  clear henv a; intro a henv
  refine seq_step rfl (op_val (v := .bool true) henv rfl (rn_move henv rfl) ?_)
  clear henv a; intro a henv
  refine seq_g rfl henv rfl rfl (op_val (v := .pointer (some ⟨g5, 1, none⟩)) henv rfl (rn_fieldAddr henv fd_anvil_api_Spot_1 (ty_int.size) (by decide) rfl) ?_)
  clear henv a; intro a henv
  refine seq_g rfl henv rfl rfl (op_val (v := .int .i64 (b : Nat)) henv rfl (rn_load1 henv ty_int rfl (hst.oat (k := 1) rfl) rfl) ?_)
  clear henv a; intro a henv
  refine seq_g rfl henv rfl rfl (op_val (v := .int .i64 (b : Nat)) henv rfl (rn_move henv rfl) ?_)
  clear henv a; intro a henv
  refine seq_g rfl henv rfl rfl (op_val (v := .bool (((b : Nat) : Int) == ((b : Nat) : Int))) henv rfl (rn_bin henv rfl rfl rfl) ?_)
  clear henv a; intro a henv
  rw [show (((b : Nat) : Int) == ((b : Nat) : Int)) = true from beq_self_eq_true _] at henv
  refine seq_step rfl (op_val (v := .bool true) henv rfl (rn_pick henv rfl rfl) ?_)
  clear henv a; intro a henv
  refine seq_step rfl (op_val (v := .bool true) henv rfl (rn_assign henv rfl) ?_)
  clear henv a; intro a henv
  refine wpList_nil ?_
  refine th_n ?_
  refine wp_ret ?_
  refine th_r ?_
  refine leave henv (res1 Tryd.results7 (RV.tmp henv rfl)) ?_
  exact ⟨rfl, hst.below⟩

set_option maxRecDepth 100000 in
set_option maxHeartbeats 4000000 in
theorem ireads_ok0 {d : List UInt8} {w0 : World} (hl : d.length + 0 ≤ 400) (h45 : (d.getD 0 0).toNat ≠ 45) (hfb : Ok 0 d) :
    Calls Tryd.prog 7 #[.string ⟨d.toArray⟩] w0 fun e w' => e = .returned (.bool true) ∧ Below w0.heap.size w0 w' := by
  have hok2 := hfb.ok
  have hdg := digits_of hok2
  have hzn := zl_num0 hdg
  have hdz := dl_zl (sg false (numOf d))
  have hl1 : d.length + 0 ≤ 65536 := by omega
  refine enter Tryd.func7 rfl Tryd.ntmps7 rfl ?_
  intro a henv hst
  refine wp_seq ?_
  refine region_seq ?_
  refine seq_step rfl (op_val (v := .bool false) henv rfl (rn_assign henv rfl) ?_)
  clear henv a; intro a henv
  refine wpList_nil ?_
  refine th_n ?_
  refine wp_seq ?_
  refine wp_seq ?_
  refine region_seq ?_
  refine seq_step rfl (op_call henv rfl Tryd.call17 rfl (live_true _) ?_)
  rintro e w1 ⟨rfl, hb⟩
  refine ⟨_, rfl, ?_⟩
  clear henv a; intro a henv
  replace hst := hst.call hb
  clear hb
  refine seq_step rfl (op_val (v := .bool false) henv rfl (rn_un henv rfl rfl) ?_)
  clear henv a; intro a henv
  refine wpList_nil ?_
  refine th_n ?_
  refine if_f henv rfl (rfl) ?_
  refine wp_skip ?_
  refine th_n ?_
  refine wp_seq ?_
  refine wp_seq ?_
  refine region_seq ?_
  refine seq_step rfl (op_val (v := .string ⟨d.toArray⟩) henv rfl (rn_move henv rfl) ?_)
  clear henv a; intro a henv
  refine seq_step rfl (op_val (v := .int .i64 (d.length : Nat)) henv rfl (rn_lenS henv Tryd.underlying9 rfl) ?_)
  clear henv a; intro a henv
  refine seq_step rfl (op_val (v := .bool (decide (((d.length : Nat) : Int) > (400 : Int)))) henv rfl (rn_bin henv rfl rfl rfl) ?_)
  clear henv a; intro a henv
  rw [show (decide (((d.length : Nat) : Int) > (400 : Int))) = false from decide_eq_false (by omega)] at henv
  refine wpList_nil ?_
  refine th_n ?_
  refine if_f henv rfl (rfl) ?_
  refine wp_skip ?_
  refine th_n ?_
  refine wp_seq ?_
  refine region_seq ?_
  refine seq_step rfl (op_val (v := .string ⟨d.toArray⟩) henv rfl (rn_move henv rfl) ?_)
  clear henv a; intro a henv
  refine seq_step rfl (op_call henv rfl Tryd.call42 rfl (iread_ok0 h45 (by omega) hfb) ?_)
  rintro e w5 ⟨_, rfl, ⟨A2, c3, rfl, hz4⟩, hb⟩
  refine ⟨_, rfl, ?_⟩
  clear henv a; intro a henv
  replace hst := (hst.call hb).addZ hz4 trivial
  clear hz4
  clear hb
  refine seq_step rfl (op_val (v := .tuple #[.agg #[.bool (neg (sg false (numOf d))), .slice A2 (zl (sg false (numOf d))) c3], .agg #[.int .i64 0, .int .i64 0]]) henv rfl (rn_move henv rfl) ?_)
  clear henv a; intro a henv
  refine seq_step rfl (op_val (v := .agg #[.bool (neg (sg false (numOf d))), .slice A2 (zl (sg false (numOf d))) c3]) henv rfl (rn_extract henv rfl rfl) ?_)
  clear henv a; intro a henv
  refine seq_step rfl (op_val (v := .agg #[.int .i64 0, .int .i64 0]) henv rfl (rn_extract henv rfl rfl) ?_)
  clear henv a; intro a henv
  refine seq_step rfl (op_alloc (c := #[.bool (neg 0), .slice none (zl 0) 0]) henv hst rfl zero_anvil_integer_Int zcells ?_)
  clear henv hst a; intro a w7 g6 henv hst
  refine seq_step rfl (op_alloc (c := #[.int .i64 0, .int .i64 0]) henv hst rfl zero_anvil_api_Spot rfl ?_)
  clear henv hst a; intro a w9 g8 henv hst
  refine seq_step rfl (op_store (k := 1) (c' := #[.bool (neg (sg false (numOf d))), .slice A2 (zl (sg false (numOf d))) c3]) henv hst (ty_anvil_integer_Int.size) rfl rfl rfl rfl (by simp) rfl rfl ?_)
  clear henv hst a; intro a w10 henv hst
  refine seq_step rfl (op_store (k := 0) (c' := #[.int .i64 0, .int .i64 0]) henv hst (ty_anvil_api_Spot.size) rfl rfl rfl rfl (by simp) rfl rfl ?_)
  clear henv hst a; intro a w11 henv hst
  refine wpList_nil ?_
  refine th_n ?_
  refine wp_seq ?_
  refine region_seq ?_
  refine seq_step rfl (op_val (v := .string ⟨d.toArray⟩) henv rfl (rn_move henv rfl) ?_)
  clear henv a; intro a henv
  refine seq_step rfl (op_call henv rfl Tryd.call45 rfl (rread_ok0 h45 hfb (by omega)) ?_)
  rintro e w15 ⟨_, rfl, ⟨A12, c13, rfl, hz14⟩, hb⟩
  refine ⟨_, rfl, ?_⟩
  clear henv a; intro a henv
  replace hst := (hst.call hb).addR hz14 ⟨nou_bk rfl, nou_bk rfl, trivial⟩
  clear hz14
  clear hb
  refine seq_step rfl (op_val (v := .tuple #[.agg #[.bool (neg (sg false (numOf d))), .slice A12 (dl (sg false (numOf d))) c13], .int .i64 (-1)]) henv rfl (rn_move henv rfl) ?_)
  clear henv a; intro a henv
  refine seq_step rfl (op_val (v := .agg #[.bool (neg (sg false (numOf d))), .slice A12 (dl (sg false (numOf d))) c13]) henv rfl (rn_extract henv rfl rfl) ?_)
  clear henv a; intro a henv
  refine seq_step rfl (op_val (v := .int .i64 (-1)) henv rfl (rn_extract henv rfl rfl) ?_)
  clear henv a; intro a henv
  refine seq_step rfl (op_alloc (c := #[.bool (neg 0), .slice none (dl 0) 0]) henv hst rfl zero_anvil_anvilref02_Int rcells ?_)
  clear henv hst a; intro a w17 g16 henv hst
  refine seq_step rfl (op_store (k := 0) (c' := #[.bool (neg (sg false (numOf d))), .slice A12 (dl (sg false (numOf d))) c13]) henv hst (ty_anvil_anvilref02_Int.size) rfl rfl rfl rfl (by simp) rfl rfl ?_)
  clear henv hst a; intro a w18 henv hst
  refine seq_step rfl (op_val (v := .int .i64 (-1)) henv rfl (rn_assign henv rfl) ?_)
  clear henv a; intro a henv
  refine wpList_nil ?_
  refine th_n ?_
  refine wp_seq ?_
  refine wp_seq ?_
  refine region_seq ?_
  refine seq_step rfl (op_val (v := .int .i64 (-1)) henv rfl (rn_move henv rfl) ?_)
  clear henv a; intro a henv
  refine seq_step rfl (op_val (v := .bool false) henv rfl (rn_bin henv rfl rfl rfl) ?_)
  clear henv a; intro a henv
  refine wpList_nil ?_
  refine th_n ?_
  refine if_f henv rfl (rfl) ?_
  refine wp_skip ?_
  refine th_n ?_
  refine wp_seq ?_
  refine region_seq ?_
  refine seq_step rfl (op_val (v := .agg #[.bool (neg (sg false (numOf d))), .slice A2 (zl (sg false (numOf d))) c3]) henv rfl (rn_load0 henv ty_anvil_integer_Int rfl (hst.oat (k := 2) rfl) rfl) ?_)
  clear henv a; intro a henv
  refine seq_step rfl (op_val (v := .agg #[.bool (neg (sg false (numOf d))), .slice A12 (dl (sg false (numOf d))) c13]) henv rfl (rn_load0 henv ty_anvil_anvilref02_Int rfl (hst.oat (k := 0) rfl) rfl) ?_)
  clear henv a; intro a henv
  refine seq_step rfl (op_call henv rfl Tryd.call28 rfl (is_same (z := sg false (numOf d)) (y := sg false (numOf d)) (show ZIn _ A2 c3 (sg false (numOf d)) from hst.pat (k := 1) rfl) (show RIn _ A12 c13 (sg false (numOf d)) from hst.pat (k := 0) rfl) rfl (by omega) (by omega)) ?_)
  rintro e w19 ⟨rfl, hb⟩
  refine ⟨_, rfl, ?_⟩
  clear henv a; intro a henv
  replace hst := hst.call hb
  clear hb
  refine seq_step rfl (op_val (v := .bool true) henv rfl (rn_move henv rfl) ?_)
  clear henv a; intro a henv
  refine seq_g rfl henv rfl rfl (op_val (v := .pointer (some ⟨g8, 0, none⟩)) henv rfl (rn_fieldAddr henv fd_anvil_api_Spot_0 (ty_anvil_api_Errno.size) (by decide) rfl) ?_)
  clear henv a; intro a henv
  refine seq_g rfl henv rfl rfl (op_val (v := .int .i64 0) henv rfl (rn_load1 henv ty_anvil_api_Errno rfl (hst.oat (k := 1) rfl) rfl) ?_)
  clear henv a; intro a henv
  refine seq_g rfl henv rfl rfl (op_val (v := .bool true) henv rfl (rn_bin henv rfl rfl rfl) ?_)
  clear henv a; intro a henv
  refine seq_step rfl (op_val (v := .bool true) henv rfl (rn_pick henv rfl rfl) ?_)
  clear henv a; intro a henv
  refine seq_step rfl (op_val (v := .bool true) henv rfl (rn_move henv rfl) ?_)
  clear henv a; intro a henv
  refine seq_g rfl henv rfl rfl (op_val (v := .pointer (some ⟨g8, 1, none⟩)) henv rfl (rn_fieldAddr henv fd_anvil_api_Spot_1 (ty_int.size) (by decide) rfl) ?_)
  clear henv a; intro a henv
  refine seq_g rfl henv rfl rfl (op_val (v := .int .i64 0) henv rfl (rn_load1 henv ty_int rfl (hst.oat (k := 1) rfl) rfl) ?_)
  clear henv a; intro a henv
  refine seq_g rfl henv rfl rfl (op_val (v := .bool true) henv rfl (rn_bin henv rfl rfl rfl) ?_)
  clear henv a; intro a henv
  refine seq_step rfl (op_val (v := .bool true) henv rfl (rn_pick henv rfl rfl) ?_)
  clear henv a; intro a henv
  refine seq_step rfl (op_val (v := .bool true) henv rfl (rn_move henv rfl) ?_)
  clear henv a; intro a henv
  refine seq_g rfl henv rfl rfl (op_val (v := .agg #[.bool (neg (sg false (numOf d))), .slice A2 (zl (sg false (numOf d))) c3]) henv rfl (rn_load0 henv ty_anvil_integer_Int rfl (hst.oat (k := 2) rfl) rfl) ?_)
  clear henv a; intro a henv
  refine seq_g rfl henv rfl rfl (op_call henv rfl Tryd.call41 rfl (text_z (z := sg false (numOf d)) (show ZIn _ A2 c3 (sg false (numOf d)) from hst.pat (k := 1) rfl) (by omega)) ?_)
  rintro e w20 ⟨rfl, hb⟩
  refine ⟨_, rfl, ?_⟩
  clear henv a; intro a henv
  replace hst := hst.call hb
  clear hb
  refine seq_g rfl henv rfl rfl (op_val (v := .string ⟨d.toArray⟩) henv rfl (rn_move henv rfl) ?_)
  clear henv a; intro a henv
  refine seq_g rfl henv rfl rfl (op_val (v := .bool (decide ((textZ (sg false (numOf d))) = d))) henv rfl (rn_eqls (s := (textZ (sg false (numOf d)))) (t := d) henv rfl rfl) ?_)
  clear henv a; intro a henv
  rw [show (decide ((textZ (sg false (numOf d))) = d)) = true from decide_eq_true (textZ_back0 hfb)] at henv
  refine seq_step rfl (op_val (v := .bool true) henv rfl (rn_pick henv rfl rfl) ?_)
  clear henv a; intro a henv
  refine seq_step rfl (op_val (v := .bool true) henv rfl (rn_assign henv rfl) ?_)
  clear henv a; intro a henv
  refine wpList_nil ?_
  refine th_n ?_
  refine wp_ret ?_
  refine leave henv (res1 Tryd.results7 (RV.tmp henv rfl)) ?_
  exact ⟨rfl, hst.below⟩

set_option maxRecDepth 100000 in
set_option maxHeartbeats 4000000 in
theorem ireads_bad1 {d : List UInt8} {b : Nat} {w0 : World} (hl : d.length + 1 ≤ 400) (hfb : Fb 1 d b) :
    Calls Tryd.prog 7 #[.string ⟨(45 :: d).toArray⟩] w0 fun e w' => e = .returned (.bool true) ∧ Below w0.heap.size w0 w' := by
  have hl1 : d.length + 1 ≤ 65536 := by omega
  refine enter Tryd.func7 rfl Tryd.ntmps7 rfl ?_
  intro a henv hst
  refine wp_seq ?_
  refine region_seq ?_
  refine seq_step rfl (op_val (v := .bool false) henv rfl (rn_assign henv rfl) ?_)
  clear henv a; intro a henv
  refine wpList_nil ?_
  refine th_n ?_
  refine wp_seq ?_
  refine wp_seq ?_
  refine region_seq ?_
  refine seq_step rfl (op_call henv rfl Tryd.call17 rfl (live_true _) ?_)
  rintro e w1 ⟨rfl, hb⟩
  refine ⟨_, rfl, ?_⟩
  clear henv a; intro a henv
  replace hst := hst.call hb
  clear hb
  refine seq_step rfl (op_val (v := .bool false) henv rfl (rn_un henv rfl rfl) ?_)
  clear henv a; intro a henv
  refine wpList_nil ?_
  refine th_n ?_
  refine if_f henv rfl (rfl) ?_
  refine wp_skip ?_
  refine th_n ?_
  refine wp_seq ?_
  refine wp_seq ?_
  refine region_seq ?_
  refine seq_step rfl (op_val (v := .string ⟨(45 :: d).toArray⟩) henv rfl (rn_move henv rfl) ?_)
  clear henv a; intro a henv
  refine seq_step rfl (op_val (v := .int .i64 ((45 :: d).length : Nat)) henv rfl (rn_lenS henv Tryd.underlying9 rfl) ?_)
  clear henv a; intro a henv
  rw [List.length_cons] at henv
  refine seq_step rfl (op_val (v := .bool (decide (((d.length + 1 : Nat) : Int) > (400 : Int)))) henv rfl (rn_bin henv rfl rfl rfl) ?_)
  clear henv a; intro a henv
  rw [show (decide (((d.length + 1 : Nat) : Int) > (400 : Int))) = false from decide_eq_false (by omega)] at henv
  refine wpList_nil ?_
  refine th_n ?_
  refine if_f henv rfl (rfl) ?_
  refine wp_skip ?_
  refine th_n ?_
  refine wp_seq ?_
  refine region_seq ?_
  refine seq_step rfl (op_val (v := .string ⟨(45 :: d).toArray⟩) henv rfl (rn_move henv rfl) ?_)
  clear henv a; intro a henv
  refine seq_step rfl (op_call henv rfl Tryd.call42 rfl (iread_fb1 hl1 hfb) ?_)
  rintro e w2 ⟨rfl, hb⟩
  refine ⟨_, rfl, ?_⟩
  clear henv a; intro a henv
  replace hst := hst.call hb
  replace hst := hst.addZ (zin_none _) trivial
  clear hb
  refine seq_step rfl (op_val (v := .tuple #[.agg #[.bool (neg 0), .slice none (zl 0) 0], .agg #[.int .i64 6, .int .i64 (b + 1 : Nat)]]) henv rfl (rn_move henv rfl) ?_)
  clear henv a; intro a henv
  refine seq_step rfl (op_val (v := .agg #[.bool (neg 0), .slice none (zl 0) 0]) henv rfl (rn_extract henv rfl rfl) ?_)
  clear henv a; intro a henv
  refine seq_step rfl (op_val (v := .agg #[.int .i64 6, .int .i64 (b + 1 : Nat)]) henv rfl (rn_extract henv rfl rfl) ?_)
  clear henv a; intro a henv
  refine seq_step rfl (op_alloc (c := #[.bool (neg 0), .slice none (zl 0) 0]) henv hst rfl zero_anvil_integer_Int zcells ?_)
  clear henv hst a; intro a w4 g3 henv hst
  refine seq_step rfl (op_alloc (c := #[.int .i64 0, .int .i64 0]) henv hst rfl zero_anvil_api_Spot rfl ?_)
  clear henv hst a; intro a w6 g5 henv hst
  refine seq_step rfl (op_store (k := 1) (c' := #[.bool (neg 0), .slice none (zl 0) 0]) henv hst (ty_anvil_integer_Int.size) rfl rfl rfl rfl (by simp) rfl rfl ?_)
  clear henv hst a; intro a w7 henv hst
  refine seq_step rfl (op_store (k := 0) (c' := #[.int .i64 6, .int .i64 (b + 1 : Nat)]) henv hst (ty_anvil_api_Spot.size) rfl rfl rfl rfl (by simp) rfl rfl ?_)
  clear henv hst a; intro a w8 henv hst
  refine wpList_nil ?_
  refine th_n ?_
  refine wp_seq ?_
  refine region_seq ?_
  refine seq_step rfl (op_val (v := .string ⟨(45 :: d).toArray⟩) henv rfl (rn_move henv rfl) ?_)
  clear henv a; intro a henv
  refine seq_step rfl (op_call henv rfl Tryd.call45 rfl (rread_fb1 (by omega) hfb) ?_)
  rintro e w9 ⟨rfl, hb⟩
  refine ⟨_, rfl, ?_⟩
  clear henv a; intro a henv
  replace hst := hst.call hb
  replace hst := hst.addR (rin_none _) ⟨nou_bk rfl, nou_bk rfl, trivial⟩
  clear hb
  refine seq_step rfl (op_val (v := .tuple #[.agg #[.bool (neg 0), .slice none (dl 0) 0], .int .i64 (b + 1 : Nat)]) henv rfl (rn_move henv rfl) ?_)
  clear henv a; intro a henv
  refine seq_step rfl (op_val (v := .agg #[.bool (neg 0), .slice none (dl 0) 0]) henv rfl (rn_extract henv rfl rfl) ?_)
  clear henv a; intro a henv
  refine seq_step rfl (op_val (v := .int .i64 (b + 1 : Nat)) henv rfl (rn_extract henv rfl rfl) ?_)
  clear henv a; intro a henv
  refine seq_step rfl (op_alloc (c := #[.bool (neg 0), .slice none (dl 0) 0]) henv hst rfl zero_anvil_anvilref02_Int rcells ?_)
  clear henv hst a; intro a w11 g10 henv hst
  refine seq_step rfl (op_store (k := 0) (c' := #[.bool (neg 0), .slice none (dl 0) 0]) henv hst (ty_anvil_anvilref02_Int.size) rfl rfl rfl rfl (by simp) rfl rfl ?_)
  clear henv hst a; intro a w12 henv hst
  refine seq_step rfl (op_val (v := .int .i64 (b + 1 : Nat)) henv rfl (rn_assign henv rfl) ?_)
  clear henv a; intro a henv
  refine wpList_nil ?_
  refine th_n ?_
  refine wp_seq ?_
  refine wp_seq ?_
  refine region_seq ?_
  refine seq_step rfl (op_val (v := .int .i64 (b + 1 : Nat)) henv rfl (rn_move henv rfl) ?_)
  clear henv a; intro a henv
  refine seq_step rfl (op_val (v := .bool (decide (((b + 1 : Nat) : Int) ≥ (0 : Int)))) henv rfl (rn_bin henv rfl rfl rfl) ?_)
  clear henv a; intro a henv
  rw [show (decide (((b + 1 : Nat) : Int) ≥ (0 : Int))) = true from decide_eq_true (by omega)] at henv
  refine wpList_nil ?_
  refine th_n ?_
  refine if_t henv rfl (rfl) ?_
  refine wp_seq ?_
  refine region_seq ?_
  refine seq_step rfl (op_val (v := .agg #[.bool (neg 0), .slice none (zl 0) 0]) henv rfl (rn_load0 henv ty_anvil_integer_Int rfl (hst.oat (k := 2) rfl) rfl) ?_)
  clear henv a; intro a henv
  refine seq_step rfl (op_call henv rfl Tryd.call26 rfl (zero_z (show ZIn _ none 0 0 from hst.pat (k := 1) rfl)) ?_)
  rintro e w13 ⟨rfl, hb⟩
  refine ⟨_, rfl, ?_⟩
  clear henv a; intro a henv
  replace hst := hst.call hb
  clear hb
  refine seq_step rfl (op_val (v := .bool true) henv rfl (rn_move henv rfl) ?_)
  clear henv a; intro a henv
  refine seq_g rfl henv rfl rfl (op_val (v := .pointer (some ⟨g5, 0, none⟩)) henv rfl (rn_fieldAddr henv fd_anvil_api_Spot_0 (ty_anvil_api_Errno.size) (by decide) rfl) ?_)
  clear henv a; intro a henv
  refine seq_g rfl henv rfl rfl (op_val (v := .int .i64 6) henv rfl (rn_load1 henv ty_anvil_api_Errno rfl (hst.oat (k := 1) rfl) rfl) ?_)
  clear henv a; intro a henv
  refine seq_g rfl henv rfl rfl (op_val (v := .bool true) henv rfl (rn_bin henv rfl rfl rfl) ?_)
  clear henv a; intro a henv
  refine seq_step rfl (op_val (v := .bool true) henv rfl (rn_pick henv rfl rfl) ?_)
  clear henv a; intro a henv
  refine seq_step rfl (op_val (v := .bool true) henv rfl (rn_move henv rfl) ?_)
  clear henv a; intro a henv
  refine seq_g rfl henv rfl rfl (op_val (v := .pointer (some ⟨g5, 1, none⟩)) henv rfl (rn_fieldAddr henv fd_anvil_api_Spot_1 (ty_int.size) (by decide) rfl) ?_)
  clear henv a; intro a henv
  refine seq_g rfl henv rfl rfl (op_val (v := .int .i64 (b + 1 : Nat)) henv rfl (rn_load1 henv ty_int rfl (hst.oat (k := 1) rfl) rfl) ?_)
  clear henv a; intro a henv
  refine seq_g rfl henv rfl rfl (op_val (v := .int .i64 (b + 1 : Nat)) henv rfl (rn_move henv rfl) ?_)
  clear henv a; intro a henv
  refine seq_g rfl henv rfl rfl (op_val (v := .bool (((b + 1 : Nat) : Int) == ((b + 1 : Nat) : Int))) henv rfl (rn_bin henv rfl rfl rfl) ?_)
  clear henv a; intro a henv
  rw [show (((b + 1 : Nat) : Int) == ((b + 1 : Nat) : Int)) = true from beq_self_eq_true _] at henv
  refine seq_step rfl (op_val (v := .bool true) henv rfl (rn_pick henv rfl rfl) ?_)
  clear henv a; intro a henv
  refine seq_step rfl (op_val (v := .bool true) henv rfl (rn_assign henv rfl) ?_)
  clear henv a; intro a henv
  refine wpList_nil ?_
  refine th_n ?_
  refine wp_ret ?_
  refine th_r ?_
  refine leave henv (res1 Tryd.results7 (RV.tmp henv rfl)) ?_
  exact ⟨rfl, hst.below⟩

set_option maxRecDepth 100000 in
set_option maxHeartbeats 4000000 in
theorem ireads_ok1 {d : List UInt8} {w0 : World} (hl : d.length + 1 ≤ 400) (hfb : Ok 1 d) :
    Calls Tryd.prog 7 #[.string ⟨(45 :: d).toArray⟩] w0 fun e w' => e = .returned (.bool true) ∧ Below w0.heap.size w0 w' := by
  have hok2 := hfb.ok
  have hdg := digits_of hok2
  have hzn := zl_num1 hdg
  have hdz := dl_zl (sg true (numOf d))
  have hl1 : d.length + 1 ≤ 65536 := by omega
  refine enter Tryd.func7 rfl Tryd.ntmps7 rfl ?_
  intro a henv hst
  refine wp_seq ?_
  refine region_seq ?_
  refine seq_step rfl (op_val (v := .bool false) henv rfl (rn_assign henv rfl) ?_)
  clear henv a; intro a henv
  refine wpList_nil ?_
  refine th_n ?_
  refine wp_seq ?_
  refine wp_seq ?_
  refine region_seq ?_
  refine seq_step rfl (op_call henv rfl Tryd.call17 rfl (live_true _) ?_)
  rintro e w1 ⟨rfl, hb⟩
  refine ⟨_, rfl, ?_⟩
  clear henv a; intro a henv
  replace hst := hst.call hb
  clear hb
  refine seq_step rfl (op_val (v := .bool false) henv rfl (rn_un henv rfl rfl) ?_)
  clear henv a; intro a henv
  refine wpList_nil ?_
  refine th_n ?_
  refine if_f henv rfl (rfl) ?_
  refine wp_skip ?_
  refine th_n ?_
  refine wp_seq ?_
  refine wp_seq ?_
  refine region_seq ?_
  refine seq_step rfl (op_val (v := .string ⟨(45 :: d).toArray⟩) henv rfl (rn_move henv rfl) ?_)
  clear henv a; intro a henv
  refine seq_step rfl (op_val (v := .int .i64 ((45 :: d).length : Nat)) henv rfl (rn_lenS henv Tryd.underlying9 rfl) ?_)
  clear henv a; intro a henv
  rw [List.length_cons] at henv
  refine seq_step rfl (op_val (v := .bool (decide (((d.length + 1 : Nat) : Int) > (400 : Int)))) henv rfl (rn_bin henv rfl rfl rfl) ?_)
  clear henv a; intro a henv
  rw [show (decide (((d.length + 1 : Nat) : Int) > (400 : Int))) = false from decide_eq_false (by omega)] at henv
  refine wpList_nil ?_
  refine th_n ?_
  refine if_f henv rfl (rfl) ?_
  refine wp_skip ?_
  refine th_n ?_
  refine wp_seq ?_
  refine region_seq ?_
  refine seq_step rfl (op_val (v := .string ⟨(45 :: d).toArray⟩) henv rfl (rn_move henv rfl) ?_)
  clear henv a; intro a henv
  refine seq_step rfl (op_call henv rfl Tryd.call42 rfl (iread_ok1 (by omega) hfb) ?_)
  rintro e w5 ⟨_, rfl, ⟨A2, c3, rfl, hz4⟩, hb⟩
  refine ⟨_, rfl, ?_⟩
  clear henv a; intro a henv
  replace hst := (hst.call hb).addZ hz4 trivial
  clear hz4
  clear hb
  refine seq_step rfl (op_val (v := .tuple #[.agg #[.bool (neg (sg true (numOf d))), .slice A2 (zl (sg true (numOf d))) c3], .agg #[.int .i64 0, .int .i64 0]]) henv rfl (rn_move henv rfl) ?_)
  clear henv a; intro a henv
  refine seq_step rfl (op_val (v := .agg #[.bool (neg (sg true (numOf d))), .slice A2 (zl (sg true (numOf d))) c3]) henv rfl (rn_extract henv rfl rfl) ?_)
  clear henv a; intro a henv
  refine seq_step rfl (op_val (v := .agg #[.int .i64 0, .int .i64 0]) henv rfl (rn_extract henv rfl rfl) ?_)
  clear henv a; intro a henv
  refine seq_step rfl (op_alloc (c := #[.bool (neg 0), .slice none (zl 0) 0]) henv hst rfl zero_anvil_integer_Int zcells ?_)
  clear henv hst a; intro a w7 g6 henv hst
  refine seq_step rfl (op_alloc (c := #[.int .i64 0, .int .i64 0]) henv hst rfl zero_anvil_api_Spot rfl ?_)
  clear henv hst a; intro a w9 g8 henv hst
  refine seq_step rfl (op_store (k := 1) (c' := #[.bool (neg (sg true (numOf d))), .slice A2 (zl (sg true (numOf d))) c3]) henv hst (ty_anvil_integer_Int.size) rfl rfl rfl rfl (by simp) rfl rfl ?_)
  clear henv hst a; intro a w10 henv hst
  refine seq_step rfl (op_store (k := 0) (c' := #[.int .i64 0, .int .i64 0]) henv hst (ty_anvil_api_Spot.size) rfl rfl rfl rfl (by simp) rfl rfl ?_)
  clear henv hst a; intro a w11 henv hst
  refine wpList_nil ?_
  refine th_n ?_
  refine wp_seq ?_
  refine region_seq ?_
  refine seq_step rfl (op_val (v := .string ⟨(45 :: d).toArray⟩) henv rfl (rn_move henv rfl) ?_)
  clear henv a; intro a henv
  refine seq_step rfl (op_call henv rfl Tryd.call45 rfl (rread_ok1 hfb (by omega)) ?_)
  rintro e w15 ⟨_, rfl, ⟨A12, c13, rfl, hz14⟩, hb⟩
  refine ⟨_, rfl, ?_⟩
  clear henv a; intro a henv
  replace hst := (hst.call hb).addR hz14 ⟨nou_bk rfl, nou_bk rfl, trivial⟩
  clear hz14
  clear hb
  refine seq_step rfl (op_val (v := .tuple #[.agg #[.bool (neg (sg true (numOf d))), .slice A12 (dl (sg true (numOf d))) c13], .int .i64 (-1)]) henv rfl (rn_move henv rfl) ?_)
  clear henv a; intro a henv
  refine seq_step rfl (op_val (v := .agg #[.bool (neg (sg true (numOf d))), .slice A12 (dl (sg true (numOf d))) c13]) henv rfl (rn_extract henv rfl rfl) ?_)
  clear henv a; intro a henv
  refine seq_step rfl (op_val (v := .int .i64 (-1)) henv rfl (rn_extract henv rfl rfl) ?_)
  clear henv a; intro a henv
  refine seq_step rfl (op_alloc (c := #[.bool (neg 0), .slice none (dl 0) 0]) henv hst rfl zero_anvil_anvilref02_Int rcells ?_)
  clear henv hst a; intro a w17 g16 henv hst
  refine seq_step rfl (op_store (k := 0) (c' := #[.bool (neg (sg true (numOf d))), .slice A12 (dl (sg true (numOf d))) c13]) henv hst (ty_anvil_anvilref02_Int.size) rfl rfl rfl rfl (by simp) rfl rfl ?_)
  clear henv hst a; intro a w18 henv hst
  refine seq_step rfl (op_val (v := .int .i64 (-1)) henv rfl (rn_assign henv rfl) ?_)
  clear henv a; intro a henv
  refine wpList_nil ?_
  refine th_n ?_
  refine wp_seq ?_
  refine wp_seq ?_
  refine region_seq ?_
  refine seq_step rfl (op_val (v := .int .i64 (-1)) henv rfl (rn_move henv rfl) ?_)
  clear henv a; intro a henv
  refine seq_step rfl (op_val (v := .bool false) henv rfl (rn_bin henv rfl rfl rfl) ?_)
  clear henv a; intro a henv
  refine wpList_nil ?_
  refine th_n ?_
  refine if_f henv rfl (rfl) ?_
  refine wp_skip ?_
  refine th_n ?_
  refine wp_seq ?_
  refine region_seq ?_
  refine seq_step rfl (op_val (v := .agg #[.bool (neg (sg true (numOf d))), .slice A2 (zl (sg true (numOf d))) c3]) henv rfl (rn_load0 henv ty_anvil_integer_Int rfl (hst.oat (k := 2) rfl) rfl) ?_)
  clear henv a; intro a henv
  refine seq_step rfl (op_val (v := .agg #[.bool (neg (sg true (numOf d))), .slice A12 (dl (sg true (numOf d))) c13]) henv rfl (rn_load0 henv ty_anvil_anvilref02_Int rfl (hst.oat (k := 0) rfl) rfl) ?_)
  clear henv a; intro a henv
  refine seq_step rfl (op_call henv rfl Tryd.call28 rfl (is_same (z := sg true (numOf d)) (y := sg true (numOf d)) (show ZIn _ A2 c3 (sg true (numOf d)) from hst.pat (k := 1) rfl) (show RIn _ A12 c13 (sg true (numOf d)) from hst.pat (k := 0) rfl) rfl (by omega) (by omega)) ?_)
  rintro e w19 ⟨rfl, hb⟩
  refine ⟨_, rfl, ?_⟩
  clear henv a; intro a henv
  replace hst := hst.call hb
  clear hb
  refine seq_step rfl (op_val (v := .bool true) henv rfl (rn_move henv rfl) ?_)
  clear henv a; intro a henv
  refine seq_g rfl henv rfl rfl (op_val (v := .pointer (some ⟨g8, 0, none⟩)) henv rfl (rn_fieldAddr henv fd_anvil_api_Spot_0 (ty_anvil_api_Errno.size) (by decide) rfl) ?_)
  clear henv a; intro a henv
  refine seq_g rfl henv rfl rfl (op_val (v := .int .i64 0) henv rfl (rn_load1 henv ty_anvil_api_Errno rfl (hst.oat (k := 1) rfl) rfl) ?_)
  clear henv a; intro a henv
  refine seq_g rfl henv rfl rfl (op_val (v := .bool true) henv rfl (rn_bin henv rfl rfl rfl) ?_)
  clear henv a; intro a henv
  refine seq_step rfl (op_val (v := .bool true) henv rfl (rn_pick henv rfl rfl) ?_)
  clear henv a; intro a henv
  refine seq_step rfl (op_val (v := .bool true) henv rfl (rn_move henv rfl) ?_)
  clear henv a; intro a henv
  refine seq_g rfl henv rfl rfl (op_val (v := .pointer (some ⟨g8, 1, none⟩)) henv rfl (rn_fieldAddr henv fd_anvil_api_Spot_1 (ty_int.size) (by decide) rfl) ?_)
  clear henv a; intro a henv
  refine seq_g rfl henv rfl rfl (op_val (v := .int .i64 0) henv rfl (rn_load1 henv ty_int rfl (hst.oat (k := 1) rfl) rfl) ?_)
  clear henv a; intro a henv
  refine seq_g rfl henv rfl rfl (op_val (v := .bool true) henv rfl (rn_bin henv rfl rfl rfl) ?_)
  clear henv a; intro a henv
  refine seq_step rfl (op_val (v := .bool true) henv rfl (rn_pick henv rfl rfl) ?_)
  clear henv a; intro a henv
  refine seq_step rfl (op_val (v := .bool true) henv rfl (rn_move henv rfl) ?_)
  clear henv a; intro a henv
  refine seq_g rfl henv rfl rfl (op_val (v := .agg #[.bool (neg (sg true (numOf d))), .slice A2 (zl (sg true (numOf d))) c3]) henv rfl (rn_load0 henv ty_anvil_integer_Int rfl (hst.oat (k := 2) rfl) rfl) ?_)
  clear henv a; intro a henv
  refine seq_g rfl henv rfl rfl (op_call henv rfl Tryd.call41 rfl (text_z (z := sg true (numOf d)) (show ZIn _ A2 c3 (sg true (numOf d)) from hst.pat (k := 1) rfl) (by omega)) ?_)
  rintro e w20 ⟨rfl, hb⟩
  refine ⟨_, rfl, ?_⟩
  clear henv a; intro a henv
  replace hst := hst.call hb
  clear hb
  refine seq_g rfl henv rfl rfl (op_val (v := .string ⟨(45 :: d).toArray⟩) henv rfl (rn_move henv rfl) ?_)
  clear henv a; intro a henv
  refine seq_g rfl henv rfl rfl (op_val (v := .bool (decide ((textZ (sg true (numOf d))) = (45 :: d)))) henv rfl (rn_eqls (s := (textZ (sg true (numOf d)))) (t := (45 :: d)) henv rfl rfl) ?_)
  clear henv a; intro a henv
  rw [show (decide ((textZ (sg true (numOf d))) = (45 :: d))) = true from decide_eq_true (textZ_back1 hfb)] at henv
  refine seq_step rfl (op_val (v := .bool true) henv rfl (rn_pick henv rfl rfl) ?_)
  clear henv a; intro a henv
  refine seq_step rfl (op_val (v := .bool true) henv rfl (rn_assign henv rfl) ?_)
  clear henv a; intro a henv
  refine wpList_nil ?_
  refine th_n ?_
  refine wp_ret ?_
  refine leave henv (res1 Tryd.results7 (RV.tmp henv rfl)) ?_
  exact ⟨rfl, hst.below⟩

set_option maxRecDepth 100000 in
set_option maxHeartbeats 4000000 in
theorem ireads_long {d : List UInt8} {w0 : World} (hl : 400 < d.length) :
    Calls Tryd.prog 7 #[.string ⟨d.toArray⟩] w0 fun e w' => e = .returned (.bool true) ∧ Below w0.heap.size w0 w' := by
  refine enter Tryd.func7 rfl Tryd.ntmps7 rfl ?_
  intro a henv hst
  refine wp_seq ?_
  refine region_seq ?_
  refine seq_step rfl (op_val (v := .bool false) henv rfl (rn_assign henv rfl) ?_)
  clear henv a; intro a henv
  refine wpList_nil ?_
  refine th_n ?_
  refine wp_seq ?_
  refine wp_seq ?_
  refine region_seq ?_
  refine seq_step rfl (op_call henv rfl Tryd.call17 rfl (live_true _) ?_)
  rintro e w1 ⟨rfl, hb⟩
  refine ⟨_, rfl, ?_⟩
  clear henv a; intro a henv
  replace hst := hst.call hb
  clear hb
  refine seq_step rfl (op_val (v := .bool false) henv rfl (rn_un henv rfl rfl) ?_)
  clear henv a; intro a henv
  refine wpList_nil ?_
  refine th_n ?_
  refine if_f henv rfl (rfl) ?_
  refine wp_skip ?_
  refine th_n ?_
  refine wp_seq ?_
  refine wp_seq ?_
  refine region_seq ?_
  refine seq_step rfl (op_val (v := .string ⟨d.toArray⟩) henv rfl (rn_move henv rfl) ?_)
  clear henv a; intro a henv
  refine seq_step rfl (op_val (v := .int .i64 (d.length : Nat)) henv rfl (rn_lenS henv Tryd.underlying9 rfl) ?_)
  clear henv a; intro a henv
  refine seq_step rfl (op_val (v := .bool (decide (((d.length : Nat) : Int) > (400 : Int)))) henv rfl (rn_bin henv rfl rfl rfl) ?_)
  clear henv a; intro a henv
  rw [show (decide (((d.length : Nat) : Int) > (400 : Int))) = true from decide_eq_true (by omega)] at henv
  refine wpList_nil ?_
  refine th_n ?_
  refine if_t henv rfl (rfl) ?_
  refine wp_seq ?_
  refine region_seq ?_
  refine seq_step rfl (op_val (v := .bool true) henv rfl (rn_assign henv rfl) ?_)
  clear henv a; intro a henv
  refine wpList_nil ?_
  refine th_n ?_
  refine wp_ret ?_
  refine th_r ?_
  refine leave henv (res1 Tryd.results7 (RV.tmp henv rfl)) ?_
  exact ⟨rfl, hst.below⟩

theorem ireads_law {t : List UInt8} {w0 : World} (_hmx : t.length ≤ maxLen) :
    Calls Tryd.prog 7 #[.string ⟨t.toArray⟩] w0 fun e w' => e = .returned (.bool true) ∧ Below w0.heap.size w0 w' := by
  rcases Nat.lt_or_ge 400 t.length with h | h
  · exact ireads_long h
  rcases sign_cases t with h45 | ⟨d, rfl⟩
  · rcases read_cases 0 t with ⟨b, hfb⟩ | hfb
    · exact ireads_bad0 h h45 hfb
    · exact ireads_ok0 h h45 hfb
  · rw [List.length_cons] at h
    rcases read_cases 1 d with ⟨b, hfb⟩ | hfb
    · exact ireads_bad1 h hfb
    · exact ireads_ok1 h hfb

end Go.Proofs.YtnldopjbiacbfaaDoor.W
