/- strings.Cut at a slash; ratio.Read. Printed by pv/gen_qread.py. No condition. -/
import Derived.Test.YtegglooojlheoaaDoorM47
import Derived.Test.YtegglooojlheoaaDoorM15
import Derived.Test.YtegglooojlheoaaDoorM49

namespace Go.Proofs.YtegglooojlheoaaDoor.W
open Go.RowKit Anv Go.Lib
theorem one_cut {a b : List UInt8} (h : [47] = a ++ 47 :: b) : a = [] := by
  have := congrArg List.length h
  rw [List.length_append, List.length_cons] at this
  simp at this
  exact List.eq_nil_of_length_eq_zero (by omega)
theorem drop_cut1 (a b : List UInt8) : (a ++ 47 :: b).drop (a.length + 1) = b := by
  rw [List.drop_append, List.drop_eq_nil_of_le (by omega), show a.length + 1 - a.length = 1 by omega]
  rfl
theorem qat_zero (w : World) : QAt w (.agg #[.bool (neg (qn 0)), .slice none (zl (qn 0)) 0, .bool (neg (ql 0)), .slice none (zl (ql 0)) 0]) 0 := ⟨none, 0, none, 0, rfl, zin_none w, zin_none w⟩
theorem not_dec_t {p : Prop} [Decidable p] (h : (!decide p) = true) : ¬ p := by simpa using h
theorem not_dec_f {p : Prop} [Decidable p] (h : (!decide p) = false) : p := by simpa using h
theorem bool_em (b : Bool) : b = true ∨ b = false := by cases b <;> simp
theorem pos_head {z : Int} {n : Nat} (hz : 0 < z) (h : ((textZ z).getD 0 0).toNat = n) (hn : n = 45 ∨ n = 48) : False := by
  rcases rz_text z with ⟨d, h1, h2, h3⟩ | ⟨h1, h2, h3⟩
  · have : sg true (numOf d) ≤ 0 := by unfold sg; simp
    omega
  · rcases hn with rfl | rfl
    · exact h1 h
    · have h4 : textZ z = [48] := by
        have h5 := ok_first h2
        match hm : textZ z, h, h2 with
        | [c], h, _ => rw [byte_eq (c := c) h 48 rfl]
        | c :: d :: t, h, h2 => exact absurd (.inr (.inl ⟨rfl, h⟩)) (h2.2 1 (by simp))
        | [], _, h2 => exact absurd h2.1 (by simp)
      have : textZ z = textZ 0 := h4
      have := textZ_inj this
      omega
theorem den_pos {b : List UInt8} {z : Int} (h : Rz b z) (_h0 : b ≠ []) (h1 : (b.getD 0 0).toNat ≠ 45) (h2 : (b.getD 0 0).toNat ≠ 48) : 0 < z := by
  rcases Int.lt_trichotomy z 0 with hz | hz | hz
  · rcases textZ_cases z with ⟨_, _, ht, _⟩ | ⟨hn, _⟩
    · rw [rz_back h] at ht; rw [ht] at h1; exact absurd rfl h1
    · unfold neg at hn; simp at hn; omega
  · rw [hz] at h; have ht := rz_back h; rw [← ht] at h2; exact absurd rfl h2
  · exact hz
def BadQ (a b : List UInt8) : Prop := (∃ c, Rb a c) ∨ b = [] ∨ (b.getD 0 0).toNat = 45 ∨ (b.getD 0 0).toNat = 48 ∨ (∃ c, Rb b c) ∨ ∃ n d, Rz a n ∧ Rz b d ∧ 0 < d ∧ ¬ textQ (Rat.divInt n d) = a ++ 47 :: b
set_option maxRecDepth 100000 in
set_option maxHeartbeats 2000000 in
theorem ixb_no {s : List UInt8} {w0 : World} (h : (47 : UInt8) ∉ s) :
    Calls Tryd.prog 175 #[.string ⟨s.toArray⟩, .int .u8 47] w0 fun e w' => e = .returned (.int .i64 (-1)) ∧ Below w0.heap.size w0 w' := by
  refine enter Tryd.func175 rfl Tryd.ntmps175 rfl ?_
  intro a henv hst
  refine wp_seq ?_
  refine region_seq ?_
  refine sv (v := .int .i64 0) henv rfl (rn_assign henv rfl) ?_
  clear henv a; intro a henv
  refine wpList_nil ?_
  refine th_n ?_
  refine wp_seq ?_
  refine region_seq ?_
  revert a
  refine mA rfl rfl ?_
  refine mA rfl rfl ?_
  intro a henv
  refine seq_step rfl (op_ext (vs := #[.string ⟨s.toArray⟩, .int .u8 47]) henv rfl rfl (ext_index (s := s) (c := 47)) ?_)
  clear henv a; intro a henv
  refine sv (v := .int .i64 (indexByte s (47 : Nat).toUInt8)) henv rfl (rn_assign henv rfl) ?_
  clear henv a; intro a henv
  refine wpList_nil ?_
  refine th_n ?_
  refine wp_ret ?_
  refine leave henv (res1 Tryd.results175 (RV.tmp henv rfl)) ?_
  exact ⟨congrArg (fun k => Ending.returned (Value.int .i64 k)) (index_no h), hst.below⟩
set_option maxRecDepth 100000 in
set_option maxHeartbeats 2000000 in
theorem idx_no {s : List UInt8} {w0 : World} (h : (47 : UInt8) ∉ s) :
    Calls Tryd.prog 166 #[.string ⟨s.toArray⟩, .string ⟨#[47]⟩] w0 fun e w' => e = .returned (.int .i64 (-1)) ∧ Below w0.heap.size w0 w' := by
  refine enter Tryd.func166 rfl Tryd.ntmps166 rfl ?_
  intro a henv hst
  refine wp_seq ?_
  refine region_seq ?_
  refine sv (v := .int .i64 0) henv rfl (rn_assign henv rfl) ?_
  clear henv a; intro a henv
  refine wpList_nil ?_
  refine th_n ?_
  refine wp_seq ?_
  refine region_seq ?_
  revert a
  refine mA rfl rfl ?_
  refine sA (v := .int .i64 1) rfl (fun _ henv => rn_slen (s := ⟨#[47]⟩) henv Tryd.underlying9 rfl) ?_
  refine aA rfl rfl ?_
  intro a henv
  refine wpList_nil ?_
  refine th_n ?_
  refine wp_seq ?_
  refine wp_block ?_
  refine wp_seq ?_
  refine region_seq ?_
  revert a
  refine mA rfl rfl ?_
  refine sA (v := .bool false) rfl (fun _ henv => rn_bin henv rfl rfl rfl) ?_
  refine mA rfl rfl ?_
  refine gA (v := .string ⟨#[47]⟩) rfl rfl rfl rfl (fun _ henv => rn_move henv rfl) ?_
  refine gA (v := .string ⟨s.toArray⟩) rfl rfl rfl rfl (fun _ henv => rn_move henv rfl) ?_
  refine gA (v := .bool (decide ([47] = s))) rfl rfl rfl rfl (fun _ henv => rn_eqls (s := [47]) (t := s) henv rfl rfl) ?_
  refine sA (v := .bool (decide ([47] = s))) rfl (fun _ henv => rn_pick henv rfl rfl) ?_
  refine aA rfl rfl ?_
  intro a henv
  refine wpList_nil ?_
  refine th_n ?_
  refine if_split henv rfl (fun hc51 => ?_) (fun hc51 => ?_)
  · have he1 := of_decide_eq_true hc51
    exact absurd (he1 ▸ List.mem_cons_self ..) h
  · refine wp_seq ?_
    refine region_seq ?_
    revert a
    refine mA rfl rfl ?_
    refine sA (v := .bool true) rfl (fun _ henv => rn_bin henv rfl rfl rfl) ?_
    refine aA rfl rfl ?_
    intro a henv
    refine wpList_nil ?_
    refine th_n ?_
    refine if_t henv rfl (rfl) ?_
    refine wp_seq ?_
    refine region_seq ?_
    revert a
    refine mA rfl rfl ?_
    refine mA rfl rfl ?_
    refine sA (v := .int .u8 ((([47] : List UInt8).getD 0 0).toNat : Nat)) rfl (fun _ henv => rn_idxS (i := 0) henv Tryd.underlying9 rfl rfl (by first | decide | omega)) ?_
    intro a henv
    refine seq_step rfl (op_call henv rfl Tryd.call175 rfl (ixb_no h) ?_)
    rintro e w52 ⟨rfl, hb⟩
    refine ⟨_, rfl, ?_⟩
    clear henv a; intro a henv
    replace hst := hst.call hb
    clear hb
    refine sv (v := .int .i64 (-1)) henv rfl (rn_assign henv rfl) ?_
    clear henv a; intro a henv
    refine wpList_nil ?_
    refine th_n ?_
    refine wp_ret ?_
    refine bl_r (th_r ?_)
    refine leave henv (res1 Tryd.results166 (RV.tmp henv rfl)) ?_
    exact ⟨rfl, hst.below⟩
set_option maxRecDepth 100000 in
set_option maxHeartbeats 2000000 in
theorem cutl_no {s : List UInt8} {w0 : World} (h : (47 : UInt8) ∉ s) :
    Calls Tryd.prog 155 #[.string ⟨s.toArray⟩, .string ⟨#[47]⟩] w0 fun e w' => e = .returned (.tuple #[.string ⟨s.toArray⟩, .string ⟨[].toArray⟩, .bool false]) ∧ Below w0.heap.size w0 w' := by
  refine enter Tryd.func155 rfl Tryd.ntmps155 rfl ?_
  intro a henv hst
  refine wp_seq ?_
  refine region_seq ?_
  revert a
  refine aA rfl rfl ?_
  refine aA rfl rfl ?_
  refine aA rfl rfl ?_
  intro a henv
  refine wpList_nil ?_
  refine th_n ?_
  refine wp_seq ?_
  refine wp_seq ?_
  refine region_seq ?_
  revert a
  refine mA rfl rfl ?_
  refine mA rfl rfl ?_
  intro a henv
  refine seq_step rfl (op_call henv rfl Tryd.call166 rfl (idx_no h) ?_)
  rintro e w51 ⟨rfl, hb⟩
  refine ⟨_, rfl, ?_⟩
  clear henv a; intro a henv
  replace hst := hst.call hb
  clear hb
  refine sv (v := .int .i64 (-1)) henv rfl (rn_assign henv rfl) ?_
  clear henv a; intro a henv
  refine wpList_nil ?_
  refine th_n ?_
  refine wp_seq ?_
  refine region_seq ?_
  revert a
  refine mA rfl rfl ?_
  refine sA (v := .bool false) rfl (fun _ henv => rn_bin henv rfl rfl rfl) ?_
  intro a henv
  refine wpList_nil ?_
  refine th_n ?_
  refine if_f henv rfl (rfl) ?_
  refine wp_skip ?_
  refine th_n ?_
  refine wp_seq ?_
  refine region_seq ?_
  revert a
  refine mA rfl rfl ?_
  refine aA rfl rfl ?_
  refine aA rfl rfl ?_
  refine aA rfl rfl ?_
  intro a henv
  refine wpList_nil ?_
  refine th_n ?_
  refine wp_ret ?_
  refine leave henv (res3 Tryd.results155 (RV.tmp henv rfl) (RV.tmp henv rfl) (RV.tmp henv rfl)) ?_
  exact ⟨rfl, hst.below⟩
set_option maxRecDepth 100000 in
set_option maxHeartbeats 2000000 in
theorem cut_no {s : List UInt8} {w0 : World} (h : (47 : UInt8) ∉ s) :
    Calls Tryd.prog 135 #[.string ⟨s.toArray⟩, .string ⟨#[47]⟩] w0 fun e w' => e = .returned (.tuple #[.string ⟨s.toArray⟩, .string ⟨[].toArray⟩, .bool false]) ∧ Below w0.heap.size w0 w' := by
  refine enter Tryd.func135 rfl Tryd.ntmps135 rfl ?_
  intro a henv hst
  refine wp_seq ?_
  refine region_seq ?_
  revert a
  refine aA rfl rfl ?_
  refine aA rfl rfl ?_
  refine aA rfl rfl ?_
  intro a henv
  refine wpList_nil ?_
  refine th_n ?_
  refine wp_seq ?_
  refine region_seq ?_
  revert a
  refine mA rfl rfl ?_
  refine mA rfl rfl ?_
  intro a henv
  refine seq_step rfl (op_call henv rfl Tryd.call155 rfl (cutl_no h) ?_)
  rintro e w51 ⟨rfl, hb⟩
  refine ⟨_, rfl, ?_⟩
  clear henv a; intro a henv
  replace hst := hst.call hb
  clear hb
  revert a
  refine sA (v := .string ⟨s.toArray⟩) rfl (fun _ henv => rn_extract henv rfl rfl) ?_
  refine sA (v := .string ⟨[].toArray⟩) rfl (fun _ henv => rn_extract henv rfl rfl) ?_
  refine sA (v := .bool false) rfl (fun _ henv => rn_extract henv rfl rfl) ?_
  refine aA rfl rfl ?_
  refine aA rfl rfl ?_
  refine aA rfl rfl ?_
  intro a henv
  refine wpList_nil ?_
  refine th_n ?_
  refine wp_ret ?_
  refine leave henv (res3 Tryd.results135 (RV.tmp henv rfl) (RV.tmp henv rfl) (RV.tmp henv rfl)) ?_
  exact ⟨rfl, hst.below⟩
set_option maxRecDepth 100000 in
set_option maxHeartbeats 2000000 in
theorem ixb_yes {la lb : List UInt8} {w0 : World} (h : (47 : UInt8) ∉ la) :
    Calls Tryd.prog 175 #[.string ⟨(la ++ 47 :: lb).toArray⟩, .int .u8 47] w0 fun e w' => e = .returned (.int .i64 (la.length : Nat)) ∧ Below w0.heap.size w0 w' := by
  refine enter Tryd.func175 rfl Tryd.ntmps175 rfl ?_
  intro a henv hst
  refine wp_seq ?_
  refine region_seq ?_
  refine sv (v := .int .i64 0) henv rfl (rn_assign henv rfl) ?_
  clear henv a; intro a henv
  refine wpList_nil ?_
  refine th_n ?_
  refine wp_seq ?_
  refine region_seq ?_
  revert a
  refine mA rfl rfl ?_
  refine mA rfl rfl ?_
  intro a henv
  refine seq_step rfl (op_ext (vs := #[.string ⟨(la ++ 47 :: lb).toArray⟩, .int .u8 47]) henv rfl rfl (ext_index (s := (la ++ 47 :: lb)) (c := 47)) ?_)
  clear henv a; intro a henv
  refine sv (v := .int .i64 (indexByte (la ++ 47 :: lb) (47 : Nat).toUInt8)) henv rfl (rn_assign henv rfl) ?_
  clear henv a; intro a henv
  refine wpList_nil ?_
  refine th_n ?_
  refine wp_ret ?_
  refine leave henv (res1 Tryd.results175 (RV.tmp henv rfl)) ?_
  exact ⟨congrArg (fun k => Ending.returned (Value.int .i64 k)) (index_yes h), hst.below⟩
set_option maxRecDepth 100000 in
set_option maxHeartbeats 2000000 in
theorem idx_yes {la lb : List UInt8} {w0 : World} (h : (47 : UInt8) ∉ la) :
    Calls Tryd.prog 166 #[.string ⟨(la ++ 47 :: lb).toArray⟩, .string ⟨#[47]⟩] w0 fun e w' => e = .returned (.int .i64 (la.length : Nat)) ∧ Below w0.heap.size w0 w' := by
  refine enter Tryd.func166 rfl Tryd.ntmps166 rfl ?_
  intro a henv hst
  refine wp_seq ?_
  refine region_seq ?_
  refine sv (v := .int .i64 0) henv rfl (rn_assign henv rfl) ?_
  clear henv a; intro a henv
  refine wpList_nil ?_
  refine th_n ?_
  refine wp_seq ?_
  refine region_seq ?_
  revert a
  refine mA rfl rfl ?_
  refine sA (v := .int .i64 1) rfl (fun _ henv => rn_slen (s := ⟨#[47]⟩) henv Tryd.underlying9 rfl) ?_
  refine aA rfl rfl ?_
  intro a henv
  refine wpList_nil ?_
  refine th_n ?_
  refine wp_seq ?_
  refine wp_block ?_
  refine wp_seq ?_
  refine region_seq ?_
  revert a
  refine mA rfl rfl ?_
  refine sA (v := .bool false) rfl (fun _ henv => rn_bin henv rfl rfl rfl) ?_
  refine mA rfl rfl ?_
  refine gA (v := .string ⟨#[47]⟩) rfl rfl rfl rfl (fun _ henv => rn_move henv rfl) ?_
  refine gA (v := .string ⟨(la ++ 47 :: lb).toArray⟩) rfl rfl rfl rfl (fun _ henv => rn_move henv rfl) ?_
  refine gA (v := .bool (decide ([47] = (la ++ 47 :: lb)))) rfl rfl rfl rfl (fun _ henv => rn_eqls (s := [47]) (t := (la ++ 47 :: lb)) henv rfl rfl) ?_
  refine sA (v := .bool (decide ([47] = (la ++ 47 :: lb)))) rfl (fun _ henv => rn_pick henv rfl rfl) ?_
  refine aA rfl rfl ?_
  intro a henv
  refine wpList_nil ?_
  refine th_n ?_
  refine if_split henv rfl (fun hc51 => ?_) (fun hc51 => ?_)
  · have he1 := of_decide_eq_true hc51
    have he2 := one_cut he1
    refine wp_seq ?_
    refine region_seq ?_
    refine sv (v := .int .i64 0) henv rfl (rn_assign henv rfl) ?_
    clear henv a; intro a henv
    refine wpList_nil ?_
    refine th_n ?_
    refine wp_ret ?_
    refine bl_r (th_r ?_)
    refine leave henv (res1 Tryd.results166 (RV.tmp henv rfl)) ?_
    exact ⟨by rw [he2]; rfl, hst.below⟩
  · refine wp_seq ?_
    refine region_seq ?_
    revert a
    refine mA rfl rfl ?_
    refine sA (v := .bool true) rfl (fun _ henv => rn_bin henv rfl rfl rfl) ?_
    refine aA rfl rfl ?_
    intro a henv
    refine wpList_nil ?_
    refine th_n ?_
    refine if_t henv rfl (rfl) ?_
    refine wp_seq ?_
    refine region_seq ?_
    revert a
    refine mA rfl rfl ?_
    refine mA rfl rfl ?_
    refine sA (v := .int .u8 ((([47] : List UInt8).getD 0 0).toNat : Nat)) rfl (fun _ henv => rn_idxS (i := 0) henv Tryd.underlying9 rfl rfl (by first | decide | omega)) ?_
    intro a henv
    refine seq_step rfl (op_call henv rfl Tryd.call175 rfl (ixb_yes h) ?_)
    rintro e w52 ⟨rfl, hb⟩
    refine ⟨_, rfl, ?_⟩
    clear henv a; intro a henv
    replace hst := hst.call hb
    clear hb
    refine sv (v := .int .i64 (la.length : Nat)) henv rfl (rn_assign henv rfl) ?_
    clear henv a; intro a henv
    refine wpList_nil ?_
    refine th_n ?_
    refine wp_ret ?_
    refine bl_r (th_r ?_)
    refine leave henv (res1 Tryd.results166 (RV.tmp henv rfl)) ?_
    exact ⟨rfl, hst.below⟩
set_option maxRecDepth 100000 in
set_option maxHeartbeats 2000000 in
theorem cutl_yes {la lb : List UInt8} {w0 : World} (h : (47 : UInt8) ∉ la) (hl : la.length + 1 + lb.length ≤ 65536) :
    Calls Tryd.prog 155 #[.string ⟨(la ++ 47 :: lb).toArray⟩, .string ⟨#[47]⟩] w0 fun e w' => e = .returned (.tuple #[.string ⟨la.toArray⟩, .string ⟨lb.toArray⟩, .bool true]) ∧ Below w0.heap.size w0 w' := by
  refine enter Tryd.func155 rfl Tryd.ntmps155 rfl ?_
  intro a henv hst
  refine wp_seq ?_
  refine region_seq ?_
  revert a
  refine aA rfl rfl ?_
  refine aA rfl rfl ?_
  refine aA rfl rfl ?_
  intro a henv
  refine wpList_nil ?_
  refine th_n ?_
  refine wp_seq ?_
  refine wp_seq ?_
  refine region_seq ?_
  revert a
  refine mA rfl rfl ?_
  refine mA rfl rfl ?_
  intro a henv
  refine seq_step rfl (op_call henv rfl Tryd.call166 rfl (idx_yes h) ?_)
  rintro e w51 ⟨rfl, hb⟩
  refine ⟨_, rfl, ?_⟩
  clear henv a; intro a henv
  replace hst := hst.call hb
  clear hb
  refine sv (v := .int .i64 (la.length : Nat)) henv rfl (rn_assign henv rfl) ?_
  clear henv a; intro a henv
  refine wpList_nil ?_
  refine th_n ?_
  refine wp_seq ?_
  refine region_seq ?_
  revert a
  refine mA rfl rfl ?_
  refine sA (v := .bool (decide (((la.length : Nat) : Int) ≥ (0 : Int)))) rfl (fun _ henv => rn_bin henv rfl rfl rfl) ?_
  intro a henv
  rw [show (decide (((la.length : Nat) : Int) ≥ (0 : Int))) = true from decide_eq_true (by omega)] at henv
  refine wpList_nil ?_
  refine th_n ?_
  refine if_t henv rfl (rfl) ?_
  refine wp_seq ?_
  refine region_any (n := 12) (Sk [] [] [] []) mixed rfl henv hst ?_
  clear henv hst; intro w52 henv hst
  refine tM (i := 0) [2, 9, 10, 11] rfl (by kernel_rfl) (fun _ _ _ h => h) henv rfl rfl ?_
  clear henv a; intro a henv
  refine tM (i := 1) [2, 9, 10, 11] rfl (by kernel_rfl) (fun _ _ _ h => h) henv rfl rfl ?_
  clear henv a; intro a henv
  refine tA (i := 2) [9, 10, 11] (v := .string ⟨((la ++ 47 :: lb).take la.length).toArray⟩) rfl (by kernel_rfl) (fun _ _ _ h => h) henv rfl (fun _ => rn_takeS (n := la.length) henv Tryd.underlying9 rfl rfl (by (try rw [List.length_append, List.length_cons]); omega)) ?_
  clear henv a; intro a henv
  refine tM (i := 3) [8, 10, 11] rfl (by kernel_rfl) (fun _ _ _ h => h) henv rfl rfl ?_
  clear henv a; intro a henv
  refine tM (i := 4) [7, 8, 10, 11] rfl (by kernel_rfl) (fun _ _ _ h => h) henv rfl rfl ?_
  clear henv a; intro a henv
  refine tM (i := 5) [6, 7, 8, 10, 11] rfl (by kernel_rfl) (fun _ _ _ h => h) henv rfl rfl ?_
  clear henv a; intro a henv
  refine tA (i := 6) [7, 8, 10, 11] (v := .int .i64 1) rfl (by kernel_rfl) (fun _ _ _ h => h) henv rfl (fun _ => rn_slen (s := ⟨#[47]⟩) henv Tryd.underlying9 rfl) ?_
  clear henv a; intro a henv
  refine tA (i := 7) [8, 10, 11] (v := .int .i64 (la.length + 1 : Nat)) rfl (by kernel_rfl) (fun _ _ _ h => h) henv rfl (fun _ => rn_add henv rfl rfl (by rw [IntWalk.i64_in _ (by omega)]; omega)) ?_
  clear henv a; intro a henv
  refine tA (i := 8) [10, 11] (v := .string ⟨((la ++ 47 :: lb).drop (la.length + 1)).toArray⟩) rfl (by kernel_rfl) (fun _ _ _ h => h) henv rfl (fun _ => rn_dropS (n := la.length + 1) henv Tryd.underlying9 rfl rfl (by (try rw [List.length_append, List.length_cons]); omega)) ?_
  clear henv a; intro a henv
  refine tA (i := 9) [10, 11] (v := .string ⟨((la ++ 47 :: lb).take la.length).toArray⟩) rfl (by kernel_rfl) (fun _ _ _ h => h) henv rfl (fun _ => rn_assign henv rfl) ?_
  clear henv a; intro a henv
  refine tA (i := 10) [11] (v := .string ⟨((la ++ 47 :: lb).drop (la.length + 1)).toArray⟩) rfl (by kernel_rfl) (fun _ _ _ h => h) henv rfl (fun _ => rn_assign henv rfl) ?_
  clear henv a; intro a henv
  refine tA (i := 11) [] (v := .bool true) rfl (by kernel_rfl) (fun _ _ _ h => h) henv rfl (fun _ => rn_assign henv rfl) ?_
  clear henv a; intro a henv
  refine sAny_done (by kernel_rfl) ?_ _
  refine th_n ?_
  refine wp_ret ?_
  refine th_r ?_
  refine leave henv (res3 Tryd.results155 (RV.tmp henv rfl) (RV.tmp henv rfl) (RV.tmp henv rfl)) ?_
  exact ⟨by rw [List.take_left, drop_cut1], hst.below⟩
set_option maxRecDepth 100000 in
set_option maxHeartbeats 2000000 in
theorem cut_yes {la lb : List UInt8} {w0 : World} (h : (47 : UInt8) ∉ la) (hl : la.length + 1 + lb.length ≤ 65536) :
    Calls Tryd.prog 135 #[.string ⟨(la ++ 47 :: lb).toArray⟩, .string ⟨#[47]⟩] w0 fun e w' => e = .returned (.tuple #[.string ⟨la.toArray⟩, .string ⟨lb.toArray⟩, .bool true]) ∧ Below w0.heap.size w0 w' := by
  refine enter Tryd.func135 rfl Tryd.ntmps135 rfl ?_
  intro a henv hst
  refine wp_seq ?_
  refine region_seq ?_
  revert a
  refine aA rfl rfl ?_
  refine aA rfl rfl ?_
  refine aA rfl rfl ?_
  intro a henv
  refine wpList_nil ?_
  refine th_n ?_
  refine wp_seq ?_
  refine region_seq ?_
  revert a
  refine mA rfl rfl ?_
  refine mA rfl rfl ?_
  intro a henv
  refine seq_step rfl (op_call henv rfl Tryd.call155 rfl (cutl_yes h hl) ?_)
  rintro e w51 ⟨rfl, hb⟩
  refine ⟨_, rfl, ?_⟩
  clear henv a; intro a henv
  replace hst := hst.call hb
  clear hb
  revert a
  refine sA (v := .string ⟨la.toArray⟩) rfl (fun _ henv => rn_extract henv rfl rfl) ?_
  refine sA (v := .string ⟨lb.toArray⟩) rfl (fun _ henv => rn_extract henv rfl rfl) ?_
  refine sA (v := .bool true) rfl (fun _ henv => rn_extract henv rfl rfl) ?_
  refine aA rfl rfl ?_
  refine aA rfl rfl ?_
  refine aA rfl rfl ?_
  intro a henv
  refine wpList_nil ?_
  refine th_n ?_
  refine wp_ret ?_
  refine leave henv (res3 Tryd.results135 (RV.tmp henv rfl) (RV.tmp henv rfl) (RV.tmp henv rfl)) ?_
  exact ⟨rfl, hst.below⟩
set_option maxRecDepth 100000 in
set_option maxHeartbeats 2000000 in
theorem q_wrong {p : Int} {w0 : World} :
    Calls Tryd.prog 134 #[.int .i64 p] w0 fun e w' => e = .returned (.tuple #[.agg #[.bool (neg (qn 0)), .slice none (zl (qn 0)) 0, .bool (neg (ql 0)), .slice none (zl (ql 0)) 0], .agg #[.int .i64 6, .int .i64 p]]) ∧ Below w0.heap.size w0 w' := by
  refine enter Tryd.func134 rfl Tryd.ntmps134 rfl ?_
  intro a henv hst
  refine wp_seq ?_
  refine region_seq ?_
  refine seq_step rfl (op_alloc (c := #[.bool (neg (qn 0)), .slice none (zl (qn 0)) 0, .bool (neg (ql 0)), .slice none (zl (ql 0)) 0]) henv hst rfl zero_anvil_ratio_Rat qcells ?_)
  clear henv hst a; intro a w52 g51 henv hst
  refine seq_step rfl (op_alloc (c := #[.int .i64 0, .int .i64 0]) henv hst rfl zero_anvil_api_Spot rfl ?_)
  clear henv hst a; intro a w54 g53 henv hst
  refine wpList_nil ?_
  refine th_n ?_
  refine wp_seq ?_
  refine region_seq ?_
  revert a
  refine sA (v := .agg #[.bool (neg (qn 0)), .slice none (zl (qn 0)) 0, .bool (neg (ql 0)), .slice none (zl (ql 0)) 0]) rfl (fun _ henv => rn_zrat) ?_
  refine mA rfl rfl ?_
  refine sA (v := .agg #[.int .i64 6, .int .i64 p]) rfl (fun _ henv => rn_spot2 henv rfl rfl) ?_
  intro a henv
  refine seq_step rfl (op_store (k := 1) (c' := #[.bool (neg (qn 0)), .slice none (zl (qn 0)) 0, .bool (neg (ql 0)), .slice none (zl (ql 0)) 0]) henv hst (ty_anvil_ratio_Rat.size) rfl rfl rfl rfl (by simp) rfl rfl ?_)
  clear henv hst a; intro a w55 henv hst
  refine seq_step rfl (op_store (k := 0) (c' := #[.int .i64 6, .int .i64 p]) henv hst (ty_anvil_api_Spot.size) rfl rfl rfl rfl (by simp) rfl rfl ?_)
  clear henv hst a; intro a w56 henv hst
  refine wpList_nil ?_
  refine th_n ?_
  refine wp_ret ?_
  refine leave henv (res2 Tryd.results134 (RV.cell henv ty_anvil_ratio_Rat rfl (hst.oat (k := 1) rfl) rfl) (RV.cell henv ty_anvil_api_Spot rfl (hst.oat (k := 0) rfl) rfl)) ?_
  exact ⟨rfl, hst.below⟩
set_option maxRecDepth 100000 in
set_option maxHeartbeats 4000000 in
theorem q_read_no {s : List UInt8} {w0 : World} (hl : s.length ≤ 50000) (h : (47 : UInt8) ∉ s) :
    Calls Tryd.prog 91 #[.string ⟨s.toArray⟩] w0 fun e w' => ((∃ z v, Rz s z ∧ e = .returned (.tuple #[v, .agg #[.int .i64 0, .int .i64 0]]) ∧ QAt w' v (z : Rat)) ∨ (∃ (b : Nat) (v : Value), Rb s b ∧ e = .returned (.tuple #[v, .agg #[.int .i64 6, .int .i64 (b : Nat)]]) ∧ QAt w' v 0)) ∧ Below w0.heap.size w0 w' := by
  refine enter Tryd.func91 rfl Tryd.ntmps91 rfl ?_
  intro a henv hst
  refine wp_seq ?_
  refine region_seq ?_
  refine seq_step rfl (op_alloc (c := #[.bool (neg (qn 0)), .slice none (zl (qn 0)) 0, .bool (neg (ql 0)), .slice none (zl (ql 0)) 0]) henv hst rfl zero_anvil_ratio_Rat qcells ?_)
  clear henv hst a; intro a w52 g51 henv hst
  refine seq_step rfl (op_alloc (c := #[.int .i64 0, .int .i64 0]) henv hst rfl zero_anvil_api_Spot rfl ?_)
  clear henv hst a; intro a w54 g53 henv hst
  refine wpList_nil ?_
  refine th_n ?_
  refine wp_seq ?_
  refine wp_seq ?_
  refine region_seq ?_
  revert a
  refine mA rfl rfl ?_
  refine sA (v := .int .i64 (s.length : Nat)) rfl (fun _ henv => rn_lenS henv Tryd.underlying9 rfl) ?_
  refine sA (v := .bool (decide (((s.length : Nat) : Int) > (65536 : Int)))) rfl (fun _ henv => rn_bin henv rfl rfl rfl) ?_
  intro a henv
  rw [show (decide (((s.length : Nat) : Int) > (65536 : Int))) = false from decide_eq_false (by omega)] at henv
  refine wpList_nil ?_
  refine th_n ?_
  refine if_f henv rfl (rfl) ?_
  refine wp_skip ?_
  refine th_n ?_
  refine wp_seq ?_
  refine region_seq ?_
  refine sv (v := .func (.func 134) #[] #[]) henv rfl (rn_assign henv rfl) ?_
  clear henv a; intro a henv
  refine wpList_nil ?_
  refine th_n ?_
  refine wp_seq ?_
  refine region_seq ?_
  refine sv (v := .string ⟨s.toArray⟩) henv rfl (rn_move henv rfl) ?_
  clear henv a; intro a henv
  refine seq_step rfl (op_call henv rfl Tryd.call135 rfl (cut_no h) ?_)
  rintro e w55 ⟨rfl, hb⟩
  refine ⟨_, rfl, ?_⟩
  clear henv a; intro a henv
  replace hst := hst.call hb
  clear hb
  revert a
  refine mA rfl rfl ?_
  refine sA (v := .string ⟨s.toArray⟩) rfl (fun _ henv => rn_extract henv rfl rfl) ?_
  refine sA (v := .string ⟨[].toArray⟩) rfl (fun _ henv => rn_extract henv rfl rfl) ?_
  refine sA (v := .bool false) rfl (fun _ henv => rn_extract henv rfl rfl) ?_
  refine aA rfl rfl ?_
  refine aA rfl rfl ?_
  refine aA rfl rfl ?_
  intro a henv
  refine wpList_nil ?_
  refine th_n ?_
  refine wp_seq ?_
  refine region_seq ?_
  refine sv (v := .string ⟨s.toArray⟩) henv rfl (rn_move henv rfl) ?_
  clear henv a; intro a henv
  refine seq_step rfl (op_call henv rfl Tryd.call113 rfl (iread_w (t := s) (by omega)) ?_)
  rintro e w59 ⟨z1, e1, a1, _, rfl, ⟨A56, c57, rfl, hz58⟩, hw1, hb⟩
  refine ⟨_, rfl, ?_⟩
  clear henv a; intro a henv
  replace hst := (hst.call hb).addZ hz58 ⟨nou_bk rfl, nou_bk rfl, trivial⟩
  clear hz58
  clear hb
  revert a
  refine mA rfl rfl ?_
  refine sA (v := .agg #[.bool (neg z1), .slice A56 (zl z1) c57]) rfl (fun _ henv => rn_extract henv rfl rfl) ?_
  refine sA (v := .agg #[.int .i64 e1, .int .i64 a1]) rfl (fun _ henv => rn_extract henv rfl rfl) ?_
  intro a henv
  refine seq_step rfl (op_alloc (c := #[.bool (neg 0), .slice none (zl 0) 0]) henv hst rfl zero_anvil_integer_Int zcells ?_)
  clear henv hst a; intro a w61 g60 henv hst
  refine seq_step rfl (op_alloc (c := #[.int .i64 0, .int .i64 0]) henv hst rfl zero_anvil_api_Spot rfl ?_)
  clear henv hst a; intro a w63 g62 henv hst
  refine seq_step rfl (op_store (k := 1) (c' := #[.bool (neg z1), .slice A56 (zl z1) c57]) henv hst (ty_anvil_integer_Int.size) rfl rfl rfl rfl (by simp) rfl rfl ?_)
  clear henv hst a; intro a w64 henv hst
  refine seq_step rfl (op_store (k := 0) (c' := #[.int .i64 e1, .int .i64 a1]) henv hst (ty_anvil_api_Spot.size) rfl rfl rfl rfl (by simp) rfl rfl ?_)
  clear henv hst a; intro a w65 henv hst
  refine wpList_nil ?_
  refine th_n ?_
  refine wp_seq ?_
  refine wp_seq ?_
  refine region_seq ?_
  revert a
  refine sA (v := .pointer (some ⟨g62, 0, none⟩)) rfl (fun _ henv => rn_fieldAddr henv fd_anvil_api_Spot_0 (ty_anvil_api_Errno.size) (by decide) rfl) ?_
  refine sA (v := .int .i64 e1) rfl (fun _ henv => rn_load1 henv ty_anvil_api_Errno rfl (hst.oat (k := 0) rfl) rfl) ?_
  refine sA (v := .bool (e1 != (0 : Int))) rfl (fun _ henv => rn_bin henv rfl rfl rfl) ?_
  intro a henv
  refine wpList_nil ?_
  refine th_n ?_
  refine if_split henv rfl (fun hc66 => ?_) (fun hc66 => ?_)
  · obtain ⟨rfl, c1, rfl, hrb1⟩ := wd_bad hw1 hc66
    have hbl1 := rb_le hrb1
    refine wp_seq ?_
    refine region_seq ?_
    revert a
    refine mA rfl rfl ?_
    refine sA (v := .pointer (some ⟨g62, 1, none⟩)) rfl (fun _ henv => rn_fieldAddr henv fd_anvil_api_Spot_1 (ty_int.size) (by decide) rfl) ?_
    refine sA (v := .int .i64 (c1 : Nat)) rfl (fun _ henv => rn_load1 henv ty_int rfl (hst.oat (k := 0) rfl) rfl) ?_
    intro a henv
    refine seq_step rfl (op_callc (vs := #[.int .i64 (c1 : Nat)]) henv rfl Tryd.call134 rfl rfl (calls_app (by simp) (q_wrong (p := ((c1 : Nat) : Int)))) ?_)
    rintro e w67 ⟨rfl, hb⟩
    refine ⟨_, rfl, ?_⟩
    clear henv a; intro a henv
    replace hst := hst.call hb
    clear hb
    revert a
    refine sA (v := .agg #[.bool (neg (qn 0)), .slice none (zl (qn 0)) 0, .bool (neg (ql 0)), .slice none (zl (ql 0)) 0]) rfl (fun _ henv => rn_extract henv rfl rfl) ?_
    refine sA (v := .agg #[.int .i64 6, .int .i64 (c1 : Nat)]) rfl (fun _ henv => rn_extract henv rfl rfl) ?_
    intro a henv
    refine seq_step rfl (op_store (k := 3) (c' := #[.bool (neg (qn 0)), .slice none (zl (qn 0)) 0, .bool (neg (ql 0)), .slice none (zl (ql 0)) 0]) henv hst (ty_anvil_ratio_Rat.size) rfl rfl rfl rfl (by simp) rfl rfl ?_)
    clear henv hst a; intro a w68 henv hst
    refine seq_step rfl (op_store (k := 2) (c' := #[.int .i64 6, .int .i64 (c1 : Nat)]) henv hst (ty_anvil_api_Spot.size) rfl rfl rfl rfl (by simp) rfl rfl ?_)
    clear henv hst a; intro a w69 henv hst
    refine wpList_nil ?_
    refine th_n ?_
    refine wp_ret ?_
    refine th_r ?_
    refine leave henv (res2 Tryd.results91 (RV.cell henv ty_anvil_ratio_Rat rfl (hst.oat (k := 3) rfl) rfl) (RV.cell henv ty_anvil_api_Spot rfl (hst.oat (k := 2) rfl) rfl)) ?_
    exact ⟨.inr ⟨c1, _, hrb1, rfl, qat_zero _⟩, hst.below⟩
  · obtain ⟨rfl, rfl, hrz1⟩ := wd_ok hw1 hc66
    have hzl1 := rz_zl9 hrz1
    refine wp_skip ?_
    refine th_n ?_
    refine wp_seq ?_
    refine wp_seq ?_
    refine region_seq ?_
    revert a
    refine mA rfl rfl ?_
    refine sA (v := .bool true) rfl (fun _ henv => rn_un henv rfl rfl) ?_
    intro a henv
    refine wpList_nil ?_
    refine th_n ?_
    refine if_t henv rfl (rfl) ?_
    refine wp_seq ?_
    refine region_seq ?_
    refine sv (v := .agg #[.bool (neg z1), .slice A56 (zl z1) c57]) henv rfl (rn_load0 henv ty_anvil_integer_Int rfl (hst.oat (k := 1) rfl) rfl) ?_
    clear henv a; intro a henv
    refine seq_step rfl (op_call henv rfl Tryd.call65 rfl (of_int_q (z := z1) (show ZIn _ A56 c57 z1 from hst.pat (k := 0) rfl)) ?_)
    rintro e w76 ⟨_, rfl, ⟨A70, c71, B72, d73, rfl, hz74, hz75⟩, hb⟩
    refine ⟨_, rfl, ?_⟩
    clear henv a; intro a henv
    replace hst := ((hst.call hb).addZ hz74 ⟨nou_bk rfl, nou_bk rfl, nou_bk rfl, nou_bk rfl, trivial⟩).addZ hz75 ⟨nou_bk rfl, nou_bk rfl, nou_bk rfl, nou_bk rfl, trivial⟩
    clear hz74 hz75
    clear hb
    refine sv (v := .agg #[.int .i64 0, .int .i64 0]) henv rfl (rn_spot0) ?_
    clear henv a; intro a henv
    refine seq_step rfl (op_store (k := 3) (c' := #[.bool (neg (qn (z1 : Rat))), .slice A70 (zl (qn (z1 : Rat))) c71, .bool (neg (ql (z1 : Rat))), .slice B72 (zl (ql (z1 : Rat))) d73]) henv hst (ty_anvil_ratio_Rat.size) rfl rfl rfl rfl (by simp) rfl rfl ?_)
    clear henv hst a; intro a w77 henv hst
    refine seq_step rfl (op_store (k := 2) (c' := #[.int .i64 0, .int .i64 0]) henv hst (ty_anvil_api_Spot.size) rfl rfl rfl rfl (by simp) rfl rfl ?_)
    clear henv hst a; intro a w78 henv hst
    refine wpList_nil ?_
    refine th_n ?_
    refine wp_ret ?_
    refine th_r ?_
    refine leave henv (res2 Tryd.results91 (RV.cell henv ty_anvil_ratio_Rat rfl (hst.oat (k := 3) rfl) rfl) (RV.cell henv ty_anvil_api_Spot rfl (hst.oat (k := 2) rfl) rfl)) ?_
    exact ⟨.inl ⟨z1, _, hrz1, rfl, q_at rfl rfl (hst.pat (k := 1) rfl) (hst.pat (k := 0) rfl)⟩, hst.below⟩
set_option maxRecDepth 100000 in
set_option maxHeartbeats 8000000 in
theorem q_read_yes {la lb : List UInt8} {w0 : World} (hl0 : la.length + 1 + lb.length ≤ 50000) (h : (47 : UInt8) ∉ la) :
    Calls Tryd.prog 91 #[.string ⟨(la ++ 47 :: lb).toArray⟩] w0 fun e w' => ((∃ n d v, Rz la n ∧ Rz lb d ∧ 0 < d ∧ textQ (Rat.divInt n d) = la ++ 47 :: lb ∧ e = .returned (.tuple #[v, .agg #[.int .i64 0, .int .i64 0]]) ∧ QAt w' v (Rat.divInt n d)) ∨ (∃ (q : Int) (v : Value), BadQ la lb ∧ e = .returned (.tuple #[v, .agg #[.int .i64 6, .int .i64 q]]) ∧ QAt w' v 0)) ∧ Below w0.heap.size w0 w' := by
  have hl : la.length + 1 + lb.length ≤ 65536 := by omega
  have hll : (la ++ 47 :: lb).length = la.length + 1 + lb.length := by rw [List.length_append, List.length_cons]; omega
  refine enter Tryd.func91 rfl Tryd.ntmps91 rfl ?_
  intro a henv hst
  refine wp_seq ?_
  refine region_seq ?_
  refine seq_step rfl (op_alloc (c := #[.bool (neg (qn 0)), .slice none (zl (qn 0)) 0, .bool (neg (ql 0)), .slice none (zl (ql 0)) 0]) henv hst rfl zero_anvil_ratio_Rat qcells ?_)
  clear henv hst a; intro a w52 g51 henv hst
  refine seq_step rfl (op_alloc (c := #[.int .i64 0, .int .i64 0]) henv hst rfl zero_anvil_api_Spot rfl ?_)
  clear henv hst a; intro a w54 g53 henv hst
  refine wpList_nil ?_
  refine th_n ?_
  refine wp_seq ?_
  refine wp_seq ?_
  refine region_seq ?_
  revert a
  refine mA rfl rfl ?_
  refine sA (v := .int .i64 ((la ++ 47 :: lb).length : Nat)) rfl (fun _ henv => rn_lenS henv Tryd.underlying9 rfl) ?_
  refine sA (v := .bool (decide ((((la ++ 47 :: lb).length : Nat) : Int) > (65536 : Int)))) rfl (fun _ henv => rn_bin henv rfl rfl rfl) ?_
  intro a henv
  rw [show (decide ((((la ++ 47 :: lb).length : Nat) : Int) > (65536 : Int))) = false from decide_eq_false (by omega)] at henv
  refine wpList_nil ?_
  refine th_n ?_
  refine if_f henv rfl (rfl) ?_
  refine wp_skip ?_
  refine th_n ?_
  refine wp_seq ?_
  refine region_seq ?_
  refine sv (v := .func (.func 134) #[] #[]) henv rfl (rn_assign henv rfl) ?_
  clear henv a; intro a henv
  refine wpList_nil ?_
  refine th_n ?_
  refine wp_seq ?_
  refine region_seq ?_
  refine sv (v := .string ⟨(la ++ 47 :: lb).toArray⟩) henv rfl (rn_move henv rfl) ?_
  clear henv a; intro a henv
  refine seq_step rfl (op_call henv rfl Tryd.call135 rfl (cut_yes h hl) ?_)
  rintro e w55 ⟨rfl, hb⟩
  refine ⟨_, rfl, ?_⟩
  clear henv a; intro a henv
  replace hst := hst.call hb
  clear hb
  revert a
  refine mA rfl rfl ?_
  refine sA (v := .string ⟨la.toArray⟩) rfl (fun _ henv => rn_extract henv rfl rfl) ?_
  refine sA (v := .string ⟨lb.toArray⟩) rfl (fun _ henv => rn_extract henv rfl rfl) ?_
  refine sA (v := .bool true) rfl (fun _ henv => rn_extract henv rfl rfl) ?_
  refine aA rfl rfl ?_
  refine aA rfl rfl ?_
  refine aA rfl rfl ?_
  intro a henv
  refine wpList_nil ?_
  refine th_n ?_
  refine wp_seq ?_
  refine region_seq ?_
  refine sv (v := .string ⟨la.toArray⟩) henv rfl (rn_move henv rfl) ?_
  clear henv a; intro a henv
  refine seq_step rfl (op_call henv rfl Tryd.call113 rfl (iread_w (t := la) (by omega)) ?_)
  rintro e w59 ⟨z1, e1, a1, _, rfl, ⟨A56, c57, rfl, hz58⟩, hw1, hb⟩
  refine ⟨_, rfl, ?_⟩
  clear henv a; intro a henv
  replace hst := (hst.call hb).addZ hz58 ⟨nou_bk rfl, nou_bk rfl, trivial⟩
  clear hz58
  clear hb
  revert a
  refine mA rfl rfl ?_
  refine sA (v := .agg #[.bool (neg z1), .slice A56 (zl z1) c57]) rfl (fun _ henv => rn_extract henv rfl rfl) ?_
  refine sA (v := .agg #[.int .i64 e1, .int .i64 a1]) rfl (fun _ henv => rn_extract henv rfl rfl) ?_
  intro a henv
  refine seq_step rfl (op_alloc (c := #[.bool (neg 0), .slice none (zl 0) 0]) henv hst rfl zero_anvil_integer_Int zcells ?_)
  clear henv hst a; intro a w61 g60 henv hst
  refine seq_step rfl (op_alloc (c := #[.int .i64 0, .int .i64 0]) henv hst rfl zero_anvil_api_Spot rfl ?_)
  clear henv hst a; intro a w63 g62 henv hst
  refine seq_step rfl (op_store (k := 1) (c' := #[.bool (neg z1), .slice A56 (zl z1) c57]) henv hst (ty_anvil_integer_Int.size) rfl rfl rfl rfl (by simp) rfl rfl ?_)
  clear henv hst a; intro a w64 henv hst
  refine seq_step rfl (op_store (k := 0) (c' := #[.int .i64 e1, .int .i64 a1]) henv hst (ty_anvil_api_Spot.size) rfl rfl rfl rfl (by simp) rfl rfl ?_)
  clear henv hst a; intro a w65 henv hst
  refine wpList_nil ?_
  refine th_n ?_
  refine wp_seq ?_
  refine wp_seq ?_
  refine region_seq ?_
  revert a
  refine sA (v := .pointer (some ⟨g62, 0, none⟩)) rfl (fun _ henv => rn_fieldAddr henv fd_anvil_api_Spot_0 (ty_anvil_api_Errno.size) (by decide) rfl) ?_
  refine sA (v := .int .i64 e1) rfl (fun _ henv => rn_load1 henv ty_anvil_api_Errno rfl (hst.oat (k := 0) rfl) rfl) ?_
  refine sA (v := .bool (e1 != (0 : Int))) rfl (fun _ henv => rn_bin henv rfl rfl rfl) ?_
  intro a henv
  refine wpList_nil ?_
  refine th_n ?_
  refine if_split henv rfl (fun hc66 => ?_) (fun hc66 => ?_)
  · obtain ⟨rfl, c1, rfl, hrb1⟩ := wd_bad hw1 hc66
    have hbl1 := rb_le hrb1
    refine wp_seq ?_
    refine region_seq ?_
    revert a
    refine mA rfl rfl ?_
    refine sA (v := .pointer (some ⟨g62, 1, none⟩)) rfl (fun _ henv => rn_fieldAddr henv fd_anvil_api_Spot_1 (ty_int.size) (by decide) rfl) ?_
    refine sA (v := .int .i64 (c1 : Nat)) rfl (fun _ henv => rn_load1 henv ty_int rfl (hst.oat (k := 0) rfl) rfl) ?_
    intro a henv
    refine seq_step rfl (op_callc (vs := #[.int .i64 (c1 : Nat)]) henv rfl Tryd.call134 rfl rfl (calls_app (by simp) (q_wrong (p := ((c1 : Nat) : Int)))) ?_)
    rintro e w67 ⟨rfl, hb⟩
    refine ⟨_, rfl, ?_⟩
    clear henv a; intro a henv
    replace hst := hst.call hb
    clear hb
    revert a
    refine sA (v := .agg #[.bool (neg (qn 0)), .slice none (zl (qn 0)) 0, .bool (neg (ql 0)), .slice none (zl (ql 0)) 0]) rfl (fun _ henv => rn_extract henv rfl rfl) ?_
    refine sA (v := .agg #[.int .i64 6, .int .i64 (c1 : Nat)]) rfl (fun _ henv => rn_extract henv rfl rfl) ?_
    intro a henv
    refine seq_step rfl (op_store (k := 3) (c' := #[.bool (neg (qn 0)), .slice none (zl (qn 0)) 0, .bool (neg (ql 0)), .slice none (zl (ql 0)) 0]) henv hst (ty_anvil_ratio_Rat.size) rfl rfl rfl rfl (by simp) rfl rfl ?_)
    clear henv hst a; intro a w68 henv hst
    refine seq_step rfl (op_store (k := 2) (c' := #[.int .i64 6, .int .i64 (c1 : Nat)]) henv hst (ty_anvil_api_Spot.size) rfl rfl rfl rfl (by simp) rfl rfl ?_)
    clear henv hst a; intro a w69 henv hst
    refine wpList_nil ?_
    refine th_n ?_
    refine wp_ret ?_
    refine th_r ?_
    refine leave henv (res2 Tryd.results91 (RV.cell henv ty_anvil_ratio_Rat rfl (hst.oat (k := 3) rfl) rfl) (RV.cell henv ty_anvil_api_Spot rfl (hst.oat (k := 2) rfl) rfl)) ?_
    exact ⟨.inr ⟨_, _, .inl ⟨_, hrb1⟩, rfl, qat_zero _⟩, hst.below⟩
  · obtain ⟨rfl, rfl, hrz1⟩ := wd_ok hw1 hc66
    have hzl1 := rz_zl9 hrz1
    refine wp_skip ?_
    refine th_n ?_
    refine wp_seq ?_
    refine wp_seq ?_
    refine region_seq ?_
    revert a
    refine mA rfl rfl ?_
    refine sA (v := .bool false) rfl (fun _ henv => rn_un henv rfl rfl) ?_
    intro a henv
    refine wpList_nil ?_
    refine th_n ?_
    refine if_f henv rfl (rfl) ?_
    refine wp_skip ?_
    refine th_n ?_
    refine wp_seq ?_
    refine region_seq ?_
    revert a
    refine mA rfl rfl ?_
    refine sA (v := .int .i64 (la.length : Nat)) rfl (fun _ henv => rn_lenS henv Tryd.underlying9 rfl) ?_
    refine sA (v := .int .i64 (la.length + 1 : Nat)) rfl (fun _ henv => rn_add henv rfl rfl (by rw [IntWalk.i64_in _ (by omega)]; omega)) ?_
    refine aA rfl rfl ?_
    intro a henv
    refine wpList_nil ?_
    refine th_n ?_
    refine wp_seq ?_
    refine wp_seq ?_
    refine region_seq ?_
    revert a
    refine mA rfl rfl ?_
    refine sA (v := .bool (decide (lb = []))) rfl (fun _ henv => rn_eqls (s := lb) (t := []) henv rfl rfl) ?_
    refine mA rfl rfl ?_
    intro a henv
    rcases bool_em (decide (lb = [])) with hg70 | hg70
    · rw [hg70] at henv
      have hb0 := of_decide_eq_true hg70
      revert a
      refine kA rfl rfl rfl rfl rfl ?_
      refine kA rfl rfl rfl rfl rfl ?_
      refine kA rfl rfl rfl rfl rfl ?_
      refine sA (v := .bool true) rfl (fun _ henv => rn_pick henv rfl rfl) ?_
      refine mA rfl rfl ?_
      refine kA rfl rfl rfl rfl rfl ?_
      refine kA rfl rfl rfl rfl rfl ?_
      refine kA rfl rfl rfl rfl rfl ?_
      refine sA (v := .bool true) rfl (fun _ henv => rn_pick henv rfl rfl) ?_
      intro a henv
      refine wpList_nil ?_
      refine th_n ?_
      refine if_t henv rfl (rfl) ?_
      refine wp_seq ?_
      refine region_seq ?_
      revert a
      refine mA rfl rfl ?_
      refine mA rfl rfl ?_
      intro a henv
      refine seq_step rfl (op_callc (vs := #[.int .i64 (la.length + 1 : Nat)]) henv rfl Tryd.call134 rfl rfl (calls_app (by simp) (q_wrong (p := ((la.length + 1 : Nat) : Int)))) ?_)
      rintro e w71 ⟨rfl, hb⟩
      refine ⟨_, rfl, ?_⟩
      clear henv a; intro a henv
      replace hst := hst.call hb
      clear hb
      revert a
      refine sA (v := .agg #[.bool (neg (qn 0)), .slice none (zl (qn 0)) 0, .bool (neg (ql 0)), .slice none (zl (ql 0)) 0]) rfl (fun _ henv => rn_extract henv rfl rfl) ?_
      refine sA (v := .agg #[.int .i64 6, .int .i64 (la.length + 1 : Nat)]) rfl (fun _ henv => rn_extract henv rfl rfl) ?_
      intro a henv
      refine seq_step rfl (op_store (k := 3) (c' := #[.bool (neg (qn 0)), .slice none (zl (qn 0)) 0, .bool (neg (ql 0)), .slice none (zl (ql 0)) 0]) henv hst (ty_anvil_ratio_Rat.size) rfl rfl rfl rfl (by simp) rfl rfl ?_)
      clear henv hst a; intro a w72 henv hst
      refine seq_step rfl (op_store (k := 2) (c' := #[.int .i64 6, .int .i64 (la.length + 1 : Nat)]) henv hst (ty_anvil_api_Spot.size) rfl rfl rfl rfl (by simp) rfl rfl ?_)
      clear henv hst a; intro a w73 henv hst
      refine wpList_nil ?_
      refine th_n ?_
      refine wp_ret ?_
      refine th_r ?_
      refine leave henv (res2 Tryd.results91 (RV.cell henv ty_anvil_ratio_Rat rfl (hst.oat (k := 3) rfl) rfl) (RV.cell henv ty_anvil_api_Spot rfl (hst.oat (k := 2) rfl) rfl)) ?_
      exact ⟨.inr ⟨_, _, .inr (.inl hb0), rfl, qat_zero _⟩, hst.below⟩
    · rw [hg70] at henv
      have hb0 := of_decide_eq_false hg70
      have hbl0 : 0 < lb.length := List.length_pos_iff.2 hb0
      revert a
      refine gA (v := .string ⟨lb.toArray⟩) rfl rfl rfl rfl (fun _ henv => rn_move henv rfl) ?_
      refine gA (v := .int .u8 ((lb.getD 0 0).toNat : Nat)) rfl rfl rfl rfl (fun _ henv => rn_idxS (i := 0) henv Tryd.underlying9 rfl rfl (by omega)) ?_
      refine gA (v := .bool ((((lb.getD 0 0).toNat : Nat) : Int) == (45 : Int))) rfl rfl rfl rfl (fun _ henv => rn_bin henv rfl rfl rfl) ?_
      refine sA (v := .bool ((((lb.getD 0 0).toNat : Nat) : Int) == (45 : Int))) rfl (fun _ henv => rn_pick henv rfl rfl) ?_
      refine mA rfl rfl ?_
      intro a henv
      rcases bool_em ((((lb.getD 0 0).toNat : Nat) : Int) == (45 : Int)) with hg74 | hg74
      · rw [hg74] at henv
        have hb1 := eq_of_beq hg74
        replace hb1 : (lb.getD 0 0).toNat = 45 := by omega
        revert a
        refine kA rfl rfl rfl rfl rfl ?_
        refine kA rfl rfl rfl rfl rfl ?_
        refine kA rfl rfl rfl rfl rfl ?_
        refine sA (v := .bool true) rfl (fun _ henv => rn_pick henv rfl rfl) ?_
        intro a henv
        refine wpList_nil ?_
        refine th_n ?_
        refine if_t henv rfl (rfl) ?_
        refine wp_seq ?_
        refine region_seq ?_
        revert a
        refine mA rfl rfl ?_
        refine mA rfl rfl ?_
        intro a henv
        refine seq_step rfl (op_callc (vs := #[.int .i64 (la.length + 1 : Nat)]) henv rfl Tryd.call134 rfl rfl (calls_app (by simp) (q_wrong (p := ((la.length + 1 : Nat) : Int)))) ?_)
        rintro e w75 ⟨rfl, hb⟩
        refine ⟨_, rfl, ?_⟩
        clear henv a; intro a henv
        replace hst := hst.call hb
        clear hb
        revert a
        refine sA (v := .agg #[.bool (neg (qn 0)), .slice none (zl (qn 0)) 0, .bool (neg (ql 0)), .slice none (zl (ql 0)) 0]) rfl (fun _ henv => rn_extract henv rfl rfl) ?_
        refine sA (v := .agg #[.int .i64 6, .int .i64 (la.length + 1 : Nat)]) rfl (fun _ henv => rn_extract henv rfl rfl) ?_
        intro a henv
        refine seq_step rfl (op_store (k := 3) (c' := #[.bool (neg (qn 0)), .slice none (zl (qn 0)) 0, .bool (neg (ql 0)), .slice none (zl (ql 0)) 0]) henv hst (ty_anvil_ratio_Rat.size) rfl rfl rfl rfl (by simp) rfl rfl ?_)
        clear henv hst a; intro a w76 henv hst
        refine seq_step rfl (op_store (k := 2) (c' := #[.int .i64 6, .int .i64 (la.length + 1 : Nat)]) henv hst (ty_anvil_api_Spot.size) rfl rfl rfl rfl (by simp) rfl rfl ?_)
        clear henv hst a; intro a w77 henv hst
        refine wpList_nil ?_
        refine th_n ?_
        refine wp_ret ?_
        refine th_r ?_
        refine leave henv (res2 Tryd.results91 (RV.cell henv ty_anvil_ratio_Rat rfl (hst.oat (k := 3) rfl) rfl) (RV.cell henv ty_anvil_api_Spot rfl (hst.oat (k := 2) rfl) rfl)) ?_
        exact ⟨.inr ⟨_, _, .inr (.inr (.inl hb1)), rfl, qat_zero _⟩, hst.below⟩
      · rw [hg74] at henv
        have hb1 := ne_of_beq_false hg74
        replace hb1 : (lb.getD 0 0).toNat ≠ 45 := by omega
        revert a
        refine gA (v := .string ⟨lb.toArray⟩) rfl rfl rfl rfl (fun _ henv => rn_move henv rfl) ?_
        refine gA (v := .int .u8 ((lb.getD 0 0).toNat : Nat)) rfl rfl rfl rfl (fun _ henv => rn_idxS (i := 0) henv Tryd.underlying9 rfl rfl (by omega)) ?_
        refine gA (v := .bool ((((lb.getD 0 0).toNat : Nat) : Int) == (48 : Int))) rfl rfl rfl rfl (fun _ henv => rn_bin henv rfl rfl rfl) ?_
        refine sA (v := .bool ((((lb.getD 0 0).toNat : Nat) : Int) == (48 : Int))) rfl (fun _ henv => rn_pick henv rfl rfl) ?_
        intro a henv
        refine wpList_nil ?_
        refine th_n ?_
        refine if_split henv rfl (fun hc78 => ?_) (fun hc78 => ?_)
        · have hb2 := eq_of_beq hc78
          replace hb2 : (lb.getD 0 0).toNat = 48 := by omega
          refine wp_seq ?_
          refine region_seq ?_
          revert a
          refine mA rfl rfl ?_
          refine mA rfl rfl ?_
          intro a henv
          refine seq_step rfl (op_callc (vs := #[.int .i64 (la.length + 1 : Nat)]) henv rfl Tryd.call134 rfl rfl (calls_app (by simp) (q_wrong (p := ((la.length + 1 : Nat) : Int)))) ?_)
          rintro e w79 ⟨rfl, hb⟩
          refine ⟨_, rfl, ?_⟩
          clear henv a; intro a henv
          replace hst := hst.call hb
          clear hb
          revert a
          refine sA (v := .agg #[.bool (neg (qn 0)), .slice none (zl (qn 0)) 0, .bool (neg (ql 0)), .slice none (zl (ql 0)) 0]) rfl (fun _ henv => rn_extract henv rfl rfl) ?_
          refine sA (v := .agg #[.int .i64 6, .int .i64 (la.length + 1 : Nat)]) rfl (fun _ henv => rn_extract henv rfl rfl) ?_
          intro a henv
          refine seq_step rfl (op_store (k := 3) (c' := #[.bool (neg (qn 0)), .slice none (zl (qn 0)) 0, .bool (neg (ql 0)), .slice none (zl (ql 0)) 0]) henv hst (ty_anvil_ratio_Rat.size) rfl rfl rfl rfl (by simp) rfl rfl ?_)
          clear henv hst a; intro a w80 henv hst
          refine seq_step rfl (op_store (k := 2) (c' := #[.int .i64 6, .int .i64 (la.length + 1 : Nat)]) henv hst (ty_anvil_api_Spot.size) rfl rfl rfl rfl (by simp) rfl rfl ?_)
          clear henv hst a; intro a w81 henv hst
          refine wpList_nil ?_
          refine th_n ?_
          refine wp_ret ?_
          refine th_r ?_
          refine leave henv (res2 Tryd.results91 (RV.cell henv ty_anvil_ratio_Rat rfl (hst.oat (k := 3) rfl) rfl) (RV.cell henv ty_anvil_api_Spot rfl (hst.oat (k := 2) rfl) rfl)) ?_
          exact ⟨.inr ⟨_, _, .inr (.inr (.inr (.inl hb2))), rfl, qat_zero _⟩, hst.below⟩
        · have hb2 := ne_of_beq_false hc78
          replace hb2 : (lb.getD 0 0).toNat ≠ 48 := by omega
          refine wp_skip ?_
          refine th_n ?_
          refine wp_seq ?_
          refine region_seq ?_
          refine sv (v := .string ⟨lb.toArray⟩) henv rfl (rn_move henv rfl) ?_
          clear henv a; intro a henv
          refine seq_step rfl (op_call henv rfl Tryd.call113 rfl (iread_w (t := lb) (by omega)) ?_)
          rintro e w85 ⟨z2, e2, a2, _, rfl, ⟨A82, c83, rfl, hz84⟩, hw2, hb⟩
          refine ⟨_, rfl, ?_⟩
          clear henv a; intro a henv
          replace hst := (hst.call hb).addZ hz84 ⟨nou_bk rfl, nou_bk rfl, nou_bk rfl, nou_bk rfl, trivial⟩
          clear hz84
          clear hb
          revert a
          refine mA rfl rfl ?_
          refine sA (v := .agg #[.bool (neg z2), .slice A82 (zl z2) c83]) rfl (fun _ henv => rn_extract henv rfl rfl) ?_
          refine sA (v := .agg #[.int .i64 e2, .int .i64 a2]) rfl (fun _ henv => rn_extract henv rfl rfl) ?_
          intro a henv
          refine seq_step rfl (op_alloc (c := #[.bool (neg 0), .slice none (zl 0) 0]) henv hst rfl zero_anvil_integer_Int zcells ?_)
          clear henv hst a; intro a w87 g86 henv hst
          refine seq_step rfl (op_store (k := 0) (c' := #[.bool (neg z2), .slice A82 (zl z2) c83]) henv hst (ty_anvil_integer_Int.size) rfl rfl rfl rfl (by simp) rfl rfl ?_)
          clear henv hst a; intro a w88 henv hst
          refine seq_step rfl (op_store (k := 1) (c' := #[.int .i64 e2, .int .i64 a2]) henv hst (ty_anvil_api_Spot.size) rfl rfl rfl rfl (by simp) rfl rfl ?_)
          clear henv hst a; intro a w89 henv hst
          refine wpList_nil ?_
          refine th_n ?_
          refine wp_seq ?_
          refine wp_seq ?_
          refine region_seq ?_
          revert a
          refine sA (v := .pointer (some ⟨g62, 0, none⟩)) rfl (fun _ henv => rn_fieldAddr henv fd_anvil_api_Spot_0 (ty_anvil_api_Errno.size) (by decide) rfl) ?_
          refine sA (v := .int .i64 e2) rfl (fun _ henv => rn_load1 henv ty_anvil_api_Errno rfl (hst.oat (k := 1) rfl) rfl) ?_
          refine sA (v := .bool (e2 != (0 : Int))) rfl (fun _ henv => rn_bin henv rfl rfl rfl) ?_
          intro a henv
          refine wpList_nil ?_
          refine th_n ?_
          refine if_split henv rfl (fun hc90 => ?_) (fun hc90 => ?_)
          · obtain ⟨rfl, c2, rfl, hrb2⟩ := wd_bad hw2 hc90
            have hbl2 := rb_le hrb2
            refine wp_seq ?_
            refine region_seq ?_
            revert a
            refine mA rfl rfl ?_
            refine mA rfl rfl ?_
            refine sA (v := .pointer (some ⟨g62, 1, none⟩)) rfl (fun _ henv => rn_fieldAddr henv fd_anvil_api_Spot_1 (ty_int.size) (by decide) rfl) ?_
            refine sA (v := .int .i64 (c2 : Nat)) rfl (fun _ henv => rn_load1 henv ty_int rfl (hst.oat (k := 1) rfl) rfl) ?_
            refine sA (v := .int .i64 ((la.length + 1) + c2 : Nat)) rfl (fun _ henv => rn_add henv rfl rfl (by rw [IntWalk.i64_in _ (by omega)]; omega)) ?_
            intro a henv
            refine seq_step rfl (op_callc (vs := #[.int .i64 ((la.length + 1) + c2 : Nat)]) henv rfl Tryd.call134 rfl rfl (calls_app (by simp) (q_wrong (p := (((la.length + 1) + c2 : Nat) : Int)))) ?_)
            rintro e w91 ⟨rfl, hb⟩
            refine ⟨_, rfl, ?_⟩
            clear henv a; intro a henv
            replace hst := hst.call hb
            clear hb
            revert a
            refine sA (v := .agg #[.bool (neg (qn 0)), .slice none (zl (qn 0)) 0, .bool (neg (ql 0)), .slice none (zl (ql 0)) 0]) rfl (fun _ henv => rn_extract henv rfl rfl) ?_
            refine sA (v := .agg #[.int .i64 6, .int .i64 ((la.length + 1) + c2 : Nat)]) rfl (fun _ henv => rn_extract henv rfl rfl) ?_
            intro a henv
            refine seq_step rfl (op_store (k := 4) (c' := #[.bool (neg (qn 0)), .slice none (zl (qn 0)) 0, .bool (neg (ql 0)), .slice none (zl (ql 0)) 0]) henv hst (ty_anvil_ratio_Rat.size) rfl rfl rfl rfl (by simp) rfl rfl ?_)
            clear henv hst a; intro a w92 henv hst
            refine seq_step rfl (op_store (k := 3) (c' := #[.int .i64 6, .int .i64 ((la.length + 1) + c2 : Nat)]) henv hst (ty_anvil_api_Spot.size) rfl rfl rfl rfl (by simp) rfl rfl ?_)
            clear henv hst a; intro a w93 henv hst
            refine wpList_nil ?_
            refine th_n ?_
            refine wp_ret ?_
            refine th_r ?_
            refine leave henv (res2 Tryd.results91 (RV.cell henv ty_anvil_ratio_Rat rfl (hst.oat (k := 4) rfl) rfl) (RV.cell henv ty_anvil_api_Spot rfl (hst.oat (k := 3) rfl) rfl)) ?_
            exact ⟨.inr ⟨_, _, .inr (.inr (.inr (.inr (.inl ⟨_, hrb2⟩)))), rfl, qat_zero _⟩, hst.below⟩
          · obtain ⟨rfl, rfl, hrz2⟩ := wd_ok hw2 hc90
            have hzl2 := rz_zl9 hrz2
            have hd0 := den_pos hrz2 hb0 hb1 hb2
            have hqs : Qs 6000 (Rat.divInt z1 z2) := qs_make (by omega) (by omega) (by omega)
            refine wp_skip ?_
            refine th_n ?_
            refine wp_seq ?_
            refine region_seq ?_
            revert a
            refine sA (v := .agg #[.bool (neg z1), .slice A56 (zl z1) c57]) rfl (fun _ henv => rn_load0 henv ty_anvil_integer_Int rfl (hst.oat (k := 2) rfl) rfl) ?_
            refine sA (v := .agg #[.bool (neg z2), .slice A82 (zl z2) c83]) rfl (fun _ henv => rn_load0 henv ty_anvil_integer_Int rfl (hst.oat (k := 0) rfl) rfl) ?_
            intro a henv
            refine seq_step rfl (op_call henv rfl Tryd.call116 rfl (lowest_q (show ZIn _ A56 c57 z1 from hst.pat (k := 1) rfl) (show ZIn _ A82 c83 z2 from hst.pat (k := 0) rfl) (by omega) (by omega) hd0 rfl) ?_)
            rintro e w100 ⟨_, rfl, ⟨A94, c95, B96, d97, rfl, hz98, hz99⟩, hb⟩
            refine ⟨_, rfl, ?_⟩
            clear henv a; intro a henv
            replace hst := ((hst.call hb).addZ hz98 ⟨nou_bk rfl, nou_bk rfl, nou_bk rfl, nou_bk rfl, nou_bk rfl, trivial⟩).addZ hz99 ⟨nou_bk rfl, nou_bk rfl, nou_bk rfl, nou_bk rfl, nou_bk rfl, trivial⟩
            clear hz98 hz99
            clear hb
            refine seq_step rfl (op_alloc (c := #[.bool (neg (qn 0)), .slice none (zl (qn 0)) 0, .bool (neg (ql 0)), .slice none (zl (ql 0)) 0]) henv hst rfl zero_anvil_ratio_Rat qcells ?_)
            clear henv hst a; intro a w102 g101 henv hst
            refine seq_step rfl (op_store (k := 0) (c' := #[.bool (neg (qn (Rat.divInt z1 z2))), .slice A94 (zl (qn (Rat.divInt z1 z2))) c95, .bool (neg (ql (Rat.divInt z1 z2))), .slice B96 (zl (ql (Rat.divInt z1 z2))) d97]) henv hst (ty_anvil_ratio_Rat.size) rfl rfl rfl rfl (by simp) rfl rfl ?_)
            clear henv hst a; intro a w103 henv hst
            refine wpList_nil ?_
            refine th_n ?_
            refine wp_seq ?_
            refine wp_seq ?_
            refine region_seq ?_
            refine sv (v := .agg #[.bool (neg (qn (Rat.divInt z1 z2))), .slice A94 (zl (qn (Rat.divInt z1 z2))) c95, .bool (neg (ql (Rat.divInt z1 z2))), .slice B96 (zl (ql (Rat.divInt z1 z2))) d97]) henv rfl (rn_load0 henv ty_anvil_ratio_Rat rfl (hst.oat (k := 0) rfl) rfl) ?_
            clear henv a; intro a henv
            refine seq_step rfl (op_call henv rfl Tryd.call92 rfl (text_q (x := Rat.divInt z1 z2) (show ZIn _ A94 c95 (qn (Rat.divInt z1 z2)) from hst.pat (k := 1) rfl) (show ZIn _ B96 d97 (ql (Rat.divInt z1 z2)) from hst.pat (k := 0) rfl) hqs (by omega)) ?_)
            rintro e w104 ⟨rfl, hb⟩
            refine ⟨_, rfl, ?_⟩
            clear henv a; intro a henv
            replace hst := hst.call hb
            clear hb
            revert a
            refine mA rfl rfl ?_
            refine sA (v := .bool (!decide ((textQ (Rat.divInt z1 z2)) = (la ++ 47 :: lb)))) rfl (fun _ henv => rn_neqs (s := (textQ (Rat.divInt z1 z2))) (t := (la ++ 47 :: lb)) henv rfl rfl) ?_
            intro a henv
            refine wpList_nil ?_
            refine th_n ?_
            refine if_split henv rfl (fun hc105 => ?_) (fun hc105 => ?_)
            · have hte := not_dec_t hc105
              refine wp_seq ?_
              refine region_seq ?_
              revert a
              refine mA rfl rfl ?_
              refine mA rfl rfl ?_
              refine sA (v := .int .i64 ((la ++ 47 :: lb).length : Nat)) rfl (fun _ henv => rn_lenS henv Tryd.underlying9 rfl) ?_
              intro a henv
              refine seq_step rfl (op_callc (vs := #[.int .i64 ((la ++ 47 :: lb).length : Nat)]) henv rfl Tryd.call134 rfl rfl (calls_app (by simp) (q_wrong (p := (((la ++ 47 :: lb).length : Nat) : Int)))) ?_)
              rintro e w106 ⟨rfl, hb⟩
              refine ⟨_, rfl, ?_⟩
              clear henv a; intro a henv
              replace hst := hst.call hb
              clear hb
              revert a
              refine sA (v := .agg #[.bool (neg (qn 0)), .slice none (zl (qn 0)) 0, .bool (neg (ql 0)), .slice none (zl (ql 0)) 0]) rfl (fun _ henv => rn_extract henv rfl rfl) ?_
              refine sA (v := .agg #[.int .i64 6, .int .i64 ((la ++ 47 :: lb).length : Nat)]) rfl (fun _ henv => rn_extract henv rfl rfl) ?_
              intro a henv
              refine seq_step rfl (op_store (k := 5) (c' := #[.bool (neg (qn 0)), .slice none (zl (qn 0)) 0, .bool (neg (ql 0)), .slice none (zl (ql 0)) 0]) henv hst (ty_anvil_ratio_Rat.size) rfl rfl rfl rfl (by simp) rfl rfl ?_)
              clear henv hst a; intro a w107 henv hst
              refine seq_step rfl (op_store (k := 4) (c' := #[.int .i64 6, .int .i64 ((la ++ 47 :: lb).length : Nat)]) henv hst (ty_anvil_api_Spot.size) rfl rfl rfl rfl (by simp) rfl rfl ?_)
              clear henv hst a; intro a w108 henv hst
              refine wpList_nil ?_
              refine th_n ?_
              refine wp_ret ?_
              refine th_r ?_
              refine leave henv (res2 Tryd.results91 (RV.cell henv ty_anvil_ratio_Rat rfl (hst.oat (k := 5) rfl) rfl) (RV.cell henv ty_anvil_api_Spot rfl (hst.oat (k := 4) rfl) rfl)) ?_
              exact ⟨.inr ⟨_, _, .inr (.inr (.inr (.inr (.inr ⟨z1, z2, hrz1, hrz2, hd0, hte⟩)))), rfl, qat_zero _⟩, hst.below⟩
            · have hte := not_dec_f hc105
              refine wp_skip ?_
              refine th_n ?_
              refine wp_seq ?_
              refine region_seq ?_
              revert a
              refine sA (v := .agg #[.bool (neg (qn (Rat.divInt z1 z2))), .slice A94 (zl (qn (Rat.divInt z1 z2))) c95, .bool (neg (ql (Rat.divInt z1 z2))), .slice B96 (zl (ql (Rat.divInt z1 z2))) d97]) rfl (fun _ henv => rn_load0 henv ty_anvil_ratio_Rat rfl (hst.oat (k := 0) rfl) rfl) ?_
              refine sA (v := .agg #[.int .i64 0, .int .i64 0]) rfl (fun _ henv => rn_spot0) ?_
              intro a henv
              refine seq_step rfl (op_store (k := 5) (c' := #[.bool (neg (qn (Rat.divInt z1 z2))), .slice A94 (zl (qn (Rat.divInt z1 z2))) c95, .bool (neg (ql (Rat.divInt z1 z2))), .slice B96 (zl (ql (Rat.divInt z1 z2))) d97]) henv hst (ty_anvil_ratio_Rat.size) rfl rfl rfl rfl (by simp) rfl rfl ?_)
              clear henv hst a; intro a w109 henv hst
              refine seq_step rfl (op_store (k := 4) (c' := #[.int .i64 0, .int .i64 0]) henv hst (ty_anvil_api_Spot.size) rfl rfl rfl rfl (by simp) rfl rfl ?_)
              clear henv hst a; intro a w110 henv hst
              refine wpList_nil ?_
              refine th_n ?_
              refine wp_ret ?_
              refine leave henv (res2 Tryd.results91 (RV.cell henv ty_anvil_ratio_Rat rfl (hst.oat (k := 5) rfl) rfl) (RV.cell henv ty_anvil_api_Spot rfl (hst.oat (k := 4) rfl) rfl)) ?_
              exact ⟨.inl ⟨z1, z2, _, hrz1, hrz2, hd0, hte, rfl, q_at rfl rfl (hst.pat (k := 1) rfl) (hst.pat (k := 0) rfl)⟩, hst.below⟩
theorem q_read {s : List UInt8} {w0 : World} (hl : s.length ≤ 50000) :
    Calls Tryd.prog 91 #[.string ⟨s.toArray⟩] w0 fun e w' => ((∃ r v, textQ r = s ∧ e = .returned (.tuple #[v, .agg #[.int .i64 0, .int .i64 0]]) ∧ QAt w' v r) ∨ (∃ (p q : Int) (v : Value), p ≠ 0 ∧ (∀ r, textQ r ≠ s) ∧ e = .returned (.tuple #[v, .agg #[.int .i64 p, .int .i64 q]]) ∧ QAt w' v 0)) ∧ Below w0.heap.size w0 w' := by
  rcases cut_cases s 47 with h | ⟨a, b, rfl, h⟩
  · refine (q_read_no hl h).mono fun e w' ⟨hp, hb⟩ => ⟨?_, hb⟩
    rcases hp with ⟨z, v, h1, h2, h3⟩ | ⟨b, v, h1, h2, h3⟩
    · exact .inl ⟨_, v, by unfold textQ; rw [if_pos (ql_int z), qn_int, rz_back h1], h2, h3⟩
    · exact .inr ⟨6, b, v, by decide, fun r hr => rz_not_rb (textQ_whole hr h).1 h1, h2, h3⟩
  · refine (q_read_yes (by rw [List.length_append, List.length_cons] at hl; omega) h).mono fun e w' ⟨hp, hb⟩ => ⟨?_, hb⟩
    rcases hp with ⟨n, d, v, h1, h2, h3, h4, h5, h6⟩ | ⟨q, v, h1, h2, h3⟩
    · exact .inl ⟨_, v, h4, h5, h6⟩
    · refine .inr ⟨6, q, v, by decide, fun r hr => ?_, h2, h3⟩
      obtain ⟨e1, e2⟩ := textQ_parts hr h
      have hq := qd_pos r
      have r2 := rz_text (qd r)
      rw [← e2] at r2
      have r1 := rz_text (qn r)
      rw [← e1] at r1
      rcases h1 with ⟨c, h1⟩ | h1 | h1 | h1 | ⟨c, h1⟩ | ⟨n, d, h1, h4, h5, h6⟩
      · exact rz_not_rb r1 h1
      · have := rz_pos r2; rw [h1] at this; exact absurd this (by decide)
      · exact pos_head (qd_pos r) (e2 ▸ h1) (.inl rfl)
      · exact pos_head (qd_pos r) (e2 ▸ h1) (.inr rfl)
      · exact rz_not_rb r2 h1
      · obtain rfl := rz_eq h1 r1
        obtain rfl := rz_eq h4 r2
        rw [q_self] at h6
        exact h6 hr
end Go.Proofs.YtegglooojlheoaaDoor.W
