/- strings.Cut at a slash; ratio.Read. Printed by pv/gen_qread.py. No condition. -/
import Derived.Test.YtegglooojlheoaaDoorM48
import Derived.Test.YtegglooojlheoaaDoorM11
import Derived.Test.YtegglooojlheoaaDoorM50
import Derived.Test.YtegglooojlheoaaDoorM34

namespace Go.Proofs.YtegglooojlheoaaDoor.W
open Go.RowKit Anv Go.Lib
theorem one_cut {a b : List UInt8} (h : [47] = a ++ 47 :: b) : a = [] := by
  have := congrArg List.length h
  rw [List.length_append, List.length_cons] at this
  simp at this
  exact List.eq_nil_of_length_eq_zero (by omega)
theorem drop_cut1 (a b : List UInt8) : (a ++ 47 :: b).drop (a.length + 1) = b := by
  rw [List.drop_append, List.drop_eq_nil_of_le (by omega), show a.length + 1 - a.length = 1 by omega]
  rfl
theorem qat_zero (w : World) : QAt w (.agg #[.bool (neg (qn 0)), .slice none (zl (qn 0)) 0, .bool (neg (ql 0)), .slice none (zl (ql 0)) 0]) 0 := ⟨none, 0, none, 0, rfl, zin_none w, zin_none w⟩
theorem not_dec_t {p : Prop} [Decidable p] (h : (!decide p) = true) : ¬ p := by simpa using h
theorem not_dec_f {p : Prop} [Decidable p] (h : (!decide p) = false) : p := by simpa using h
theorem bool_em (b : Bool) : b = true ∨ b = false := by cases b <;> simp
theorem pos_head {z : Int} {n : Nat} (hz : 0 < z) (h : ((textZ z).getD 0 0).toNat = n) (hn : n = 45 ∨ n = 48) : False := by
  rcases rz_text z with ⟨d, h1, h2, h3⟩ | ⟨h1, h2, h3⟩
  · have : sg true (numOf d) ≤ 0 := by unfold sg; simp
    omega
  · rcases hn with rfl | rfl
    · exact h1 h
    · have h4 : textZ z = [48] := by
        have h5 := ok_first h2
        match hm : textZ z, h, h2 with
        | [c], h, _ => rw [byte_eq (c := c) h 48 rfl]
        | c :: d :: t, h, h2 => exact absurd (.inr (.inl ⟨rfl, h⟩)) (h2.2 1 (by simp))
        | [], _, h2 => exact absurd h2.1 (by simp)
      have : textZ z = textZ 0 := h4
      have := textZ_inj this
      omega
theorem den_pos {b : List UInt8} {z : Int} (h : Rz b z) (_h0 : b ≠ []) (h1 : (b.getD 0 0).toNat ≠ 45) (h2 : (b.getD 0 0).toNat ≠ 48) : 0 < z := by
  rcases Int.lt_trichotomy z 0 with hz | hz | hz
  · rcases textZ_cases z with ⟨_, _, ht, _⟩ | ⟨hn, _⟩
    · rw [rz_back h] at ht; rw [ht] at h1; exact absurd rfl h1
    · unfold neg at hn; simp at hn; omega
  · rw [hz] at h; have ht := rz_back h; rw [← ht] at h2; exact absurd rfl h2
  · exact hz
def BadQ (a b : List UInt8) (q : Int) : Prop := (∃ c : Nat, Rb a c ∧ q = (c : Nat)) ∨ (b = [] ∧ q = ((a.length + 1 : Nat) : Int)) ∨ ((b.getD 0 0).toNat = 45 ∧ q = ((a.length + 1 : Nat) : Int)) ∨ ((b.getD 0 0).toNat = 48 ∧ q = ((a.length + 1 : Nat) : Int)) ∨
  (∃ c : Nat, Rb b c ∧ b ≠ [] ∧ (b.getD 0 0).toNat ≠ 45 ∧ (b.getD 0 0).toNat ≠ 48 ∧ q = ((a.length + 1 + c : Nat) : Int)) ∨ ∃ n d, Rz a n ∧ Rz b d ∧ 0 < d ∧ ¬ textQ (Rat.divInt n d) = a ++ 47 :: b ∧ q = (((a ++ 47 :: b).length : Nat) : Int)
set_option maxRecDepth 100000 in
set_option maxHeartbeats 2000000 in
theorem ixb_no {s : List UInt8} {w0 : World} (h : (47 : UInt8) ∉ s) :
    Calls Tryd.prog 175 #[.string ⟨s.toArray⟩, .int .u8 47] w0 fun e w' => e = .returned (.int .i64 (-1)) ∧ Below w0.heap.size w0 w' := by
  refine enter Tryd.func175 rfl Tryd.ntmps175 rfl ?_
  intro a henv hst
  refine wp_seq ?_
  refine region_seq ?_
  refine sv (v := .int .i64 0) henv rfl (rn_assign henv rfl) ?_
  clear henv a; intro a henv
  refine wpList_nil ?_
  refine th_n ?_
  refine wp_seq ?_
  refine region_seq ?_
  revert a
  refine mA rfl rfl ?_
  refine mA rfl rfl ?_
  intro a henv
  refine seq_step rfl (op_ext (vs := #[.string ⟨s.toArray⟩, .int .u8 47]) henv rfl rfl (ext_index (s := s) (c := 47)) ?_)
  clear henv a; intro a henv
  refine sv (v := .int .i64 (indexByte s (47 : Nat).toUInt8)) henv rfl (rn_assign henv rfl) ?_
  clear henv a; intro a henv
  refine wpList_nil ?_
  refine th_n ?_
  refine wp_ret ?_
  refine leave henv (res1 Tryd.results175 (RV.tmp henv rfl)) ?_
  exact ⟨congrArg (fun k => Ending.returned (Value.int .i64 k)) (index_no h), hst.below⟩
set_option maxRecDepth 100000 in
set_option maxHeartbeats 2000000 in
theorem idx_no {s : List UInt8} {w0 : World} (h : (47 : UInt8) ∉ s) :
    Calls Tryd.prog 166 #[.string ⟨s.toArray⟩, .string ⟨#[47]⟩] w0 fun e w' => e = .returned (.int .i64 (-1)) ∧ Below w0.heap.size w0 w' := by
  refine enter Tryd.func166 rfl Tryd.ntmps166 rfl ?_
  intro a henv hst
  refine wp_seq ?_
  refine region_seq ?_
  refine sv (v := .int .i64 0) henv rfl (rn_assign henv rfl) ?_
  clear henv a; intro a henv
  refine wpList_nil ?_
  refine th_n ?_
  refine wp_seq ?_
  refine region_seq ?_
  revert a
  refine mA rfl rfl ?_
  refine sA (v := .int .i64 1) rfl (fun _ henv => rn_slen (s := ⟨#[47]⟩) henv Tryd.underlying9 rfl) ?_
  refine aA rfl rfl ?_
  intro a henv
  refine wpList_nil ?_
  refine th_n ?_
  refine wp_seq ?_
  refine wp_block ?_
  refine wp_seq ?_
  refine region_seq ?_
  revert a
  refine mA rfl rfl ?_
  refine sA (v := .bool false) rfl (fun _ henv => rn_bin henv rfl rfl rfl) ?_
  refine mA rfl rfl ?_
  refine gA (v := .string ⟨#[47]⟩) rfl rfl rfl rfl (fun _ henv => rn_move henv rfl) ?_
  refine gA (v := .string ⟨s.toArray⟩) rfl rfl rfl rfl (fun _ henv => rn_move henv rfl) ?_
  refine gA (v := .bool (decide ([47] = s))) rfl rfl rfl rfl (fun _ henv => rn_eqls (s := [47]) (t := s) henv rfl rfl) ?_
  refine sA (v := .bool (decide ([47] = s))) rfl (fun _ henv => rn_pick henv rfl rfl) ?_
  refine aA rfl rfl ?_
  intro a henv
  refine wpList_nil ?_
  refine th_n ?_
  refine if_split henv rfl (fun hc51 => ?_) (fun hc51 => ?_)
  · have he1 := of_decide_eq_true hc51
    exact absurd (he1 ▸ List.mem_cons_self ..) h
  · refine wp_seq ?_
    refine region_seq ?_
    revert a
    refine mA rfl rfl ?_
    refine sA (v := .bool true) rfl (fun _ henv => rn_bin henv rfl rfl rfl) ?_
    refine aA rfl rfl ?_
    intro a henv
    refine wpList_nil ?_
    refine th_n ?_
    refine if_t henv rfl (rfl) ?_
    refine wp_seq ?_
    refine region_seq ?_
    revert a
    refine mA rfl rfl ?_
    refine mA rfl rfl ?_
    refine sA (v := .int .u8 ((([47] : List UInt8).getD 0 0).toNat : Nat)) rfl (fun _ henv => rn_idxS (i := 0) henv Tryd.underlying9 rfl rfl (by first | decide | omega)) ?_
    intro a henv
    refine seq_step rfl (op_call henv rfl Tryd.call175 rfl (ixb_no h) ?_)
    rintro e w52 ⟨rfl, hb⟩
    refine ⟨_, rfl, ?_⟩
    clear henv a; intro a henv
    replace hst := hst.call hb
    clear hb
    refine sv (v := .int .i64 (-1)) henv rfl (rn_assign henv rfl) ?_
    clear henv a; intro a henv
    refine wpList_nil ?_
    refine th_n ?_
    refine wp_ret ?_
    refine bl_r (th_r ?_)
    refine leave henv (res1 Tryd.results166 (RV.tmp henv rfl)) ?_
    exact ⟨rfl, hst.below⟩
set_option maxRecDepth 100000 in
set_option maxHeartbeats 2000000 in
theorem cutl_no {s : List UInt8} {w0 : World} (h : (47 : UInt8) ∉ s) :
    Calls Tryd.prog 155 #[.string ⟨s.toArray⟩, .string ⟨#[47]⟩] w0 fun e w' => e = .returned (.tuple #[.string ⟨s.toArray⟩, .string ⟨[].toArray⟩, .bool false]) ∧ Below w0.heap.size w0 w' := by
  refine enter Tryd.func155 rfl Tryd.ntmps155 rfl ?_
  intro a henv hst
  refine wp_seq ?_
  refine region_seq ?_
  revert a
  refine aA rfl rfl ?_
  refine aA rfl rfl ?_
  refine aA rfl rfl ?_
  intro a henv
  refine wpList_nil ?_
  refine th_n ?_
  refine wp_seq ?_
  refine wp_seq ?_
  refine region_seq ?_
  revert a
  refine mA rfl rfl ?_
  refine mA rfl rfl ?_
  intro a henv
  refine seq_step rfl (op_call henv rfl Tryd.call166 rfl (idx_no h) ?_)
  rintro e w51 ⟨rfl, hb⟩
  refine ⟨_, rfl, ?_⟩
  clear henv a; intro a henv
  replace hst := hst.call hb
  clear hb
  refine sv (v := .int .i64 (-1)) henv rfl (rn_assign henv rfl) ?_
  clear henv a; intro a henv
  refine wpList_nil ?_
  refine th_n ?_
  refine wp_seq ?_
  refine region_seq ?_
  revert a
  refine mA rfl rfl ?_
  refine sA (v := .bool false) rfl (fun _ henv => rn_bin henv rfl rfl rfl) ?_
  intro a henv
  refine wpList_nil ?_
  refine th_n ?_
  refine if_f henv rfl (rfl) ?_
  refine wp_skip ?_
  refine th_n ?_
  refine wp_seq ?_
  refine region_seq ?_
  revert a
  refine mA rfl rfl ?_
  refine aA rfl rfl ?_
  refine aA rfl rfl ?_
  refine aA rfl rfl ?_
  intro a henv
  refine wpList_nil ?_
  refine th_n ?_
  refine wp_ret ?_
  refine leave henv (res3 Tryd.results155 (RV.tmp henv rfl) (RV.tmp henv rfl) (RV.tmp henv rfl)) ?_
  exact ⟨rfl, hst.below⟩
set_option maxRecDepth 100000 in
set_option maxHeartbeats 2000000 in
theorem cut_no {s : List UInt8} {w0 : World} (h : (47 : UInt8) ∉ s) :
    Calls Tryd.prog 135 #[.string ⟨s.toArray⟩, .string ⟨#[47]⟩] w0 fun e w' => e = .returned (.tuple #[.string ⟨s.toArray⟩, .string ⟨[].toArray⟩, .bool false]) ∧ Below w0.heap.size w0 w' := by
  refine enter Tryd.func135 rfl Tryd.ntmps135 rfl ?_
  intro a henv hst
  refine wp_seq ?_
  refine region_seq ?_
  revert a
  refine aA rfl rfl ?_
  refine aA rfl rfl ?_
  refine aA rfl rfl ?_
  intro a henv
  refine wpList_nil ?_
  refine th_n ?_
  refine wp_seq ?_
  refine region_seq ?_
  revert a
  refine mA rfl rfl ?_
  refine mA rfl rfl ?_
  intro a henv
  refine seq_step rfl (op_call henv rfl Tryd.call155 rfl (cutl_no h) ?_)
  rintro e w51 ⟨rfl, hb⟩
  refine ⟨_, rfl, ?_⟩
  clear henv a; intro a henv
  replace hst := hst.call hb
  clear hb
  revert a
  refine sA (v := .string ⟨s.toArray⟩) rfl (fun _ henv => rn_extract henv rfl rfl) ?_
  refine sA (v := .string ⟨[].toArray⟩) rfl (fun _ henv => rn_extract henv rfl rfl) ?_
  refine sA (v := .bool false) rfl (fun _ henv => rn_extract henv rfl rfl) ?_
  refine aA rfl rfl ?_
  refine aA rfl rfl ?_
  refine aA rfl rfl ?_
  intro a henv
  refine wpList_nil ?_
  refine th_n ?_
  refine wp_ret ?_
  refine leave henv (res3 Tryd.results135 (RV.tmp henv rfl) (RV.tmp henv rfl) (RV.tmp henv rfl)) ?_
  exact ⟨rfl, hst.below⟩
set_option maxRecDepth 100000 in
set_option maxHeartbeats 2000000 in
theorem ixb_yes {la lb : List UInt8} {w0 : World} (h : (47 : UInt8) ∉ la) :
    Calls Tryd.prog 175 #[.string ⟨(la ++ 47 :: lb).toArray⟩, .int .u8 47] w0 fun e w' => e = .returned (.int .i64 (la.length : Nat)) ∧ Below w0.heap.size w0 w' := by
  refine enter Tryd.func175 rfl Tryd.ntmps175 rfl ?_
  intro a henv hst
  refine wp_seq ?_
  refine region_seq ?_
  refine sv (v := .int .i64 0) henv rfl (rn_assign henv rfl) ?_
  clear henv a; intro a henv
  refine wpList_nil ?_
  refine th_n ?_
  refine wp_seq ?_
  refine region_seq ?_
  revert a
  refine mA rfl rfl ?_
  refine mA rfl rfl ?_
  intro a henv
  refine seq_step rfl (op_ext (vs := #[.string ⟨(la ++ 47 :: lb).toArray⟩, .int .u8 47]) henv rfl rfl (ext_index (s := (la ++ 47 :: lb)) (c := 47)) ?_)
  clear henv a; intro a henv
  refine sv (v := .int .i64 (indexByte (la ++ 47 :: lb) (47 : Nat).toUInt8)) henv rfl (rn_assign henv rfl) ?_
  clear henv a; intro a henv
  refine wpList_nil ?_
  refine th_n ?_
  refine wp_ret ?_
  refine leave henv (res1 Tryd.results175 (RV.tmp henv rfl)) ?_
  exact ⟨congrArg (fun k => Ending.returned (Value.int .i64 k)) (index_yes h), hst.below⟩
set_option maxRecDepth 100000 in
set_option maxHeartbeats 2000000 in
theorem idx_yes {la lb : List UInt8} {w0 : World} (h : (47 : UInt8) ∉ la) :
    Calls Tryd.prog 166 #[.string ⟨(la ++ 47 :: lb).toArray⟩, .string ⟨#[47]⟩] w0 fun e w' => e = .returned (.int .i64 (la.length : Nat)) ∧ Below w0.heap.size w0 w' := by
  refine enter Tryd.func166 rfl Tryd.ntmps166 rfl ?_
  intro a henv hst
  refine wp_seq ?_
  refine region_seq ?_
  refine sv (v := .int .i64 0) henv rfl (rn_assign henv rfl) ?_
  clear henv a; intro a henv
  refine wpList_nil ?_
  refine th_n ?_
  refine wp_seq ?_
  refine region_seq ?_
  revert a
  refine mA rfl rfl ?_
  refine sA (v := .int .i64 1) rfl (fun _ henv => rn_slen (s := ⟨#[47]⟩) henv Tryd.underlying9 rfl) ?_
  refine aA rfl rfl ?_
  intro a henv
  refine wpList_nil ?_
  refine th_n ?_
  refine wp_seq ?_
  refine wp_block ?_
  refine wp_seq ?_
  refine region_seq ?_
  revert a
  refine mA rfl rfl ?_
  refine sA (v := .bool false) rfl (fun _ henv => rn_bin henv rfl rfl rfl) ?_
  refine mA rfl rfl ?_
  refine gA (v := .string ⟨#[47]⟩) rfl rfl rfl rfl (fun _ henv => rn_move henv rfl) ?_
  refine gA (v := .string ⟨(la ++ 47 :: lb).toArray⟩) rfl rfl rfl rfl (fun _ henv => rn_move henv rfl) ?_
  refine gA (v := .bool (decide ([47] = (la ++ 47 :: lb)))) rfl rfl rfl rfl (fun _ henv => rn_eqls (s := [47]) (t := (la ++ 47 :: lb)) henv rfl rfl) ?_
  refine sA (v := .bool (decide ([47] = (la ++ 47 :: lb)))) rfl (fun _ henv => rn_pick henv rfl rfl) ?_
  refine aA rfl rfl ?_
  intro a henv
  refine wpList_nil ?_
  refine th_n ?_
  refine if_split henv rfl (fun hc51 => ?_) (fun hc51 => ?_)
  · have he1 := of_decide_eq_true hc51
    have he2 := one_cut he1
    refine wp_seq ?_
    refine region_seq ?_
    refine sv (v := .int .i64 0) henv rfl (rn_assign henv rfl) ?_
    clear henv a; intro a henv
    refine wpList_nil ?_
    refine th_n ?_
    refine wp_ret ?_
    refine bl_r (th_r ?_)
    refine leave henv (res1 Tryd.results166 (RV.tmp henv rfl)) ?_
    exact ⟨by rw [he2]; rfl, hst.below⟩
  · refine wp_seq ?_
    refine region_seq ?_
    revert a
    refine mA rfl rfl ?_
    refine sA (v := .bool true) rfl (fun _ henv => rn_bin henv rfl rfl rfl) ?_
    refine aA rfl rfl ?_
    intro a henv
    refine wpList_nil ?_
    refine th_n ?_
    refine if_t henv rfl (rfl) ?_
    refine wp_seq ?_
    refine region_seq ?_
    revert a
    refine mA rfl rfl ?_
    refine mA rfl rfl ?_
    refine sA (v := .int .u8 ((([47] : List UInt8).getD 0 0).toNat : Nat)) rfl (fun _ henv => rn_idxS (i := 0) henv Tryd.underlying9 rfl rfl (by first | decide | omega)) ?_
    intro a henv
    refine seq_step rfl (op_call henv rfl Tryd.call175 rfl (ixb_yes h) ?_)
    rintro e w52 ⟨rfl, hb⟩
    refine ⟨_, rfl, ?_⟩
    clear henv a; intro a henv
    replace hst := hst.call hb
    clear hb
    refine sv (v := .int .i64 (la.length : Nat)) henv rfl (rn_assign henv rfl) ?_
    clear henv a; intro a henv
    refine wpList_nil ?_
    refine th_n ?_
    refine wp_ret ?_
    refine bl_r (th_r ?_)
    refine leave henv (res1 Tryd.results166 (RV.tmp henv rfl)) ?_
    exact ⟨rfl, hst.below⟩
set_option maxRecDepth 100000 in
set_option maxHeartbeats 2000000 in
theorem cutl_yes {la lb : List UInt8} {w0 : World} (h : (47 : UInt8) ∉ la) (hl : la.length + 1 + lb.length ≤ 65536) :
    Calls Tryd.prog 155 #[.string ⟨(la ++ 47 :: lb).toArray⟩, .string ⟨#[47]⟩] w0 fun e w' => e = .returned (.tuple #[.string ⟨la.toArray⟩, .string ⟨lb.toArray⟩, .bool true]) ∧ Below w0.heap.size w0 w' := by
  refine enter Tryd.func155 rfl Tryd.ntmps155 rfl ?_
  intro a henv hst
  refine wp_seq ?_
  refine region_seq ?_
  revert a
  refine aA rfl rfl ?_
  refine aA rfl rfl ?_
  refine aA rfl rfl ?_
  intro a henv
  refine wpList_nil ?_
  refine th_n ?_
  refine wp_seq ?_
  refine wp_seq ?_
  refine region_seq ?_
  revert a
  refine mA rfl rfl ?_
  refine mA rfl rfl ?_
  intro a henv
  refine seq_step rfl (op_call henv rfl Tryd.call166 rfl (idx_yes h) ?_)
  rintro e w51 ⟨rfl, hb⟩
  refine ⟨_, rfl, ?_⟩
  clear henv a; intro a henv
  replace hst := hst.call hb
  clear hb
  refine sv (v := .int .i64 (la.length : Nat)) henv rfl (rn_assign henv rfl) ?_
  clear henv a; intro a henv
  refine wpList_nil ?_
  refine th_n ?_
  refine wp_seq ?_
  refine region_seq ?_
  revert a
  refine mA rfl rfl ?_
  refine sA (v := .bool (decide (((la.length : Nat) : Int) ≥ (0 : Int)))) rfl (fun _ henv => rn_bin henv rfl rfl rfl) ?_
  intro a henv
  rw [show (decide (((la.length : Nat) : Int) ≥ (0 : Int))) = true from decide_eq_true (by omega)] at henv
  refine wpList_nil ?_
  refine th_n ?_
  refine if_t henv rfl (rfl) ?_
  refine wp_seq ?_
  refine region_any (n := 12) (Sk [] [] [] []) mixed rfl henv hst ?_
  clear henv hst; intro w52 henv hst
  refine tM (i := 0) [2, 9, 10, 11] rfl (by kernel_rfl) (fun _ _ _ h => h) henv rfl rfl ?_
  clear henv a; intro a henv
  refine tM (i := 1) [2, 9, 10, 11] rfl (by kernel_rfl) (fun _ _ _ h => h) henv rfl rfl ?_
  clear henv a; intro a henv
  refine tA (i := 2) [9, 10, 11] (v := .string ⟨((la ++ 47 :: lb).take la.length).toArray⟩) rfl (by kernel_rfl) (fun _ _ _ h => h) henv rfl (fun _ => rn_takeS (n := la.length) henv Tryd.underlying9 rfl rfl (by (try rw [List.length_append, List.length_cons]); omega)) ?_
  clear henv a; intro a henv
  refine tM (i := 3) [8, 10, 11] rfl (by kernel_rfl) (fun _ _ _ h => h) henv rfl rfl ?_
  clear henv a; intro a henv
  refine tM (i := 4) [7, 8, 10, 11] rfl (by kernel_rfl) (fun _ _ _ h => h) henv rfl rfl ?_
  clear henv a; intro a henv
  refine tM (i := 5) [6, 7, 8, 10, 11] rfl (by kernel_rfl) (fun _ _ _ h => h) henv rfl rfl ?_
  clear henv a; intro a henv
  refine tA (i := 6) [7, 8, 10, 11] (v := .int .i64 1) rfl (by kernel_rfl) (fun _ _ _ h => h) henv rfl (fun _ => rn_slen (s := ⟨#[47]⟩) henv Tryd.underlying9 rfl) ?_
  clear henv a; intro a henv
  refine tA (i := 7) [8, 10, 11] (v := .int .i64 (la.length + 1 : Nat)) rfl (by kernel_rfl) (fun _ _ _ h => h) henv rfl (fun _ => rn_add henv rfl rfl (by rw [IntWalk.i64_in _ (by omega)]; omega)) ?_
  clear henv a; intro a henv
  refine tA (i := 8) [10, 11] (v := .string ⟨((la ++ 47 :: lb).drop (la.length + 1)).toArray⟩) rfl (by kernel_rfl) (fun _ _ _ h => h) henv rfl (fun _ => rn_dropS (n := la.length + 1) henv Tryd.underlying9 rfl rfl (by (try rw [List.length_append, List.length_cons]); omega)) ?_
  clear henv a; intro a henv
  refine tA (i := 9) [10, 11] (v := .string ⟨((la ++ 47 :: lb).take la.length).toArray⟩) rfl (by kernel_rfl) (fun _ _ _ h => h) henv rfl (fun _ => rn_assign henv rfl) ?_
  clear henv a; intro a henv
  refine tA (i := 10) [11] (v := .string ⟨((la ++ 47 :: lb).drop (la.length + 1)).toArray⟩) rfl (by kernel_rfl) (fun _ _ _ h => h) henv rfl (fun _ => rn_assign henv rfl) ?_
  clear henv a; intro a henv
  refine tA (i := 11) [] (v := .bool true) rfl (by kernel_rfl) (fun _ _ _ h => h) henv rfl (fun _ => rn_assign henv rfl) ?_
  clear henv a; intro a henv
  refine sAny_done (by kernel_rfl) ?_ _
  refine th_n ?_
  refine wp_ret ?_
  refine th_r ?_
  refine leave henv (res3 Tryd.results155 (RV.tmp henv rfl) (RV.tmp henv rfl) (RV.tmp henv rfl)) ?_
  exact ⟨by rw [List.take_left, drop_cut1], hst.below⟩
set_option maxRecDepth 100000 in
set_option maxHeartbeats 2000000 in
theorem cut_yes {la lb : List UInt8} {w0 : World} (h : (47 : UInt8) ∉ la) (hl : la.length + 1 + lb.length ≤ 65536) :
    Calls Tryd.prog 135 #[.string ⟨(la ++ 47 :: lb).toArray⟩, .string ⟨#[47]⟩] w0 fun e w' => e = .returned (.tuple #[.string ⟨la.toArray⟩, .string ⟨lb.toArray⟩, .bool true]) ∧ Below w0.heap.size w0 w' := by
  refine enter Tryd.func135 rfl Tryd.ntmps135 rfl ?_
  intro a henv hst
  refine wp_seq ?_
  refine region_seq ?_
  revert a
  refine aA rfl rfl ?_
  refine aA rfl rfl ?_
  refine aA rfl rfl ?_
  intro a henv
  refine wpList_nil ?_
  refine th_n ?_
  refine wp_seq ?_
  refine region_seq ?_
  revert a
  refine mA rfl rfl ?_
  refine mA rfl rfl ?_
  intro a henv
  refine seq_step rfl (op_call henv rfl Tryd.call155 rfl (cutl_yes h hl) ?_)
  rintro e w51 ⟨rfl, hb⟩
  refine ⟨_, rfl, ?_⟩
  clear henv a; intro a henv
  replace hst := hst.call hb
  clear hb
  revert a
  refine sA (v := .string ⟨la.toArray⟩) rfl (fun _ henv => rn_extract henv rfl rfl) ?_
  refine sA (v := .string ⟨lb.toArray⟩) rfl (fun _ henv => rn_extract henv rfl rfl) ?_
  refine sA (v := .bool true) rfl (fun _ henv => rn_extract henv rfl rfl) ?_
  refine aA rfl rfl ?_
  refine aA rfl rfl ?_
  refine aA rfl rfl ?_
  intro a henv
  refine wpList_nil ?_
  refine th_n ?_
  refine wp_ret ?_
  refine leave henv (res3 Tryd.results135 (RV.tmp henv rfl) (RV.tmp henv rfl) (RV.tmp henv rfl)) ?_
  exact ⟨rfl, hst.below⟩
set_option maxRecDepth 100000 in
set_option maxHeartbeats 2000000 in
theorem q_wrong {p : Int} {w0 : World} :
    Calls Tryd.prog 134 #[.int .i64 p] w0 fun e w' => e = .returned (.tuple #[.agg #[.bool (neg (qn 0)), .slice none (zl (qn 0)) 0, .bool (neg (ql 0)), .slice none (zl (ql 0)) 0], .agg #[.int .i64 6, .int .i64 p]]) ∧ Below w0.heap.size w0 w' := by
  refine enter Tryd.func134 rfl Tryd.ntmps134 rfl ?_
  intro a henv hst
  refine wp_seq ?_
  refine region_seq ?_
  refine seq_step rfl (op_alloc (c := #[.bool (neg (qn 0)), .slice none (zl (qn 0)) 0, .bool (neg (ql 0)), .slice none (zl (ql 0)) 0]) henv hst rfl zero_anvil_ratio_Rat qcells ?_)
  clear henv hst a; intro a w52 g51 henv hst
  refine seq_step rfl (op_alloc (c := #[.int .i64 0, .int .i64 0]) henv hst rfl zero_anvil_api_Spot rfl ?_)
  clear henv hst a; intro a w54 g53 henv hst
  refine wpList_nil ?_
  refine th_n ?_
  refine wp_seq ?_
  refine region_seq ?_
  revert a
  refine sA (v := .agg #[.bool (neg (qn 0)), .slice none (zl (qn 0)) 0, .bool (neg (ql 0)), .slice none (zl (ql 0)) 0]) rfl (fun _ henv => rn_zrat) ?_
  refine mA rfl rfl ?_
  refine sA (v := .agg #[.int .i64 6, .int .i64 p]) rfl (fun _ henv => rn_spot2 henv rfl rfl) ?_
  intro a henv
  refine seq_step rfl (op_store (k := 1) (c' := #[.bool (neg (qn 0)), .slice none (zl (qn 0)) 0, .bool (neg (ql 0)), .slice none (zl (ql 0)) 0]) henv hst (ty_anvil_ratio_Rat.size) rfl rfl rfl rfl (by simp) rfl rfl ?_)
  clear henv hst a; intro a w55 henv hst
  refine seq_step rfl (op_store (k := 0) (c' := #[.int .i64 6, .int .i64 p]) henv hst (ty_anvil_api_Spot.size) rfl rfl rfl rfl (by simp) rfl rfl ?_)
  clear henv hst a; intro a w56 henv hst
  refine wpList_nil ?_
  refine th_n ?_
  refine wp_ret ?_
  refine leave henv (res2 Tryd.results134 (RV.cell henv ty_anvil_ratio_Rat rfl (hst.oat (k := 1) rfl) rfl) (RV.cell henv ty_anvil_api_Spot rfl (hst.oat (k := 0) rfl) rfl)) ?_
  exact ⟨rfl, hst.below⟩
set_option maxRecDepth 100000 in
set_option maxHeartbeats 4000000 in
theorem q_read_no {s : List UInt8} {w0 : World} (hl : s.length ≤ 50000) (h : (47 : UInt8) ∉ s) :
    Calls Tryd.prog 91 #[.string ⟨s.toArray⟩] w0 fun e w' => ((∃ z v, Rz s z ∧ e = .returned (.tuple #[v, .agg #[.int .i64 0, .int .i64 0]]) ∧ QAt w' v (z : Rat)) ∨ (∃ (b : Nat) (v : Value), Rb s b ∧ e = .returned (.tuple #[v, .agg #[.int .i64 6, .int .i64 (b : Nat)]]) ∧ QAt w' v 0)) ∧ Below w0.heap.size w0 w' := by
  refine enter Tryd.func91 rfl Tryd.ntmps91 rfl ?_
  intro a henv hst
  refine wp_seq ?_
  refine region_seq ?_
  refine seq_step rfl (op_alloc (c := #[.bool (neg (qn 0)), .slice none (zl (qn 0)) 0, .bool (neg (ql 0)), .slice none (zl (ql 0)) 0]) henv hst rfl zero_anvil_ratio_Rat qcells ?_)
  clear henv hst a; intro a w52 g51 henv hst
  refine seq_step rfl (op_alloc (c := #[.int .i64 0, .int .i64 0]) henv hst rfl zero_anvil_api_Spot rfl ?_)
  clear henv hst a; intro a w54 g53 henv hst
  refine wpList_nil ?_
  refine th_n ?_
  refine wp_seq ?_
  refine wp_seq ?_
  refine region_seq ?_
  revert a
  refine mA rfl rfl ?_
  refine sA (v := .int .i64 (s.length : Nat)) rfl (fun _ henv => rn_lenS henv Tryd.underlying9 rfl) ?_
  refine sA (v := .bool (decide (((s.length : Nat) : Int) > (65536 : Int)))) rfl (fun _ henv => rn_bin henv rfl rfl rfl) ?_
  intro a henv
  rw [show (decide (((s.length : Nat) : Int) > (65536 : Int))) = false from decide_eq_false (by omega)] at henv
  refine wpList_nil ?_
  refine th_n ?_
  refine if_f henv rfl (rfl) ?_
  refine wp_skip ?_
  refine th_n ?_
  refine wp_seq ?_
  refine region_seq ?_
  refine sv (v := .func (.func 134) #[] #[]) henv rfl (rn_assign henv rfl) ?_
  clear henv a; intro a henv
  refine wpList_nil ?_
  refine th_n ?_
  refine wp_seq ?_
  refine region_seq ?_
  refine sv (v := .string ⟨s.toArray⟩) henv rfl (rn_move henv rfl) ?_
  clear henv a; intro a henv
  refine seq_step rfl (op_call henv rfl Tryd.call135 rfl (cut_no h) ?_)
  rintro e w55 ⟨rfl, hb⟩
  refine ⟨_, rfl, ?_⟩
  clear henv a; intro a henv
  replace hst := hst.call hb
  clear hb
  revert a
  refine mA rfl rfl ?_
  refine sA (v := .string ⟨s.toArray⟩) rfl (fun _ henv => rn_extract henv rfl rfl) ?_
  refine sA (v := .string ⟨[].toArray⟩) rfl (fun _ henv => rn_extract henv rfl rfl) ?_
  refine sA (v := .bool false) rfl (fun _ henv => rn_extract henv rfl rfl) ?_
  refine aA rfl rfl ?_
  refine aA rfl rfl ?_
  refine aA rfl rfl ?_
  intro a henv
  refine wpList_nil ?_
  refine th_n ?_
  refine wp_seq ?_
  refine region_seq ?_
  refine sv (v := .string ⟨s.toArray⟩) henv rfl (rn_move henv rfl) ?_
  clear henv a; intro a henv
  refine seq_step rfl (op_call henv rfl Tryd.call113 rfl (iread_w (t := s) (by omega)) ?_)
  rintro e w59 ⟨z1, e1, a1, _, rfl, ⟨A56, c57, rfl, hz58⟩, hw1, hb⟩
  refine ⟨_, rfl, ?_⟩
  clear henv a; intro a henv
  replace hst := (hst.call hb).addZ hz58 ⟨nou_bk rfl, nou_bk rfl, trivial⟩
  clear hz58
  clear hb
  revert a
  refine mA rfl rfl ?_
  refine sA (v := .agg #[.bool (neg z1), .slice A56 (zl z1) c57]) rfl (fun _ henv => rn_extract henv rfl rfl) ?_
  refine sA (v := .agg #[.int .i64 e1, .int .i64 a1]) rfl (fun _ henv => rn_extract henv rfl rfl) ?_
  intro a henv
  refine seq_step rfl (op_alloc (c := #[.bool (neg 0), .slice none (zl 0) 0]) henv hst rfl zero_anvil_integer_Int zcells ?_)
  clear henv hst a; intro a w61 g60 henv hst
  refine seq_step rfl (op_alloc (c := #[.int .i64 0, .int .i64 0]) henv hst rfl zero_anvil_api_Spot rfl ?_)
  clear henv hst a; intro a w63 g62 henv hst
  refine seq_step rfl (op_store (k := 1) (c' := #[.bool (neg z1), .slice A56 (zl z1) c57]) henv hst (ty_anvil_integer_Int.size) rfl rfl rfl rfl (by simp) rfl rfl ?_)
  clear henv hst a; intro a w64 henv hst
  refine seq_step rfl (op_store (k := 0) (c' := #[.int .i64 e1, .int .i64 a1]) henv hst (ty_anvil_api_Spot.size) rfl rfl rfl rfl (by simp) rfl rfl ?_)
  clear henv hst a; intro a w65 henv hst
  refine wpList_nil ?_
  refine th_n ?_
  refine wp_seq ?_
  refine wp_seq ?_
  refine region_seq ?_
  revert a
  refine sA (v := .pointer (some ⟨g62, 0, none⟩)) rfl (fun _ henv => rn_fieldAddr henv fd_anvil_api_Spot_0 (ty_anvil_api_Errno.size) (by decide) rfl) ?_
  refine sA (v := .int .i64 e1) rfl (fun _ henv => rn_load1 henv ty_anvil_api_Errno rfl (hst.oat (k := 0) rfl) rfl) ?_
  refine sA (v := .bool (e1 != (0 : Int))) rfl (fun _ henv => rn_bin henv rfl rfl rfl) ?_
  intro a henv
  refine wpList_nil ?_
  refine th_n ?_
  refine if_split henv rfl (fun hc66 => ?_) (fun hc66 => ?_)
  · obtain ⟨rfl, c1, rfl, hrb1⟩ := wd_bad hw1 hc66
    have hbl1 := rb_le hrb1
    refine wp_seq ?_
    refine region_seq ?_
    revert a
    refine mA rfl rfl ?_
    refine sA (v := .pointer (some ⟨g62, 1, none⟩)) rfl (fun _ henv => rn_fieldAddr henv fd_anvil_api_Spot_1 (ty_int.size) (by decide) rfl) ?_
    refine sA (v := .int .i64 (c1 : Nat)) rfl (fun _ henv => rn_load1 henv ty_int rfl (hst.oat (k := 0) rfl) rfl) ?_
    intro a henv
    refine seq_step rfl (op_callc (vs := #[.int .i64 (c1 : Nat)]) henv rfl Tryd.call134 rfl rfl (calls_app (by simp) (q_wrong (p := ((c1 : Nat) : Int)))) ?_)
    rintro e w67 ⟨rfl, hb⟩
    refine ⟨_, rfl, ?_⟩
    clear henv a; intro a henv
    replace hst := hst.call hb
    clear hb
    revert a
    refine sA (v := .agg #[.bool (neg (qn 0)), .slice none (zl (qn 0)) 0, .bool (neg (ql 0)), .slice none (zl (ql 0)) 0]) rfl (fun _ henv => rn_extract henv rfl rfl) ?_
    refine sA (v := .agg #[.int .i64 6, .int .i64 (c1 : Nat)]) rfl (fun _ henv => rn_extract henv rfl rfl) ?_
    intro a henv
    refine seq_step rfl (op_store (k := 3) (c' := #[.bool (neg (qn 0)), .slice none (zl (qn 0)) 0, .bool (neg (ql 0)), .slice none (zl (ql 0)) 0]) henv hst (ty_anvil_ratio_Rat.size) rfl rfl rfl rfl (by simp) rfl rfl ?_)
    clear henv hst a; intro a w68 henv hst
    refine seq_step rfl (op_store (k := 2) (c' := #[.int .i64 6, .int .i64 (c1 : Nat)]) henv hst (ty_anvil_api_Spot.size) rfl rfl rfl rfl (by simp) rfl rfl ?_)
    clear henv hst a; intro a w69 henv hst
    refine wpList_nil ?_
    refine th_n ?_
    refine wp_ret ?_
    refine th_r ?_
    refine leave henv (res2 Tryd.results91 (RV.cell henv ty_anvil_ratio_Rat rfl (hst.oat (k := 3) rfl) rfl) (RV.cell henv ty_anvil_api_Spot rfl (hst.oat (k := 2) rfl) rfl)) ?_
    exact ⟨.inr ⟨c1, _, hrb1, rfl, qat_zero _⟩, hst.below⟩
  · obtain ⟨rfl, rfl, hrz1⟩ := wd_ok hw1 hc66
    have hzl1 := rz_zl9 hrz1
    refine wp_skip ?_
    refine th_n ?_
    refine wp_seq ?_
    refine wp_seq ?_
    refine region_seq ?_
    revert a
    refine mA rfl rfl ?_
    refine sA (v := .bool true) rfl (fun _ henv => rn_un henv rfl rfl) ?_
    intro a henv
    refine wpList_nil ?_
    refine th_n ?_
    refine if_t henv rfl (rfl) ?_
    refine wp_seq ?_
    refine region_seq ?_
    refine sv (v := .agg #[.bool (neg z1), .slice A56 (zl z1) c57]) henv rfl (rn_load0 henv ty_anvil_integer_Int rfl (hst.oat (k := 1) rfl) rfl) ?_
    clear henv a; intro a henv
    refine seq_step rfl (op_call henv rfl Tryd.call65 rfl (of_int_q (z := z1) (show ZIn _ A56 c57 z1 from hst.pat (k := 0) rfl)) ?_)
    rintro e w76 ⟨_, rfl, ⟨A70, c71, B72, d73, rfl, hz74, hz75⟩, hb⟩
    refine ⟨_, rfl, ?_⟩
    clear henv a; intro a henv
    replace hst := ((hst.call hb).addZ hz74 ⟨nou_bk rfl, nou_bk rfl, nou_bk rfl, nou_bk rfl, trivial⟩).addZ hz75 ⟨nou_bk rfl, nou_bk rfl, nou_bk rfl, nou_bk rfl, trivial⟩
    clear hz74 hz75
    clear hb
    refine sv (v := .agg #[.int .i64 0, .int .i64 0]) henv rfl (rn_spot0) ?_
    clear henv a; intro a henv
    refine seq_step rfl (op_store (k := 3) (c' := #[.bool (neg (qn (z1 : Rat))), .slice A70 (zl (qn (z1 : Rat))) c71, .bool (neg (ql (z1 : Rat))), .slice B72 (zl (ql (z1 : Rat))) d73]) henv hst (ty_anvil_ratio_Rat.size) rfl rfl rfl rfl (by simp) rfl rfl ?_)
    clear henv hst a; intro a w77 henv hst
    refine seq_step rfl (op_store (k := 2) (c' := #[.int .i64 0, .int .i64 0]) henv hst (ty_anvil_api_Spot.size) rfl rfl rfl rfl (by simp) rfl rfl ?_)
    clear henv hst a; intro a w78 henv hst
    refine wpList_nil ?_
    refine th_n ?_
    refine wp_ret ?_
    refine th_r ?_
    refine leave henv (res2 Tryd.results91 (RV.cell henv ty_anvil_ratio_Rat rfl (hst.oat (k := 3) rfl) rfl) (RV.cell henv ty_anvil_api_Spot rfl (hst.oat (k := 2) rfl) rfl)) ?_
    exact ⟨.inl ⟨z1, _, hrz1, rfl, q_at rfl rfl (hst.pat (k := 1) rfl) (hst.pat (k := 0) rfl)⟩, hst.below⟩
set_option maxRecDepth 100000 in
set_option maxHeartbeats 8000000 in
theorem q_read_yes {la lb : List UInt8} {w0 : World} (hl0 : la.length + 1 + lb.length ≤ 50000) (h : (47 : UInt8) ∉ la) :
    Calls Tryd.prog 91 #[.string ⟨(la ++ 47 :: lb).toArray⟩] w0 fun e w' => ((∃ n d v, Rz la n ∧ Rz lb d ∧ 0 < d ∧ textQ (Rat.divInt n d) = la ++ 47 :: lb ∧ e = .returned (.tuple #[v, .agg #[.int .i64 0, .int .i64 0]]) ∧ QAt w' v (Rat.divInt n d)) ∨ (∃ (q : Int) (v : Value), BadQ la lb q ∧ e = .returned (.tuple #[v, .agg #[.int .i64 6, .int .i64 q]]) ∧ QAt w' v 0)) ∧ Below w0.heap.size w0 w' := by
  have hl : la.length + 1 + lb.length ≤ 65536 := by omega
  have hll : (la ++ 47 :: lb).length = la.length + 1 + lb.length := by rw [List.length_append, List.length_cons]; omega
  refine enter Tryd.func91 rfl Tryd.ntmps91 rfl ?_
  intro a henv hst
  refine wp_seq ?_
  refine region_seq ?_
  refine seq_step rfl (op_alloc (c := #[.bool (neg (qn 0)), .slice none (zl (qn 0)) 0, .bool (neg (ql 0)), .slice none (zl (ql 0)) 0]) henv hst rfl zero_anvil_ratio_Rat qcells ?_)
  clear henv hst a; intro a w52 g51 henv hst
  refine seq_step rfl (op_alloc (c := #[.int .i64 0, .int .i64 0]) henv hst rfl zero_anvil_api_Spot rfl ?_)
  clear henv hst a; intro a w54 g53 henv hst
  refine wpList_nil ?_
  refine th_n ?_
  refine wp_seq ?_
  refine wp_seq ?_
  refine region_seq ?_
  revert a
  refine mA rfl rfl ?_
  refine sA (v := .int .i64 ((la ++ 47 :: lb).length : Nat)) rfl (fun _ henv => rn_lenS henv Tryd.underlying9 rfl) ?_
  refine sA (v := .bool (decide ((((la ++ 47 :: lb).length : Nat) : Int) > (65536 : Int)))) rfl (fun _ henv => rn_bin henv rfl rfl rfl) ?_
  intro a henv
  rw [show (decide ((((la ++ 47 :: lb).length : Nat) : Int) > (65536 : Int))) = false from decide_eq_false (by omega)] at henv
  refine wpList_nil ?_
  refine th_n ?_
  refine if_f henv rfl (rfl) ?_
  refine wp_skip ?_
  refine th_n ?_
  refine wp_seq ?_
  refine region_seq ?_
  refine sv (v := .func (.func 134) #[] #[]) henv rfl (rn_assign henv rfl) ?_
  clear henv a; intro a henv
  refine wpList_nil ?_
  refine th_n ?_
  refine wp_seq ?_
  refine region_seq ?_
  refine sv (v := .string ⟨(la ++ 47 :: lb).toArray⟩) henv rfl (rn_move henv rfl) ?_
  clear henv a; intro a henv
  refine seq_step rfl (op_call henv rfl Tryd.call135 rfl (cut_yes h hl) ?_)
  rintro e w55 ⟨rfl, hb⟩
  refine ⟨_, rfl, ?_⟩
  clear henv a; intro a henv
  replace hst := hst.call hb
  clear hb
  revert a
  refine mA rfl rfl ?_
  refine sA (v := .string ⟨la.toArray⟩) rfl (fun _ henv => rn_extract henv rfl rfl) ?_
  refine sA (v := .string ⟨lb.toArray⟩) rfl (fun _ henv => rn_extract henv rfl rfl) ?_
  refine sA (v := .bool true) rfl (fun _ henv => rn_extract henv rfl rfl) ?_
  refine aA rfl rfl ?_
  refine aA rfl rfl ?_
  refine aA rfl rfl ?_
  intro a henv
  refine wpList_nil ?_
  refine th_n ?_
  refine wp_seq ?_
  refine region_seq ?_
  refine sv (v := .string ⟨la.toArray⟩) henv rfl (rn_move henv rfl) ?_
  clear henv a; intro a henv
  refine seq_step rfl (op_call henv rfl Tryd.call113 rfl (iread_w (t := la) (by omega)) ?_)
  rintro e w59 ⟨z1, e1, a1, _, rfl, ⟨A56, c57, rfl, hz58⟩, hw1, hb⟩
  refine ⟨_, rfl, ?_⟩
  clear henv a; intro a henv
  replace hst := (hst.call hb).addZ hz58 ⟨nou_bk rfl, nou_bk rfl, trivial⟩
  clear hz58
  clear hb
  revert a
  refine mA rfl rfl ?_
  refine sA (v := .agg #[.bool (neg z1), .slice A56 (zl z1) c57]) rfl (fun _ henv => rn_extract henv rfl rfl) ?_
  refine sA (v := .agg #[.int .i64 e1, .int .i64 a1]) rfl (fun _ henv => rn_extract henv rfl rfl) ?_
  intro a henv
  refine seq_step rfl (op_alloc (c := #[.bool (neg 0), .slice none (zl 0) 0]) henv hst rfl zero_anvil_integer_Int zcells ?_)
  clear henv hst a; intro a w61 g60 henv hst
  refine seq_step rfl (op_alloc (c := #[.int .i64 0, .int .i64 0]) henv hst rfl zero_anvil_api_Spot rfl ?_)
  clear henv hst a; intro a w63 g62 henv hst
  refine seq_step rfl (op_store (k := 1) (c' := #[.bool (neg z1), .slice A56 (zl z1) c57]) henv hst (ty_anvil_integer_Int.size) rfl rfl rfl rfl (by simp) rfl rfl ?_)
  clear henv hst a; intro a w64 henv hst
  refine seq_step rfl (op_store (k := 0) (c' := #[.int .i64 e1, .int .i64 a1]) henv hst (ty_anvil_api_Spot.size) rfl rfl rfl rfl (by simp) rfl rfl ?_)
  clear henv hst a; intro a w65 henv hst
  refine wpList_nil ?_
  refine th_n ?_
  refine wp_seq ?_
  refine wp_seq ?_
  refine region_seq ?_
  revert a
  refine sA (v := .pointer (some ⟨g62, 0, none⟩)) rfl (fun _ henv => rn_fieldAddr henv fd_anvil_api_Spot_0 (ty_anvil_api_Errno.size) (by decide) rfl) ?_
  refine sA (v := .int .i64 e1) rfl (fun _ henv => rn_load1 henv ty_anvil_api_Errno rfl (hst.oat (k := 0) rfl) rfl) ?_
  refine sA (v := .bool (e1 != (0 : Int))) rfl (fun _ henv => rn_bin henv rfl rfl rfl) ?_
  intro a henv
  refine wpList_nil ?_
  refine th_n ?_
  refine if_split henv rfl (fun hc66 => ?_) (fun hc66 => ?_)
  · obtain ⟨rfl, c1, rfl, hrb1⟩ := wd_bad hw1 hc66
    have hbl1 := rb_le hrb1
    refine wp_seq ?_
    refine region_seq ?_
    revert a
    refine mA rfl rfl ?_
    refine sA (v := .pointer (some ⟨g62, 1, none⟩)) rfl (fun _ henv => rn_fieldAddr henv fd_anvil_api_Spot_1 (ty_int.size) (by decide) rfl) ?_
    refine sA (v := .int .i64 (c1 : Nat)) rfl (fun _ henv => rn_load1 henv ty_int rfl (hst.oat (k := 0) rfl) rfl) ?_
    intro a henv
    refine seq_step rfl (op_callc (vs := #[.int .i64 (c1 : Nat)]) henv rfl Tryd.call134 rfl rfl (calls_app (by simp) (q_wrong (p := ((c1 : Nat) : Int)))) ?_)
    rintro e w67 ⟨rfl, hb⟩
    refine ⟨_, rfl, ?_⟩
    clear henv a; intro a henv
    replace hst := hst.call hb
    clear hb
    revert a
    refine sA (v := .agg #[.bool (neg (qn 0)), .slice none (zl (qn 0)) 0, .bool (neg (ql 0)), .slice none (zl (ql 0)) 0]) rfl (fun _ henv => rn_extract henv rfl rfl) ?_
    refine sA (v := .agg #[.int .i64 6, .int .i64 (c1 : Nat)]) rfl (fun _ henv => rn_extract henv rfl rfl) ?_
    intro a henv
    refine seq_step rfl (op_store (k := 3) (c' := #[.bool (neg (qn 0)), .slice none (zl (qn 0)) 0, .bool (neg (ql 0)), .slice none (zl (ql 0)) 0]) henv hst (ty_anvil_ratio_Rat.size) rfl rfl rfl rfl (by simp) rfl rfl ?_)
    clear henv hst a; intro a w68 henv hst
    refine seq_step rfl (op_store (k := 2) (c' := #[.int .i64 6, .int .i64 (c1 : Nat)]) henv hst (ty_anvil_api_Spot.size) rfl rfl rfl rfl (by simp) rfl rfl ?_)
    clear henv hst a; intro a w69 henv hst
    refine wpList_nil ?_
    refine th_n ?_
    refine wp_ret ?_
    refine th_r ?_
    refine leave henv (res2 Tryd.results91 (RV.cell henv ty_anvil_ratio_Rat rfl (hst.oat (k := 3) rfl) rfl) (RV.cell henv ty_anvil_api_Spot rfl (hst.oat (k := 2) rfl) rfl)) ?_
    exact ⟨.inr ⟨_, _, .inl ⟨_, hrb1, rfl⟩, rfl, qat_zero _⟩, hst.below⟩
  · obtain ⟨rfl, rfl, hrz1⟩ := wd_ok hw1 hc66
    have hzl1 := rz_zl9 hrz1
    refine wp_skip ?_
    refine th_n ?_
    refine wp_seq ?_
    refine wp_seq ?_
    refine region_seq ?_
    revert a
    refine mA rfl rfl ?_
    refine sA (v := .bool false) rfl (fun _ henv => rn_un henv rfl rfl) ?_
    intro a henv
    refine wpList_nil ?_
    refine th_n ?_
    refine if_f henv rfl (rfl) ?_
    refine wp_skip ?_
    refine th_n ?_
    refine wp_seq ?_
    refine region_seq ?_
    revert a
    refine mA rfl rfl ?_
    refine sA (v := .int .i64 (la.length : Nat)) rfl (fun _ henv => rn_lenS henv Tryd.underlying9 rfl) ?_
    refine sA (v := .int .i64 (la.length + 1 : Nat)) rfl (fun _ henv => rn_add henv rfl rfl (by rw [IntWalk.i64_in _ (by omega)]; omega)) ?_
    refine aA rfl rfl ?_
    intro a henv
    refine wpList_nil ?_
    refine th_n ?_
    refine wp_seq ?_
    refine wp_seq ?_
    refine region_seq ?_
    revert a
    refine mA rfl rfl ?_
    refine sA (v := .bool (decide (lb = []))) rfl (fun _ henv => rn_eqls (s := lb) (t := []) henv rfl rfl) ?_
    refine mA rfl rfl ?_
    intro a henv
    rcases bool_em (decide (lb = [])) with hg70 | hg70
    · rw [hg70] at henv
      have hb0 := of_decide_eq_true hg70
      revert a
      refine kA rfl rfl rfl rfl rfl ?_
      refine kA rfl rfl rfl rfl rfl ?_
      refine kA rfl rfl rfl rfl rfl ?_
      refine sA (v := .bool true) rfl (fun _ henv => rn_pick henv rfl rfl) ?_
      refine mA rfl rfl ?_
      refine kA rfl rfl rfl rfl rfl ?_
      refine kA rfl rfl rfl rfl rfl ?_
      refine kA rfl rfl rfl rfl rfl ?_
      refine sA (v := .bool true) rfl (fun _ henv => rn_pick henv rfl rfl) ?_
      intro a henv
      refine wpList_nil ?_
      refine th_n ?_
      refine if_t henv rfl (rfl) ?_
      refine wp_seq ?_
      refine region_seq ?_
      revert a
      refine mA rfl rfl ?_
      refine mA rfl rfl ?_
      intro a henv
      refine seq_step rfl (op_callc (vs := #[.int .i64 (la.length + 1 : Nat)]) henv rfl Tryd.call134 rfl rfl (calls_app (by simp) (q_wrong (p := ((la.length + 1 : Nat) : Int)))) ?_)
      rintro e w71 ⟨rfl, hb⟩
      refine ⟨_, rfl, ?_⟩
      clear henv a; intro a henv
      replace hst := hst.call hb
      clear hb
      revert a
      refine sA (v := .agg #[.bool (neg (qn 0)), .slice none (zl (qn 0)) 0, .bool (neg (ql 0)), .slice none (zl (ql 0)) 0]) rfl (fun _ henv => rn_extract henv rfl rfl) ?_
      refine sA (v := .agg #[.int .i64 6, .int .i64 (la.length + 1 : Nat)]) rfl (fun _ henv => rn_extract henv rfl rfl) ?_
      intro a henv
      refine seq_step rfl (op_store (k := 3) (c' := #[.bool (neg (qn 0)), .slice none (zl (qn 0)) 0, .bool (neg (ql 0)), .slice none (zl (ql 0)) 0]) henv hst (ty_anvil_ratio_Rat.size) rfl rfl rfl rfl (by simp) rfl rfl ?_)
      clear henv hst a; intro a w72 henv hst
      refine seq_step rfl (op_store (k := 2) (c' := #[.int .i64 6, .int .i64 (la.length + 1 : Nat)]) henv hst (ty_anvil_api_Spot.size) rfl rfl rfl rfl (by simp) rfl rfl ?_)
      clear henv hst a; intro a w73 henv hst
      refine wpList_nil ?_
      refine th_n ?_
      refine wp_ret ?_
      refine th_r ?_
      refine leave henv (res2 Tryd.results91 (RV.cell henv ty_anvil_ratio_Rat rfl (hst.oat (k := 3) rfl) rfl) (RV.cell henv ty_anvil_api_Spot rfl (hst.oat (k := 2) rfl) rfl)) ?_
      exact ⟨.inr ⟨_, _, .inr (.inl ⟨hb0, rfl⟩), rfl, qat_zero _⟩, hst.below⟩
    · rw [hg70] at henv
      have hb0 := of_decide_eq_false hg70
      have hbl0 : 0 < lb.length := List.length_pos_iff.2 hb0
      revert a
      refine gA (v := .string ⟨lb.toArray⟩) rfl rfl rfl rfl (fun _ henv => rn_move henv rfl) ?_
      refine gA (v := .int .u8 ((lb.getD 0 0).toNat : Nat)) rfl rfl rfl rfl (fun _ henv => rn_idxS (i := 0) henv Tryd.underlying9 rfl rfl (by omega)) ?_
      refine gA (v := .bool ((((lb.getD 0 0).toNat : Nat) : Int) == (45 : Int))) rfl rfl rfl rfl (fun _ henv => rn_bin henv rfl rfl rfl) ?_
      refine sA (v := .bool ((((lb.getD 0 0).toNat : Nat) : Int) == (45 : Int))) rfl (fun _ henv => rn_pick henv rfl rfl) ?_
      refine mA rfl rfl ?_
      intro a henv
      rcases bool_em ((((lb.getD 0 0).toNat : Nat) : Int) == (45 : Int)) with hg74 | hg74
      · rw [hg74] at henv
        have hb1 := eq_of_beq hg74
        replace hb1 : (lb.getD 0 0).toNat = 45 := by omega
        revert a
        refine kA rfl rfl rfl rfl rfl ?_
        refine kA rfl rfl rfl rfl rfl ?_
        refine kA rfl rfl rfl rfl rfl ?_
        refine sA (v := .bool true) rfl (fun _ henv => rn_pick henv rfl rfl) ?_
        intro a henv
        refine wpList_nil ?_
        refine th_n ?_
        refine if_t henv rfl (rfl) ?_
        refine wp_seq ?_
        refine region_seq ?_
        revert a
        refine mA rfl rfl ?_
        refine mA rfl rfl ?_
        intro a henv
        refine seq_step rfl (op_callc (vs := #[.int .i64 (la.length + 1 : Nat)]) henv rfl Tryd.call134 rfl rfl (calls_app (by simp) (q_wrong (p := ((la.length + 1 : Nat) : Int)))) ?_)
        rintro e w75 ⟨rfl, hb⟩
        refine ⟨_, rfl, ?_⟩
        clear henv a; intro a henv
        replace hst := hst.call hb
        clear hb
        revert a
        refine sA (v := .agg #[.bool (neg (qn 0)), .slice none (zl (qn 0)) 0, .bool (neg (ql 0)), .slice none (zl (ql 0)) 0]) rfl (fun _ henv => rn_extract henv rfl rfl) ?_
        refine sA (v := .agg #[.int .i64 6, .int .i64 (la.length + 1 : Nat)]) rfl (fun _ henv => rn_extract henv rfl rfl) ?_
        intro a henv
        refine seq_step rfl (op_store (k := 3) (c' := #[.bool (neg (qn 0)), .slice none (zl (qn 0)) 0, .bool (neg (ql 0)), .slice none (zl (ql 0)) 0]) henv hst (ty_anvil_ratio_Rat.size) rfl rfl rfl rfl (by simp) rfl rfl ?_)
        clear henv hst a; intro a w76 henv hst
        refine seq_step rfl (op_store (k := 2) (c' := #[.int .i64 6, .int .i64 (la.length + 1 : Nat)]) henv hst (ty_anvil_api_Spot.size) rfl rfl rfl rfl (by simp) rfl rfl ?_)
        clear henv hst a; intro a w77 henv hst
        refine wpList_nil ?_
        refine th_n ?_
        refine wp_ret ?_
        refine th_r ?_
        refine leave henv (res2 Tryd.results91 (RV.cell henv ty_anvil_ratio_Rat rfl (hst.oat (k := 3) rfl) rfl) (RV.cell henv ty_anvil_api_Spot rfl (hst.oat (k := 2) rfl) rfl)) ?_
        exact ⟨.inr ⟨_, _, .inr (.inr (.inl ⟨hb1, rfl⟩)), rfl, qat_zero _⟩, hst.below⟩
      · rw [hg74] at henv
        have hb1 := ne_of_beq_false hg74
        replace hb1 : (lb.getD 0 0).toNat ≠ 45 := by omega
        revert a
        refine gA (v := .string ⟨lb.toArray⟩) rfl rfl rfl rfl (fun _ henv => rn_move henv rfl) ?_
        refine gA (v := .int .u8 ((lb.getD 0 0).toNat : Nat)) rfl rfl rfl rfl (fun _ henv => rn_idxS (i := 0) henv Tryd.underlying9 rfl rfl (by omega)) ?_
        refine gA (v := .bool ((((lb.getD 0 0).toNat : Nat) : Int) == (48 : Int))) rfl rfl rfl rfl (fun _ henv => rn_bin henv rfl rfl rfl) ?_
        refine sA (v := .bool ((((lb.getD 0 0).toNat : Nat) : Int) == (48 : Int))) rfl (fun _ henv => rn_pick henv rfl rfl) ?_
        intro a henv
        refine wpList_nil ?_
        refine th_n ?_
        refine if_split henv rfl (fun hc78 => ?_) (fun hc78 => ?_)
        · have hb2 := eq_of_beq hc78
          replace hb2 : (lb.getD 0 0).toNat = 48 := by omega
          refine wp_seq ?_
          refine region_seq ?_
          revert a
          refine mA rfl rfl ?_
          refine mA rfl rfl ?_
          intro a henv
          refine seq_step rfl (op_callc (vs := #[.int .i64 (la.length + 1 : Nat)]) henv rfl Tryd.call134 rfl rfl (calls_app (by simp) (q_wrong (p := ((la.length + 1 : Nat) : Int)))) ?_)
          rintro e w79 ⟨rfl, hb⟩
          refine ⟨_, rfl, ?_⟩
          clear henv a; intro a henv
          replace hst := hst.call hb
          clear hb
          revert a
          refine sA (v := .agg #[.bool (neg (qn 0)), .slice none (zl (qn 0)) 0, .bool (neg (ql 0)), .slice none (zl (ql 0)) 0]) rfl (fun _ henv => rn_extract henv rfl rfl) ?_
          refine sA (v := .agg #[.int .i64 6, .int .i64 (la.length + 1 : Nat)]) rfl (fun _ henv => rn_extract henv rfl rfl) ?_
          intro a henv
          refine seq_step rfl (op_store (k := 3) (c' := #[.bool (neg (qn 0)), .slice none (zl (qn 0)) 0, .bool (neg (ql 0)), .slice none (zl (ql 0)) 0]) henv hst (ty_anvil_ratio_Rat.size) rfl rfl rfl rfl (by simp) rfl rfl ?_)
          clear henv hst a; intro a w80 henv hst
          refine seq_step rfl (op_store (k := 2) (c' := #[.int .i64 6, .int .i64 (la.length + 1 : Nat)]) henv hst (ty_anvil_api_Spot.size) rfl rfl rfl rfl (by simp) rfl rfl ?_)
          clear henv hst a; intro a w81 henv hst
          refine wpList_nil ?_
          refine th_n ?_
          refine wp_ret ?_
          refine th_r ?_
          refine leave henv (res2 Tryd.results91 (RV.cell henv ty_anvil_ratio_Rat rfl (hst.oat (k := 3) rfl) rfl) (RV.cell henv ty_anvil_api_Spot rfl (hst.oat (k := 2) rfl) rfl)) ?_
          exact ⟨.inr ⟨_, _, .inr (.inr (.inr (.inl ⟨hb2, rfl⟩))), rfl, qat_zero _⟩, hst.below⟩
        · have hb2 := ne_of_beq_false hc78
          replace hb2 : (lb.getD 0 0).toNat ≠ 48 := by omega
          refine wp_skip ?_
          refine th_n ?_
          refine wp_seq ?_
          refine region_seq ?_
          refine sv (v := .string ⟨lb.toArray⟩) henv rfl (rn_move henv rfl) ?_
          clear henv a; intro a henv
          refine seq_step rfl (op_call henv rfl Tryd.call113 rfl (iread_w (t := lb) (by omega)) ?_)
          rintro e w85 ⟨z2, e2, a2, _, rfl, ⟨A82, c83, rfl, hz84⟩, hw2, hb⟩
          refine ⟨_, rfl, ?_⟩
          clear henv a; intro a henv
          replace hst := (hst.call hb).addZ hz84 ⟨nou_bk rfl, nou_bk rfl, nou_bk rfl, nou_bk rfl, trivial⟩
          clear hz84
          clear hb
          revert a
          refine mA rfl rfl ?_
          refine sA (v := .agg #[.bool (neg z2), .slice A82 (zl z2) c83]) rfl (fun _ henv => rn_extract henv rfl rfl) ?_
          refine sA (v := .agg #[.int .i64 e2, .int .i64 a2]) rfl (fun _ henv => rn_extract henv rfl rfl) ?_
          intro a henv
          refine seq_step rfl (op_alloc (c := #[.bool (neg 0), .slice none (zl 0) 0]) henv hst rfl zero_anvil_integer_Int zcells ?_)
          clear henv hst a; intro a w87 g86 henv hst
          refine seq_step rfl (op_store (k := 0) (c' := #[.bool (neg z2), .slice A82 (zl z2) c83]) henv hst (ty_anvil_integer_Int.size) rfl rfl rfl rfl (by simp) rfl rfl ?_)
          clear henv hst a; intro a w88 henv hst
          refine seq_step rfl (op_store (k := 1) (c' := #[.int .i64 e2, .int .i64 a2]) henv hst (ty_anvil_api_Spot.size) rfl rfl rfl rfl (by simp) rfl rfl ?_)
          clear henv hst a; intro a w89 henv hst
          refine wpList_nil ?_
          refine th_n ?_
          refine wp_seq ?_
          refine wp_seq ?_
          refine region_seq ?_
          revert a
          refine sA (v := .pointer (some ⟨g62, 0, none⟩)) rfl (fun _ henv => rn_fieldAddr henv fd_anvil_api_Spot_0 (ty_anvil_api_Errno.size) (by decide) rfl) ?_
          refine sA (v := .int .i64 e2) rfl (fun _ henv => rn_load1 henv ty_anvil_api_Errno rfl (hst.oat (k := 1) rfl) rfl) ?_
          refine sA (v := .bool (e2 != (0 : Int))) rfl (fun _ henv => rn_bin henv rfl rfl rfl) ?_
          intro a henv
          refine wpList_nil ?_
          refine th_n ?_
          refine if_split henv rfl (fun hc90 => ?_) (fun hc90 => ?_)
          · obtain ⟨rfl, c2, rfl, hrb2⟩ := wd_bad hw2 hc90
            have hbl2 := rb_le hrb2
            refine wp_seq ?_
            refine region_seq ?_
            revert a
            refine mA rfl rfl ?_
            refine mA rfl rfl ?_
            refine sA (v := .pointer (some ⟨g62, 1, none⟩)) rfl (fun _ henv => rn_fieldAddr henv fd_anvil_api_Spot_1 (ty_int.size) (by decide) rfl) ?_
            refine sA (v := .int .i64 (c2 : Nat)) rfl (fun _ henv => rn_load1 henv ty_int rfl (hst.oat (k := 1) rfl) rfl) ?_
            refine sA (v := .int .i64 ((la.length + 1) + c2 : Nat)) rfl (fun _ henv => rn_add henv rfl rfl (by rw [IntWalk.i64_in _ (by omega)]; omega)) ?_
            intro a henv
            refine seq_step rfl (op_callc (vs := #[.int .i64 ((la.length + 1) + c2 : Nat)]) henv rfl Tryd.call134 rfl rfl (calls_app (by simp) (q_wrong (p := (((la.length + 1) + c2 : Nat) : Int)))) ?_)
            rintro e w91 ⟨rfl, hb⟩
            refine ⟨_, rfl, ?_⟩
            clear henv a; intro a henv
            replace hst := hst.call hb
            clear hb
            revert a
            refine sA (v := .agg #[.bool (neg (qn 0)), .slice none (zl (qn 0)) 0, .bool (neg (ql 0)), .slice none (zl (ql 0)) 0]) rfl (fun _ henv => rn_extract henv rfl rfl) ?_
            refine sA (v := .agg #[.int .i64 6, .int .i64 ((la.length + 1) + c2 : Nat)]) rfl (fun _ henv => rn_extract henv rfl rfl) ?_
            intro a henv
            refine seq_step rfl (op_store (k := 4) (c' := #[.bool (neg (qn 0)), .slice none (zl (qn 0)) 0, .bool (neg (ql 0)), .slice none (zl (ql 0)) 0]) henv hst (ty_anvil_ratio_Rat.size) rfl rfl rfl rfl (by simp) rfl rfl ?_)
            clear henv hst a; intro a w92 henv hst
            refine seq_step rfl (op_store (k := 3) (c' := #[.int .i64 6, .int .i64 ((la.length + 1) + c2 : Nat)]) henv hst (ty_anvil_api_Spot.size) rfl rfl rfl rfl (by simp) rfl rfl ?_)
            clear henv hst a; intro a w93 henv hst
            refine wpList_nil ?_
            refine th_n ?_
            refine wp_ret ?_
            refine th_r ?_
            refine leave henv (res2 Tryd.results91 (RV.cell henv ty_anvil_ratio_Rat rfl (hst.oat (k := 4) rfl) rfl) (RV.cell henv ty_anvil_api_Spot rfl (hst.oat (k := 3) rfl) rfl)) ?_
            exact ⟨.inr ⟨_, _, .inr (.inr (.inr (.inr (.inl ⟨_, hrb2, hb0, hb1, hb2, rfl⟩)))), rfl, qat_zero _⟩, hst.below⟩
          · obtain ⟨rfl, rfl, hrz2⟩ := wd_ok hw2 hc90
            have hzl2 := rz_zl9 hrz2
            have hd0 := den_pos hrz2 hb0 hb1 hb2
            have hqs : Qs 6000 (Rat.divInt z1 z2) := qs_make (by omega) (by omega) (by omega)
            refine wp_skip ?_
            refine th_n ?_
            refine wp_seq ?_
            refine region_seq ?_
            revert a
            refine sA (v := .agg #[.bool (neg z1), .slice A56 (zl z1) c57]) rfl (fun _ henv => rn_load0 henv ty_anvil_integer_Int rfl (hst.oat (k := 2) rfl) rfl) ?_
            refine sA (v := .agg #[.bool (neg z2), .slice A82 (zl z2) c83]) rfl (fun _ henv => rn_load0 henv ty_anvil_integer_Int rfl (hst.oat (k := 0) rfl) rfl) ?_
            intro a henv
            refine seq_step rfl (op_call henv rfl Tryd.call116 rfl (lowest_q (show ZIn _ A56 c57 z1 from hst.pat (k := 1) rfl) (show ZIn _ A82 c83 z2 from hst.pat (k := 0) rfl) (by omega) (by omega) hd0 rfl) ?_)
            rintro e w100 ⟨_, rfl, ⟨A94, c95, B96, d97, rfl, hz98, hz99⟩, hb⟩
            refine ⟨_, rfl, ?_⟩
            clear henv a; intro a henv
            replace hst := ((hst.call hb).addZ hz98 ⟨nou_bk rfl, nou_bk rfl, nou_bk rfl, nou_bk rfl, nou_bk rfl, trivial⟩).addZ hz99 ⟨nou_bk rfl, nou_bk rfl, nou_bk rfl, nou_bk rfl, nou_bk rfl, trivial⟩
            clear hz98 hz99
            clear hb
            refine seq_step rfl (op_alloc (c := #[.bool (neg (qn 0)), .slice none (zl (qn 0)) 0, .bool (neg (ql 0)), .slice none (zl (ql 0)) 0]) henv hst rfl zero_anvil_ratio_Rat qcells ?_)
            clear henv hst a; intro a w102 g101 henv hst
            refine seq_step rfl (op_store (k := 0) (c' := #[.bool (neg (qn (Rat.divInt z1 z2))), .slice A94 (zl (qn (Rat.divInt z1 z2))) c95, .bool (neg (ql (Rat.divInt z1 z2))), .slice B96 (zl (ql (Rat.divInt z1 z2))) d97]) henv hst (ty_anvil_ratio_Rat.size) rfl rfl rfl rfl (by simp) rfl rfl ?_)
            clear henv hst a; intro a w103 henv hst
            refine wpList_nil ?_
            refine th_n ?_
            refine wp_seq ?_
            refine wp_seq ?_
            refine region_seq ?_
            refine sv (v := .agg #[.bool (neg (qn (Rat.divInt z1 z2))), .slice A94 (zl (qn (Rat.divInt z1 z2))) c95, .bool (neg (ql (Rat.divInt z1 z2))), .slice B96 (zl (ql (Rat.divInt z1 z2))) d97]) henv rfl (rn_load0 henv ty_anvil_ratio_Rat rfl (hst.oat (k := 0) rfl) rfl) ?_
            clear henv a; intro a henv
            refine seq_step rfl (op_call henv rfl Tryd.call92 rfl (text_q (x := Rat.divInt z1 z2) (show ZIn _ A94 c95 (qn (Rat.divInt z1 z2)) from hst.pat (k := 1) rfl) (show ZIn _ B96 d97 (ql (Rat.divInt z1 z2)) from hst.pat (k := 0) rfl) hqs (by omega)) ?_)
            rintro e w104 ⟨rfl, hb⟩
            refine ⟨_, rfl, ?_⟩
            clear henv a; intro a henv
            replace hst := hst.call hb
            clear hb
            revert a
            refine mA rfl rfl ?_
            refine sA (v := .bool (!decide ((textQ (Rat.divInt z1 z2)) = (la ++ 47 :: lb)))) rfl (fun _ henv => rn_neqs (s := (textQ (Rat.divInt z1 z2))) (t := (la ++ 47 :: lb)) henv rfl rfl) ?_
            intro a henv
            refine wpList_nil ?_
            refine th_n ?_
            refine if_split henv rfl (fun hc105 => ?_) (fun hc105 => ?_)
            · have hte := not_dec_t hc105
              refine wp_seq ?_
              refine region_seq ?_
              revert a
              refine mA rfl rfl ?_
              refine mA rfl rfl ?_
              refine sA (v := .int .i64 ((la ++ 47 :: lb).length : Nat)) rfl (fun _ henv => rn_lenS henv Tryd.underlying9 rfl) ?_
              intro a henv
              refine seq_step rfl (op_callc (vs := #[.int .i64 ((la ++ 47 :: lb).length : Nat)]) henv rfl Tryd.call134 rfl rfl (calls_app (by simp) (q_wrong (p := (((la ++ 47 :: lb).length : Nat) : Int)))) ?_)
              rintro e w106 ⟨rfl, hb⟩
              refine ⟨_, rfl, ?_⟩
              clear henv a; intro a henv
              replace hst := hst.call hb
              clear hb
              revert a
              refine sA (v := .agg #[.bool (neg (qn 0)), .slice none (zl (qn 0)) 0, .bool (neg (ql 0)), .slice none (zl (ql 0)) 0]) rfl (fun _ henv => rn_extract henv rfl rfl) ?_
              refine sA (v := .agg #[.int .i64 6, .int .i64 ((la ++ 47 :: lb).length : Nat)]) rfl (fun _ henv => rn_extract henv rfl rfl) ?_
              intro a henv
              refine seq_step rfl (op_store (k := 5) (c' := #[.bool (neg (qn 0)), .slice none (zl (qn 0)) 0, .bool (neg (ql 0)), .slice none (zl (ql 0)) 0]) henv hst (ty_anvil_ratio_Rat.size) rfl rfl rfl rfl (by simp) rfl rfl ?_)
              clear henv hst a; intro a w107 henv hst
              refine seq_step rfl (op_store (k := 4) (c' := #[.int .i64 6, .int .i64 ((la ++ 47 :: lb).length : Nat)]) henv hst (ty_anvil_api_Spot.size) rfl rfl rfl rfl (by simp) rfl rfl ?_)
              clear henv hst a; intro a w108 henv hst
              refine wpList_nil ?_
              refine th_n ?_
              refine wp_ret ?_
              refine th_r ?_
              refine leave henv (res2 Tryd.results91 (RV.cell henv ty_anvil_ratio_Rat rfl (hst.oat (k := 5) rfl) rfl) (RV.cell henv ty_anvil_api_Spot rfl (hst.oat (k := 4) rfl) rfl)) ?_
              exact ⟨.inr ⟨_, _, .inr (.inr (.inr (.inr (.inr ⟨z1, z2, hrz1, hrz2, hd0, hte, rfl⟩)))), rfl, qat_zero _⟩, hst.below⟩
            · have hte := not_dec_f hc105
              refine wp_skip ?_
              refine th_n ?_
              refine wp_seq ?_
              refine region_seq ?_
              revert a
              refine sA (v := .agg #[.bool (neg (qn (Rat.divInt z1 z2))), .slice A94 (zl (qn (Rat.divInt z1 z2))) c95, .bool (neg (ql (Rat.divInt z1 z2))), .slice B96 (zl (ql (Rat.divInt z1 z2))) d97]) rfl (fun _ henv => rn_load0 henv ty_anvil_ratio_Rat rfl (hst.oat (k := 0) rfl) rfl) ?_
              refine sA (v := .agg #[.int .i64 0, .int .i64 0]) rfl (fun _ henv => rn_spot0) ?_
              intro a henv
              refine seq_step rfl (op_store (k := 5) (c' := #[.bool (neg (qn (Rat.divInt z1 z2))), .slice A94 (zl (qn (Rat.divInt z1 z2))) c95, .bool (neg (ql (Rat.divInt z1 z2))), .slice B96 (zl (ql (Rat.divInt z1 z2))) d97]) henv hst (ty_anvil_ratio_Rat.size) rfl rfl rfl rfl (by simp) rfl rfl ?_)
              clear henv hst a; intro a w109 henv hst
              refine seq_step rfl (op_store (k := 4) (c' := #[.int .i64 0, .int .i64 0]) henv hst (ty_anvil_api_Spot.size) rfl rfl rfl rfl (by simp) rfl rfl ?_)
              clear henv hst a; intro a w110 henv hst
              refine wpList_nil ?_
              refine th_n ?_
              refine wp_ret ?_
              refine leave henv (res2 Tryd.results91 (RV.cell henv ty_anvil_ratio_Rat rfl (hst.oat (k := 5) rfl) rfl) (RV.cell henv ty_anvil_api_Spot rfl (hst.oat (k := 4) rfl) rfl)) ?_
              exact ⟨.inl ⟨z1, z2, _, hrz1, hrz2, hd0, hte, rfl, q_at rfl rfl (hst.pat (k := 1) rfl) (hst.pat (k := 0) rfl)⟩, hst.below⟩
theorem q_read {s : List UInt8} {w0 : World} (hl : s.length ≤ 50000) :
    Calls Tryd.prog 91 #[.string ⟨s.toArray⟩] w0 fun e w' => ((∃ r v, textQ r = s ∧ e = .returned (.tuple #[v, .agg #[.int .i64 0, .int .i64 0]]) ∧ QAt w' v r) ∨ (∃ (p q : Int) (v : Value), p ≠ 0 ∧ (∀ r, textQ r ≠ s) ∧ e = .returned (.tuple #[v, .agg #[.int .i64 p, .int .i64 q]]) ∧ QAt w' v 0)) ∧ Below w0.heap.size w0 w' := by
  rcases cut_cases s 47 with h | ⟨a, b, rfl, h⟩
  · refine (q_read_no hl h).mono fun e w' ⟨hp, hb⟩ => ⟨?_, hb⟩
    rcases hp with ⟨z, v, h1, h2, h3⟩ | ⟨b, v, h1, h2, h3⟩
    · exact .inl ⟨_, v, by unfold textQ; rw [if_pos (ql_int z), qn_int, rz_back h1], h2, h3⟩
    · exact .inr ⟨6, b, v, by decide, fun r hr => rz_not_rb (textQ_whole hr h).1 h1, h2, h3⟩
  · refine (q_read_yes (by rw [List.length_append, List.length_cons] at hl; omega) h).mono fun e w' ⟨hp, hb⟩ => ⟨?_, hb⟩
    rcases hp with ⟨n, d, v, h1, h2, h3, h4, h5, h6⟩ | ⟨q, v, h1, h2, h3⟩
    · exact .inl ⟨_, v, h4, h5, h6⟩
    · refine .inr ⟨6, q, v, by decide, fun r hr => ?_, h2, h3⟩
      obtain ⟨e1, e2⟩ := textQ_parts hr h
      have hq := qd_pos r
      have r2 := rz_text (qd r)
      rw [← e2] at r2
      have r1 := rz_text (qn r)
      rw [← e1] at r1
      rcases h1 with ⟨c, h1, _⟩ | ⟨h1, _⟩ | ⟨h1, _⟩ | ⟨h1, _⟩ | ⟨c, h1, _⟩ | ⟨n, d, h1, h4, h5, h6, _⟩
      · exact rz_not_rb r1 h1
      · have := rz_pos r2; rw [h1] at this; exact absurd this (by decide)
      · exact pos_head (qd_pos r) (e2 ▸ h1) (.inl rfl)
      · exact pos_head (qd_pos r) (e2 ▸ h1) (.inr rfl)
      · exact rz_not_rb r2 h1
      · obtain rfl := rz_eq h1 r1
        obtain rfl := rz_eq h4 r2
        rw [q_self] at h6
        exact h6 hr
end Go.Proofs.YtegglooojlheoaaDoor.W

/- RatioBack: the law's walk. Printed by pv/gen_qback.py. No condition. -/
namespace Go.Proofs.YtegglooojlheoaaDoor.W
open Go.RowKit Anv Go.Lib
theorem textQ_inj {x y : Rat} (h : textQ x = textQ y) : x = y := by
  rcases cut_cases (textQ y) 47 with hs | ⟨a, b, e, ha⟩
  · obtain ⟨h1, h2⟩ := textQ_whole h hs
    obtain ⟨h3, h4⟩ := textQ_whole rfl hs
    rw [h2, h4, rz_eq h1 h3]
  · obtain ⟨h1, h2⟩ := textQ_parts (h.trans e) ha
    obtain ⟨h3, h4⟩ := textQ_parts e ha
    exact q_ext (textZ_inj (h1.symm.trans h3)) (textZ_inj (h2.symm.trans h4))
theorem q_read_ok {s : List UInt8} {r : Rat} {w0 : World} (hr : textQ r = s) (hl : s.length ≤ 50000) :
    Calls Tryd.prog 91 #[.string ⟨s.toArray⟩] w0 fun e w' => ∃ v, e = .returned (.tuple #[v, .agg #[.int .i64 0, .int .i64 0]]) ∧ QAt w' v r ∧ Below w0.heap.size w0 w' := by
  refine (q_read hl).mono fun e w' ⟨hp, hb⟩ => ?_
  rcases hp with ⟨x, v, h1, h2, h3⟩ | ⟨p, q, v, _, h1, _⟩
  · obtain rfl := textQ_inj (h1.trans hr.symm)
    exact ⟨v, h2, h3, hb⟩
  · exact absurd hr (h1 r)
end Go.Proofs.YtegglooojlheoaaDoor.W

/- Rows of fractions; all over one denominator: plain laws. No condition. -/
namespace Go.Proofs.YtegglooojlheoaaDoor.W
open Go.RowKit Anv Go.Lib
abbrev KE := Option Addr × Nat × Option Addr × Nat × Rat
abbrev kr (e : KE) : Rat := e.2.2.2.2
def fK (e : KE) : List Value := [.bool (neg (qn e.2.2.2.2)), .slice e.1 (zl (qn e.2.2.2.2)) e.2.1, .bool (neg (ql e.2.2.2.2)), .slice e.2.2.1 (zl (ql e.2.2.2.2)) e.2.2.2.1]
def FK (e : KE) : PF := pfAnd (pfZ e.1 e.2.1 (qn e.2.2.2.2)) (pfZ e.2.2.1 e.2.2.2.1 (ql e.2.2.2.2))
theorem fK_len (e : KE) : (fK e).length = 4 := rfl
def fH (e : KE) : List Value := [.bool (neg (qn e.2.2.2.2)), .slice e.1 (dl (qn e.2.2.2.2)) e.2.1, .bool (neg (qd e.2.2.2.2)), .slice e.2.2.1 (dl (qd e.2.2.2.2)) e.2.2.2.1]
def FH (e : KE) : PF := pfAnd (pfR e.1 e.2.1 (qn e.2.2.2.2)) (pfR e.2.2.1 e.2.2.2.1 (qd e.2.2.2.2))
section
variable {w w0 : World} {own ps : List PF} {i j k : Nat} {p q : PF}
theorem St.and2 (h : St w0 w own ps) (hi : ps[i]? = some p) (hj : ps[j]? = some q) : St w0 w own (pfAnd p q :: ps) :=
  h.addP _ ⟨h.pat hi, h.pat hj⟩ fun o ho b h1 h2 => h2.elim (h.apart _ (List.mem_of_getElem? hi) o ho b h1) (h.apart _ (List.mem_of_getElem? hj) o ho b h1)
theorem St.split2 (h : St w0 w own ps) (hk : ps[k]? = some (pfAnd p q)) : St w0 w own (p :: q :: ps) :=
  (h.addP q (h.pat hk).2 fun o ho b h1 h2 => h.apart _ (List.mem_of_getElem? hk) o ho b h1 (.inr h2)).addP p (h.pat hk).1 fun o ho b h1 h2 => h.apart _ (List.mem_of_getElem? hk) o ho b h1 (.inl h2)
end
section
variable {P : Program} {N : Nat} {dq : List Deferred} {a : Act} {l : List (Nat × Value)} {w : World} {d : Nat} {ty : TypeId} {pos : String} {af : Array Edge} {gd : Option (Nat × Bool)}
end
def smQ (rs : List Rat) : Rat := rs.foldl (· + ·) 0
theorem smQ_step {rs : List Rat} {j : Nat} {r : Rat} (h : rs[j]? = some r) : smQ (rs.take (j + 1)) = smQ (rs.take j) + r := by
  rw [smQ, take_one h, List.foldl_append]; rfl
theorem kr_at {es : List KE} {rs : List Rat} {j : Nat} {A B : Option Addr} {c d : Nat} {r : Rat} (hr : es.map kr = rs) (h : es[j]? = some (A, c, B, d, r)) : rs[j]? = some r := by
  rw [← hr, List.getElem?_map, h]; rfl
def cmS (d : Int) (r : Rat) : Int := d * (qd r / ((Int.gcd d (qd r) : Nat) : Int))
def cmD (rs : List Rat) : Int := rs.foldl cmS 1
def cmN (D : Int) (rs : List Rat) : List Int := rs.map fun r => qn r * (D / qd r)
theorem cmD_step {rs : List Rat} {j : Nat} {r : Rat} (h : rs[j]? = some r) : cmD (rs.take (j + 1)) = cmS (cmD (rs.take j)) r := by
  rw [cmD, take_one h, List.foldl_append]; rfl
theorem cmS_pos {d : Int} (hd : 0 < d) (r : Rat) : 0 < cmS d r := by
  have h1 := qd_pos r
  have hg : 0 < ((Int.gcd d (qd r) : Nat) : Int) := by
    have := gcd_ne (n := d) (d := qd r) (by omega)
    omega
  have h2 : ((Int.gcd d (qd r) : Nat) : Int) ≤ qd r := Int.le_of_dvd h1 (Int.gcd_dvd_right d (qd r))
  exact Int.mul_pos hd (Int.ediv_pos_of_pos_of_dvd h1 (by omega) (Int.gcd_dvd_right d (qd r)))
theorem cmS_dvd (d : Int) (r : Rat) : d ∣ cmS d r := ⟨_, rfl⟩
theorem cmS_den (d : Int) (r : Rat) : qd r ∣ cmS d r := by
  obtain ⟨x, hx⟩ := Int.gcd_dvd_left d (qd r)
  obtain ⟨y, hy⟩ := Int.gcd_dvd_right d (qd r)
  have hg := gcd_ne (n := d) (d := qd r) (qd_ne r)
  refine ⟨x, ?_⟩
  unfold cmS
  generalize ((Int.gcd d (qd r) : Nat) : Int) = G at hx hy hg ⊢
  rw [hy, Int.mul_ediv_cancel_left _ hg, hx]
  rw [Int.mul_assoc, Int.mul_comm x y, ← Int.mul_assoc]
theorem cmD_fold (rs : List Rat) : ∀ d : Int, 0 < d → 0 < rs.foldl cmS d ∧ d ∣ rs.foldl cmS d ∧ ∀ r ∈ rs, qd r ∣ rs.foldl cmS d := by
  induction rs with
  | nil => intro d hd; exact ⟨hd, Int.dvd_refl d, fun r h => by cases h⟩
  | cons r rs ih =>
    intro d hd
    obtain ⟨h1, h2, h3⟩ := ih (cmS d r) (cmS_pos hd r)
    refine ⟨h1, Int.dvd_trans (cmS_dvd d r) h2, fun x hx => ?_⟩
    rcases List.mem_cons.1 hx with rfl | hx
    · exact Int.dvd_trans (cmS_den d x) h2
    · exact h3 x hx
theorem cmD_dvd {rs : List Rat} {r : Rat} (h : r ∈ rs) : qd r ∣ cmD rs := (cmD_fold rs 1 (by decide)).2.2 r h
theorem cmD_mod {rs : List Rat} {r : Rat} (h : r ∈ rs) : cmD rs % qd r = 0 := Int.emod_eq_zero_of_dvd (cmD_dvd h)
theorem cmN_step {rs : List Rat} {os : List NE} {D : Int} {j : Nat} {r : Rat} {A : Option Addr} {c : Nat} (ho : os.map zz = cmN D (rs.take j)) (h : rs[j]? = some r) : (os ++ [(A, c, qn r * (D / qd r))]).map zz = cmN D (rs.take (j + 1)) := by
  rw [List.map_append, ho, cmN, cmN, take_one h, List.map_append]; rfl
theorem zz_at {es : List NE} {zs : List Int} {j : Nat} {z : Int} (hz : es.map zz = zs) (h : zs[j]? = some z) : ∃ A c, es[j]? = some (A, c, z) := by
  rw [← hz, List.getElem?_map] at h
  obtain ⟨⟨A, c, x⟩, he, hx⟩ := Option.map_eq_some_iff.1 h
  cases hx
  exact ⟨A, c, he⟩
end Go.Proofs.YtegglooojlheoaaDoor.W

/- ratio.Sum, anvilref03.Sum. Printed by pv/gen_qm.py. No condition. -/
namespace Go.Proofs.YtegglooojlheoaaDoor.W
open Go.RowKit Anv Go.Lib
set_option maxRecDepth 100000 in
set_option maxHeartbeats 4000000 in
theorem sum_q {A0 : Option Addr} {n0 c0 : Nat} {es0 : List KE} {rs : List Rat} {w0 : World} (h0 : (pfRow fK FK 4 A0 n0 c0 es0).P w0) (hrs : es0.map kr = rs) (hq : ∀ r ∈ rs, Qs 400 r) (hn : n0 ≤ 12) :
    Calls Tryd.prog 75 #[.slice A0 n0 c0] w0 fun e w' => ∃ v, e = .returned v ∧ QAt w' v (smQ rs) ∧ Below w0.heap.size w0 w' := by
  refine enter Tryd.func75 rfl Tryd.ntmps75 rfl ?_
  intro a henv hst
  have hlen0 := h0.2.1
  have hrl : rs.length = n0 := by rw [← hrs, List.length_map, hlen0]
  replace hst := hst.argRow h0
  clear h0
  refine wp_seq ?_
  refine region_seq ?_
  refine seq_step rfl (op_alloc (c := #[.bool (neg (qn 0)), .slice none (zl (qn 0)) 0, .bool (neg (ql 0)), .slice none (zl (ql 0)) 0]) henv hst rfl zero_anvil_ratio_Rat qcells ?_)
  clear henv hst a; intro a w52 g51 henv hst
  refine wpList_nil ?_
  refine th_n ?_
  refine wp_seq ?_
  refine region_seq ?_
  refine seq_step rfl (op_alloc (c := #[.bool (neg (qn 0)), .slice none (zl (qn 0)) 0, .bool (neg (ql 0)), .slice none (zl (ql 0)) 0]) henv hst rfl zero_anvil_ratio_Rat qcells ?_)
  clear henv hst a; intro a w54 g53 henv hst
  refine wpList_nil ?_
  refine th_n ?_
  refine wp_seq ?_
  refine wp_seq ?_
  replace hst := (hst.addZ (show ZIn _ none 0 (qn 0) from zin_none _) ⟨nou_bk rfl, nou_bk rfl, trivial⟩).addZ (show ZIn _ none 0 (ql 0) from zin_none _) ⟨nou_bk rfl, nou_bk rfl, trivial⟩
  replace hst : St w0 _ [bk g53 #[.bool (neg (qn 0)), .slice none (zl (qn 0)) 0, .bool (neg (ql 0)), .slice none (zl (ql 0)) 0] 91, bk g51 #[.bool (neg (qn 0)), .slice none (zl (qn 0)) 0, .bool (neg (ql 0)), .slice none (zl (ql 0)) 0] 91] [pfZ none 0 (ql 0), pfZ none 0 (qn 0), pfRow fK FK 4 A0 n0 c0 es0] := hst
  refine region_seq ?_
  revert a
  refine mA rfl rfl ?_
  refine sA (v := .int .i64 (n0 : Nat)) rfl (fun _ henv => rn_len henv Tryd.underlying105 rfl) ?_
  refine mA rfl rfl ?_
  intro a henv
  refine wpList_nil ?_
  refine th_n ?_
  refine wp_block ?_
  refine wp_loop_ghost (fun mz a w => ∃ j : Nat, ∃ S : Rat, ∃ As : Option Addr, ∃ cs : Nat, ∃ Bs : Option Addr, ∃ ds : Nat, n0 - j = mz ∧ Env 17 a [(2, .pointer (some ⟨g51, 0, none⟩)), (6, .slice A0 n0 c0), (7, .int .i64 (n0 : Nat)), (3, .pointer (some ⟨g53, 0, none⟩)), (8, .int .i64 (j : Nat))] ∧ St w0 w [bk g53 #[.bool (neg (qn S)), .slice As (zl (qn S)) cs, .bool (neg (ql S)), .slice Bs (zl (ql S)) ds] 91, bk g51 #[.bool (neg (qn 0)), .slice none (zl (qn 0)) 0, .bool (neg (ql 0)), .slice none (zl (ql 0)) 0] 91] [pfRow fK FK 4 A0 n0 c0 es0, pfZ As cs (qn S), pfZ Bs ds (ql S)] ∧ j ≤ n0 ∧ S = smQ (rs.take j) ∧ Qs (401 * j + 1) S) _ ⟨0, 0, none, 0, none, 0, rfl, henv.sub ⟨rfl, rfl, rfl, rfl, rfl, trivial⟩, hst.pick [0, 1] [2, 1, 0] (by decide), (Nat.zero_le _), rfl, (qs_zero.mono (by omega))⟩ ?_
  clear henv hst a
  rintro mz a w55 ⟨j, S, As, cs, Bs, ds, rfl, henv, hst, hj, hS, hsr⟩
  refine wp_seq ?_
  refine region_seq ?_
  refine sv (v := .bool (decide (((j : Nat) : Int) < ((n0 : Nat) : Int)))) henv rfl (rn_bin henv rfl rfl rfl) ?_
  clear henv a; intro a henv
  refine wpList_nil ?_
  refine th_n ?_
  refine wp_seq ?_
  refine if_split henv rfl (fun hc56 => ?_) (fun hc56 => ?_)
  · have hlt : j < n0 := by have := of_decide_eq_true hc56; omega
    obtain ⟨⟨A, c, B, d, r⟩, he0⟩ : ∃ e, es0[j]? = some e := ⟨_, List.getElem?_eq_getElem (by omega)⟩
    replace hst := hst.elem (k := 0) rfl he0
    replace hst := hst.split2 (k := 0) rfl
    replace hst : St w0 _ [bk g53 #[.bool (neg (qn S)), .slice As (zl (qn S)) cs, .bool (neg (ql S)), .slice Bs (zl (ql S)) ds] 91, bk g51 #[.bool (neg (qn 0)), .slice none (zl (qn 0)) 0, .bool (neg (ql 0)), .slice none (zl (ql 0)) 0] 91] [pfZ A c (qn r), pfZ B d (ql r), FK (A, c, B, d, r), pfRow fK FK 4 A0 n0 c0 es0, pfZ As cs (qn S), pfZ Bs ds (ql S)] := hst
    have hrj := kr_at hrs he0
    have hrm : r ∈ rs := List.mem_of_getElem? hrj
    have hse := hq r hrm
    have hnr := hse.n
    have hdr := hse.d
    have hlr := hse.l
    refine wp_skip ?_
    refine th_n ?_
    refine wp_seq ?_
    refine wp_block ?_
    refine wp_seq ?_
    refine region_seq ?_
    revert a
    refine sA (v := .pointer (some ⟨ab A0, ao A0 + j * 4, none⟩)) rfl (fun _ henv => rn_idxR (i := j) henv Tryd.underlying105 (ty_anvil_ratio_Rat.size) rfl rfl (by omega) rfl (show (pfRow fK FK 4 A0 n0 c0 es0).P _ from (hst.pat (k := 3) rfl)).1) ?_
    refine sA (v := .agg #[.bool (neg (qn r)), .slice A (zl (qn r)) c, .bool (neg (ql r)), .slice B (zl (ql r)) d]) rfl (fun _ henv => rn_loadE (i := j) (e := (A, c, B, d, r)) henv ty_anvil_ratio_Rat rfl rfl fK_len (show (pfRow fK FK 4 A0 n0 c0 es0).P _ from (hst.pat (k := 3) rfl)).1 (by omega) he0 rfl) ?_
    intro a henv
    refine seq_step rfl (op_alloc (c := #[.bool (neg (qn 0)), .slice none (zl (qn 0)) 0, .bool (neg (ql 0)), .slice none (zl (ql 0)) 0]) henv hst rfl zero_anvil_ratio_Rat qcells ?_)
    clear henv hst a; intro a w58 g57 henv hst
    refine seq_step rfl (op_store (k := 0) (c' := #[.bool (neg (qn r)), .slice A (zl (qn r)) c, .bool (neg (ql r)), .slice B (zl (ql r)) d]) henv hst (ty_anvil_ratio_Rat.size) rfl rfl rfl rfl (by simp) rfl rfl ?_)
    clear henv hst a; intro a w59 henv hst
    refine wpList_nil ?_
    refine th_n ?_
    refine region_seq ?_
    revert a
    refine sA (v := .agg #[.bool (neg (qn S)), .slice As (zl (qn S)) cs, .bool (neg (ql S)), .slice Bs (zl (ql S)) ds]) rfl (fun _ henv => rn_load0 henv ty_anvil_ratio_Rat rfl (hst.oat (k := 1) rfl) rfl) ?_
    refine sA (v := .agg #[.bool (neg (qn r)), .slice A (zl (qn r)) c, .bool (neg (ql r)), .slice B (zl (ql r)) d]) rfl (fun _ henv => rn_load0 henv ty_anvil_ratio_Rat rfl (hst.oat (k := 0) rfl) rfl) ?_
    intro a henv
    refine seq_step rfl (op_call henv rfl Tryd.call58 rfl (add_q (x := S) (y := r) (show ZIn _ As cs (qn S) from hst.pat (k := 4) rfl) (show ZIn _ Bs ds (ql S) from hst.pat (k := 5) rfl) (show ZIn _ A c (qn r) from hst.pat (k := 0) rfl) (show ZIn _ B d (ql r) from hst.pat (k := 1) rfl) hsr hse (by omega)) ?_)
    rintro e w66 ⟨_, rfl, ⟨A60, c61, B62, d63, rfl, hz64, hz65⟩, hb⟩
    refine ⟨_, rfl, ?_⟩
    clear henv a; intro a henv
    replace hst := ((hst.call hb).addZ hz64 ⟨nou_bk rfl, nou_bk rfl, nou_bk rfl, trivial⟩).addZ hz65 ⟨nou_bk rfl, nou_bk rfl, nou_bk rfl, trivial⟩
    clear hz64 hz65
    clear hb
    refine seq_step rfl (op_store (k := 1) (c' := #[.bool (neg (qn (S + r))), .slice A60 (zl (qn (S + r))) c61, .bool (neg (ql (S + r))), .slice B62 (zl (ql (S + r))) d63]) henv hst (ty_anvil_ratio_Rat.size) rfl rfl rfl rfl (by simp) rfl rfl ?_)
    clear henv hst a; intro a w67 henv hst
    refine wpList_nil ?_
    refine bl_n (th_n ?_)
    refine region_seq ?_
    revert a
    refine sA (v := .int .i64 (j + 1 : Nat)) rfl (fun _ henv => rn_add henv rfl rfl (by rw [IntWalk.i64_in _ (by omega)]; omega)) ?_
    refine mA rfl rfl ?_
    intro a henv
    refine wpList_nil ?_
    exact th_n ⟨_, (by omega), ⟨j + 1, S + r, A60, c61, B62, d63, rfl, henv.sub ⟨rfl, rfl, rfl, rfl, rfl, trivial⟩, hst.pick [1, 2] [5, 1, 0] (by decide), (by omega), (by rw [smQ_step hrj, ← hS]), ((hsr.add hse).mono (by omega))⟩⟩
  · have hje : n0 ≤ j := by have := of_decide_eq_false hc56; omega
    rw [List.take_of_length_le (by omega)] at hS
    subst hS
    refine wp_exit ?_
    refine th_x (th_x (bl_x (th_n ?_)))
    refine wp_seq ?_
    refine region_seq ?_
    refine sv (v := .agg #[.bool (neg (qn (smQ rs))), .slice As (zl (qn (smQ rs))) cs, .bool (neg (ql (smQ rs))), .slice Bs (zl (ql (smQ rs))) ds]) henv rfl (rn_load0 henv ty_anvil_ratio_Rat rfl (hst.oat (k := 0) rfl) rfl) ?_
    clear henv a; intro a henv
    refine seq_step rfl (op_store (k := 1) (c' := #[.bool (neg (qn (smQ rs))), .slice As (zl (qn (smQ rs))) cs, .bool (neg (ql (smQ rs))), .slice Bs (zl (ql (smQ rs))) ds]) henv hst (ty_anvil_ratio_Rat.size) rfl rfl rfl rfl (by simp) rfl rfl ?_)
    clear henv hst a; intro a w68 henv hst
    refine wpList_nil ?_
    refine th_n ?_
    refine wp_ret ?_
    refine leave henv (res1 Tryd.results75 (RV.cell henv ty_anvil_ratio_Rat rfl (hst.oat (k := 1) rfl) rfl)) ?_
    exact ⟨_, rfl, q_at rfl rfl (hst.pat (k := 1) rfl) (hst.pat (k := 2) rfl), hst.below⟩
end Go.Proofs.YtegglooojlheoaaDoor.W

/- ratio.Common. Printed by pv/gen_qm.py. No condition. -/
namespace Go.Proofs.YtegglooojlheoaaDoor.W
open Go.RowKit Anv Go.Lib
def ZRowC (B : Nat) (w : World) (v : Value) (n : Nat) (zs : List Int) : Prop := ∃ A c es, v = .slice A n c ∧ NewRow notU 36 2 fN FN B w A n c es ∧ es.length = n ∧ es.map zz = zs ∧ (n = 0 → A = none)
def MRowC (B : Nat) (w : World) (v : Value) (n : Nat) (zs : List Int) : Prop := ∃ A c es, v = .slice A n c ∧ NewRow notU 39 2 fM FM B w A n c es ∧ es.length = n ∧ es.map zz = zs ∧ (n = 0 → A = none)
theorem cmS_sz (D : Int) (r : Rat) : zl (cmS D r) ≤ zl D + zl (qd r) := by
  have h1 := zl_mul D (qd r / ((Int.gcd D (qd r) : Nat) : Int))
  have h2 := zl_ediv (qd r) ((Int.gcd D (qd r) : Nat) : Int)
  unfold cmS
  omega
set_option maxRecDepth 100000 in
set_option maxHeartbeats 16000000 in
theorem common_q {A0 : Option Addr} {n0 c0 : Nat} {es0 : List KE} {rs : List Rat} {w0 : World} (h0 : (pfRow fK FK 4 A0 n0 c0 es0).P w0) (hrs : es0.map kr = rs) (hq : ∀ r ∈ rs, Qs 400 r) (hn : n0 ≤ 12) :
    Calls Tryd.prog 70 #[.slice A0 n0 c0] w0 fun e w' => ∃ v u, e = .returned (.tuple #[v, u]) ∧ ZRowC w0.heap.size w' v n0 (cmN (cmD rs) rs) ∧ ZAt w' u (cmD rs) ∧ Below w0.heap.size w0 w' := by
  have h1z : zl 1 ≤ 1 := nl_le_of_lt (by decide)
  refine enter Tryd.func70 rfl Tryd.ntmps70 rfl ?_
  intro a henv hst
  have hlen0 := h0.2.1
  have hrl : rs.length = n0 := by rw [← hrs, List.length_map, hlen0]
  replace hst := hst.argRow h0
  clear h0
  refine wp_seq ?_
  refine region_seq ?_
  refine sv (v := .slice none 0 0) henv rfl (rn_assign henv rfl) ?_
  clear henv a; intro a henv
  refine seq_step rfl (op_alloc (c := #[.bool (neg 0), .slice none (zl 0) 0]) henv hst rfl zero_anvil_integer_Int zcells ?_)
  clear henv hst a; intro a w52 g51 henv hst
  refine wpList_nil ?_
  refine th_n ?_
  refine wp_seq ?_
  refine region_seq ?_
  refine seq_step rfl (op_call henv rfl Tryd.call43 rfl (of_z (n := (1 : Int)) (by decide) (by decide)) ?_)
  rintro e w56 ⟨_, rfl, ⟨A53, c54, rfl, hz55⟩, hb⟩
  refine ⟨_, rfl, ?_⟩
  clear henv a; intro a henv
  replace hst := (hst.call hb).addZ hz55 ⟨nou_bk rfl, trivial⟩
  clear hz55
  clear hb
  refine seq_step rfl (op_alloc (c := #[.bool (neg 0), .slice none (zl 0) 0]) henv hst rfl zero_anvil_integer_Int zcells ?_)
  clear henv hst a; intro a w58 g57 henv hst
  refine seq_step rfl (op_store (k := 0) (c' := #[.bool (neg 1), .slice A53 (zl 1) c54]) henv hst (ty_anvil_integer_Int.size) rfl rfl rfl rfl (by simp) rfl rfl ?_)
  clear henv hst a; intro a w59 henv hst
  refine wpList_nil ?_
  refine th_n ?_
  refine wp_seq ?_
  refine wp_seq ?_
  refine region_seq ?_
  revert a
  refine mA rfl rfl ?_
  refine sA (v := .int .i64 (n0 : Nat)) rfl (fun _ henv => rn_len henv Tryd.underlying105 rfl) ?_
  refine mA rfl rfl ?_
  intro a henv
  refine wpList_nil ?_
  refine th_n ?_
  refine wp_block ?_
  refine wp_loop_ghost (fun mz a w => ∃ j : Nat, ∃ D : Int, ∃ Ad : Option Addr, ∃ cd : Nat, n0 - j = mz ∧ Env 62 a [(0, .slice A0 n0 c0), (3, .pointer (some ⟨g51, 0, none⟩)), (17, .slice A0 n0 c0), (18, .int .i64 (n0 : Nat)), (4, .pointer (some ⟨g57, 0, none⟩)), (19, .int .i64 (j : Nat))] ∧ St w0 w [bk g57 #[.bool (neg D), .slice Ad (zl D) cd] 36, bk g51 #[.bool (neg 0), .slice none (zl 0) 0] 36] [pfRow fK FK 4 A0 n0 c0 es0, pfZ Ad cd D] ∧ j ≤ n0 ∧ D = cmD (rs.take j) ∧ zl D ≤ 400 * j + 1 ∧ 0 < D) _ ⟨0, 1, A53, c54, rfl, henv.sub ⟨rfl, rfl, rfl, rfl, rfl, rfl, trivial⟩, hst.pick [0, 1] [1, 0] (by decide), (Nat.zero_le _), rfl, (nl_le_of_lt (by decide)), (by decide)⟩ ?_
  clear henv hst a
  rintro mz a w60 ⟨j, D, Ad, cd, rfl, henv, hst, hj, hD, hDz, hDp⟩
  refine wp_seq ?_
  refine region_seq ?_
  refine sv (v := .bool (decide (((j : Nat) : Int) < ((n0 : Nat) : Int)))) henv rfl (rn_bin henv rfl rfl rfl) ?_
  clear henv a; intro a henv
  refine wpList_nil ?_
  refine th_n ?_
  refine wp_seq ?_
  refine if_split henv rfl (fun hc61 => ?_) (fun hc61 => ?_)
  · have hlt : j < n0 := by have := of_decide_eq_true hc61; omega
    obtain ⟨⟨A, c, B, d, r⟩, he0⟩ : ∃ e, es0[j]? = some e := ⟨_, List.getElem?_eq_getElem (by omega)⟩
    replace hst := hst.elem (k := 0) rfl he0
    replace hst := hst.split2 (k := 0) rfl
    replace hst : St w0 _ [bk g57 #[.bool (neg D), .slice Ad (zl D) cd] 36, bk g51 #[.bool (neg 0), .slice none (zl 0) 0] 36] [pfZ A c (qn r), pfZ B d (ql r), FK (A, c, B, d, r), pfRow fK FK 4 A0 n0 c0 es0, pfZ Ad cd D] := hst
    have hrj := kr_at hrs he0
    have hrm : r ∈ rs := List.mem_of_getElem? hrj
    have hse := hq r hrm
    have hnr := hse.n
    have hdr := hse.d
    have hlr := hse.l
    have hpr := qd_pos r
    have hg0 := gcd_ne (n := D) (d := qd r) (qd_ne r)
    have hgs := gcd_zq D (qd r)
    have hqs := zl_ediv (qd r) ((Int.gcd D (qd r) : Nat) : Int)
    refine wp_skip ?_
    refine th_n ?_
    refine wp_seq ?_
    refine wp_block ?_
    refine wp_seq ?_
    refine region_seq ?_
    revert a
    refine sA (v := .pointer (some ⟨ab A0, ao A0 + j * 4, none⟩)) rfl (fun _ henv => rn_idxR (i := j) henv Tryd.underlying105 (ty_anvil_ratio_Rat.size) rfl rfl (by omega) rfl (show (pfRow fK FK 4 A0 n0 c0 es0).P _ from (hst.pat (k := 3) rfl)).1) ?_
    refine sA (v := .agg #[.bool (neg (qn r)), .slice A (zl (qn r)) c, .bool (neg (ql r)), .slice B (zl (ql r)) d]) rfl (fun _ henv => rn_loadE (i := j) (e := (A, c, B, d, r)) henv ty_anvil_ratio_Rat rfl rfl fK_len (show (pfRow fK FK 4 A0 n0 c0 es0).P _ from (hst.pat (k := 3) rfl)).1 (by omega) he0 rfl) ?_
    intro a henv
    refine seq_step rfl (op_alloc (c := #[.bool (neg (qn 0)), .slice none (zl (qn 0)) 0, .bool (neg (ql 0)), .slice none (zl (ql 0)) 0]) henv hst rfl zero_anvil_ratio_Rat qcells ?_)
    clear henv hst a; intro a w63 g62 henv hst
    refine seq_step rfl (op_store (k := 0) (c' := #[.bool (neg (qn r)), .slice A (zl (qn r)) c, .bool (neg (ql r)), .slice B (zl (ql r)) d]) henv hst (ty_anvil_ratio_Rat.size) rfl rfl rfl rfl (by simp) rfl rfl ?_)
    clear henv hst a; intro a w64 henv hst
    refine wpList_nil ?_
    refine th_n ?_
    refine wp_seq ?_
    refine cut (fun a w => ∃ A82 : Option Addr, ∃ c83 : Nat, ∃ A85 : Option Addr, ∃ c86 : Nat, ∃ g89 : Nat, ∃ g93 : Nat, Env 62 a [(0, .slice A0 n0 c0), (3, .pointer (some ⟨g51, 0, none⟩)), (17, .slice A0 n0 c0), (18, .int .i64 (n0 : Nat)), (4, .pointer (some ⟨g57, 0, none⟩)), (19, .int .i64 (j : Nat)), (20, .bool (decide (((j : Nat) : Int) < ((n0 : Nat) : Int)))), (21, .pointer (some ⟨ab A0, ao A0 + j * 4, none⟩)), (22, .agg #[.bool (neg (qn r)), .slice A (zl (qn r)) c, .bool (neg (ql r)), .slice B (zl (ql r)) d]), (6, .pointer (some ⟨g62, 0, none⟩)), (7, .pointer (some ⟨g89, 0, none⟩))] ∧ St w0 w [bk g93 #[.bool (neg ((qd r) % ((Int.gcd D (qd r) : Nat) : Int))), .slice A85 (zl ((qd r) % ((Int.gcd D (qd r) : Nat) : Int))) c86] 36, bk g89 #[.bool (neg ((qd r) / ((Int.gcd D (qd r) : Nat) : Int))), .slice A82 (zl ((qd r) / ((Int.gcd D (qd r) : Nat) : Int))) c83] 36, bk g62 #[.bool (neg (qn r)), .slice A (zl (qn r)) c, .bool (neg (ql r)), .slice B (zl (ql r)) d] 91, bk g57 #[.bool (neg D), .slice Ad (zl D) cd] 36, bk g51 #[.bool (neg 0), .slice none (zl 0) 0] 36] [pfZ A85 c86 ((qd r) % ((Int.gcd D (qd r) : Nat) : Int)), pfZ A82 c83 ((qd r) / ((Int.gcd D (qd r) : Nat) : Int)), pfZ A c (qn r), pfZ B d (ql r), FK (A, c, B, d, r), pfRow fK FK 4 A0 n0 c0 es0, pfZ Ad cd D]) ?_ ?_
    · refine region_any (n := 16) (Sk [bk g62 #[.bool (neg (qn r)), .slice A (zl (qn r)) c, .bool (neg (ql r)), .slice B (zl (ql r)) d] 91, bk g57 #[.bool (neg D), .slice Ad (zl D) cd] 36, bk g51 #[.bool (neg 0), .slice none (zl 0) 0] 36] [pfZ A c (qn r), pfZ B d (ql r), FK (A, c, B, d, r), pfRow fK FK 4 A0 n0 c0 es0, pfZ Ad cd D] [13, 14] []) mixed rfl henv hst ?_
      clear henv hst; intro w65 henv hst
      refine sAny_gen fun T hT => ?_
      have hN95 : ∀ (L : Array Bool) (a : Act) (w : World), L = #[true, true, true, true, true, true, true, true, true, true, true, true, true, false, false, false] → (∃ A82 : Option Addr, ∃ c83 : Nat, ∃ A85 : Option Addr, ∃ c86 : Nat, ∃ g89 : Nat, ∃ g93 : Nat, Env 62 a [(0, .slice A0 n0 c0), (3, .pointer (some ⟨g51, 0, none⟩)), (17, .slice A0 n0 c0), (18, .int .i64 (n0 : Nat)), (4, .pointer (some ⟨g57, 0, none⟩)), (19, .int .i64 (j : Nat)), (20, .bool (decide (((j : Nat) : Int) < ((n0 : Nat) : Int)))), (21, .pointer (some ⟨ab A0, ao A0 + j * 4, none⟩)), (22, .agg #[.bool (neg (qn r)), .slice A (zl (qn r)) c, .bool (neg (ql r)), .slice B (zl (ql r)) d]), (6, .pointer (some ⟨g62, 0, none⟩)), (31, .agg #[.bool (neg ((qd r) / ((Int.gcd D (qd r) : Nat) : Int))), .slice A82 (zl ((qd r) / ((Int.gcd D (qd r) : Nat) : Int))) c83]), (32, .agg #[.bool (neg ((qd r) % ((Int.gcd D (qd r) : Nat) : Int))), .slice A85 (zl ((qd r) % ((Int.gcd D (qd r) : Nat) : Int))) c86]), (33, .int .i64 0), (7, .pointer (some ⟨g89, 0, none⟩)), (8, .pointer (some ⟨g93, 0, none⟩))] ∧ St w0 w [bk g93 #[.bool (neg 0), .slice none (zl 0) 0] 36, bk g89 #[.bool (neg 0), .slice none (zl 0) 0] 36, bk g62 #[.bool (neg (qn r)), .slice A (zl (qn r)) c, .bool (neg (ql r)), .slice B (zl (ql r)) d] 91, bk g57 #[.bool (neg D), .slice Ad (zl D) cd] 36, bk g51 #[.bool (neg 0), .slice none (zl 0) 0] 36] [pfZ A85 c86 ((qd r) % ((Int.gcd D (qd r) : Nat) : Int)), pfZ A82 c83 ((qd r) / ((Int.gcd D (qd r) : Nat) : Int)), pfZ A c (qn r), pfZ B d (ql r), FK (A, c, B, d, r), pfRow fK FK 4 A0 n0 c0 es0, pfZ Ad cd D]) → T 3 L a w := by
        rintro _ a w96 rfl ⟨A82, c83, A85, c86, g89, g93, henv, hst⟩
        rw [hT]
        refine sAny_one (i := 13) (by kernel_rfl) rfl rfl (op_store (k := 1) (c' := #[.bool (neg ((qd r) / ((Int.gcd D (qd r) : Nat) : Int))), .slice A82 (zl ((qd r) / ((Int.gcd D (qd r) : Nat) : Int))) c83]) henv hst (ty_anvil_integer_Int.size) rfl rfl rfl rfl (by simp) rfl rfl ?_)
        clear henv hst a; intro a w97 henv hst
        refine ⟨.inr ⟨hst.kn.pick [2, 3, 4] (rg 2 5), .inl rfl⟩, ?_⟩
        refine sAny_one (i := 14) (by kernel_rfl) rfl rfl (op_store (k := 0) (c' := #[.bool (neg ((qd r) % ((Int.gcd D (qd r) : Nat) : Int))), .slice A85 (zl ((qd r) % ((Int.gcd D (qd r) : Nat) : Int))) c86]) henv hst (ty_anvil_integer_Int.size) rfl rfl rfl rfl (by simp) rfl rfl ?_)
        clear henv hst a; intro a w98 henv hst
        refine ⟨.inr ⟨hst.kn.pick [2, 3, 4] (rg 2 5), .inl rfl⟩, ?_⟩
        refine tA (i := 15) [] (v := .int .i64 0) rfl (by kernel_rfl) (fun _ _ _ h => h) henv rfl (fun _ => rn_assign henv rfl) ?_
        clear henv a; intro a henv
        refine sAny_done (by kernel_rfl) ?_ _
        exact th_n ⟨A82, c83, A85, c86, g89, g93, henv.sub ⟨rfl, rfl, rfl, rfl, rfl, rfl, rfl, rfl, rfl, rfl, rfl, trivial⟩, hst.pick [0, 1, 2, 3, 4] [0, 1, 2, 3, 4, 5, 6] (by decide)⟩
      have hN91 : ∀ (L : Array Bool) (a : Act) (w : World), L = #[true, true, true, true, true, true, true, true, true, true, true, true, false, false, false, false] → (∃ A82 : Option Addr, ∃ c83 : Nat, ∃ A85 : Option Addr, ∃ c86 : Nat, ∃ g89 : Nat, Env 62 a [(0, .slice A0 n0 c0), (3, .pointer (some ⟨g51, 0, none⟩)), (17, .slice A0 n0 c0), (18, .int .i64 (n0 : Nat)), (4, .pointer (some ⟨g57, 0, none⟩)), (19, .int .i64 (j : Nat)), (20, .bool (decide (((j : Nat) : Int) < ((n0 : Nat) : Int)))), (21, .pointer (some ⟨ab A0, ao A0 + j * 4, none⟩)), (22, .agg #[.bool (neg (qn r)), .slice A (zl (qn r)) c, .bool (neg (ql r)), .slice B (zl (ql r)) d]), (6, .pointer (some ⟨g62, 0, none⟩)), (31, .agg #[.bool (neg ((qd r) / ((Int.gcd D (qd r) : Nat) : Int))), .slice A82 (zl ((qd r) / ((Int.gcd D (qd r) : Nat) : Int))) c83]), (32, .agg #[.bool (neg ((qd r) % ((Int.gcd D (qd r) : Nat) : Int))), .slice A85 (zl ((qd r) % ((Int.gcd D (qd r) : Nat) : Int))) c86]), (33, .int .i64 0), (7, .pointer (some ⟨g89, 0, none⟩))] ∧ St w0 w [bk g89 #[.bool (neg 0), .slice none (zl 0) 0] 36, bk g62 #[.bool (neg (qn r)), .slice A (zl (qn r)) c, .bool (neg (ql r)), .slice B (zl (ql r)) d] 91, bk g57 #[.bool (neg D), .slice Ad (zl D) cd] 36, bk g51 #[.bool (neg 0), .slice none (zl 0) 0] 36] [pfZ A85 c86 ((qd r) % ((Int.gcd D (qd r) : Nat) : Int)), pfZ A82 c83 ((qd r) / ((Int.gcd D (qd r) : Nat) : Int)), pfZ A c (qn r), pfZ B d (ql r), FK (A, c, B, d, r), pfRow fK FK 4 A0 n0 c0 es0, pfZ Ad cd D]) → T 4 L a w := by
        rintro _ a w92 rfl ⟨A82, c83, A85, c86, g89, henv, hst⟩
        rw [hT]
        refine sAny_one (i := 12) (by kernel_rfl) rfl rfl (op_alloc (c := #[.bool (neg 0), .slice none (zl 0) 0]) henv hst rfl zero_anvil_integer_Int zcells ?_)
        clear henv hst a; intro a w94 g93 henv hst
        refine ⟨.inr ⟨hst.kn.pick [2, 3, 4] (rg 2 5), .inr (hst.kn.pick [] [])⟩, ?_⟩
        rw [← hT]
        exact hN95 _ _ _ (by kernel_rfl) ⟨A82, c83, A85, c86, g89, g93, henv.sub ⟨rfl, rfl, rfl, rfl, rfl, rfl, rfl, rfl, rfl, rfl, rfl, rfl, rfl, rfl, rfl, trivial⟩, hst.pick [0, 1, 2, 3, 4] [0, 1, 2, 3, 4, 5, 6] (by decide)⟩
      have hN101 : ∀ (L : Array Bool) (a : Act) (w : World), L = #[true, true, true, true, true, true, true, true, true, true, true, false, true, false, false, false] → (∃ A82 : Option Addr, ∃ c83 : Nat, ∃ A85 : Option Addr, ∃ c86 : Nat, ∃ g99 : Nat, Env 62 a [(0, .slice A0 n0 c0), (3, .pointer (some ⟨g51, 0, none⟩)), (17, .slice A0 n0 c0), (18, .int .i64 (n0 : Nat)), (4, .pointer (some ⟨g57, 0, none⟩)), (19, .int .i64 (j : Nat)), (20, .bool (decide (((j : Nat) : Int) < ((n0 : Nat) : Int)))), (21, .pointer (some ⟨ab A0, ao A0 + j * 4, none⟩)), (22, .agg #[.bool (neg (qn r)), .slice A (zl (qn r)) c, .bool (neg (ql r)), .slice B (zl (ql r)) d]), (6, .pointer (some ⟨g62, 0, none⟩)), (31, .agg #[.bool (neg ((qd r) / ((Int.gcd D (qd r) : Nat) : Int))), .slice A82 (zl ((qd r) / ((Int.gcd D (qd r) : Nat) : Int))) c83]), (32, .agg #[.bool (neg ((qd r) % ((Int.gcd D (qd r) : Nat) : Int))), .slice A85 (zl ((qd r) % ((Int.gcd D (qd r) : Nat) : Int))) c86]), (33, .int .i64 0), (8, .pointer (some ⟨g99, 0, none⟩))] ∧ St w0 w [bk g99 #[.bool (neg 0), .slice none (zl 0) 0] 36, bk g62 #[.bool (neg (qn r)), .slice A (zl (qn r)) c, .bool (neg (ql r)), .slice B (zl (ql r)) d] 91, bk g57 #[.bool (neg D), .slice Ad (zl D) cd] 36, bk g51 #[.bool (neg 0), .slice none (zl 0) 0] 36] [pfZ A85 c86 ((qd r) % ((Int.gcd D (qd r) : Nat) : Int)), pfZ A82 c83 ((qd r) / ((Int.gcd D (qd r) : Nat) : Int)), pfZ A c (qn r), pfZ B d (ql r), FK (A, c, B, d, r), pfRow fK FK 4 A0 n0 c0 es0, pfZ Ad cd D]) → T 4 L a w := by
        rintro _ a w102 rfl ⟨A82, c83, A85, c86, g99, henv, hst⟩
        rw [hT]
        refine sAny_one (i := 11) (by kernel_rfl) rfl rfl (op_alloc (c := #[.bool (neg 0), .slice none (zl 0) 0]) henv hst rfl zero_anvil_integer_Int zcells ?_)
        clear henv hst a; intro a w104 g103 henv hst
        refine ⟨.inr ⟨hst.kn.pick [2, 3, 4] (rg 2 5), .inr (hst.kn.pick [] [])⟩, ?_⟩
        rw [← hT]
        exact hN95 _ _ _ (by kernel_rfl) ⟨A82, c83, A85, c86, g103, g99, henv.sub ⟨rfl, rfl, rfl, rfl, rfl, rfl, rfl, rfl, rfl, rfl, rfl, rfl, rfl, rfl, rfl, trivial⟩, hst.pick [1, 0, 2, 3, 4] [0, 1, 2, 3, 4, 5, 6] (by decide)⟩
      have hN119 : ∀ (L : Array Bool) (a : Act) (w : World), L = #[true, true, true, true, true, true, false, false, false, false, false, true, true, false, false, false] → (∃ A66 : Option Addr, ∃ c67 : Nat, ∃ A77 : Option Addr, ∃ c78 : Nat, ∃ g105 : Nat, ∃ g117 : Nat, Env 62 a [(0, .slice A0 n0 c0), (3, .pointer (some ⟨g51, 0, none⟩)), (17, .slice A0 n0 c0), (18, .int .i64 (n0 : Nat)), (4, .pointer (some ⟨g57, 0, none⟩)), (19, .int .i64 (j : Nat)), (20, .bool (decide (((j : Nat) : Int) < ((n0 : Nat) : Int)))), (21, .pointer (some ⟨ab A0, ao A0 + j * 4, none⟩)), (22, .agg #[.bool (neg (qn r)), .slice A (zl (qn r)) c, .bool (neg (ql r)), .slice B (zl (ql r)) d]), (6, .pointer (some ⟨g62, 0, none⟩)), (25, .agg #[.bool (neg (qd r)), .slice A66 (zl (qd r)) c67]), (29, .agg #[.bool (neg ((Int.gcd D (qd r) : Nat) : Int)), .slice A77 (zl ((Int.gcd D (qd r) : Nat) : Int)) c78]), (7, .pointer (some ⟨g105, 0, none⟩)), (8, .pointer (some ⟨g117, 0, none⟩))] ∧ St w0 w [bk g117 #[.bool (neg 0), .slice none (zl 0) 0] 36, bk g105 #[.bool (neg 0), .slice none (zl 0) 0] 36, bk g62 #[.bool (neg (qn r)), .slice A (zl (qn r)) c, .bool (neg (ql r)), .slice B (zl (ql r)) d] 91, bk g57 #[.bool (neg D), .slice Ad (zl D) cd] 36, bk g51 #[.bool (neg 0), .slice none (zl 0) 0] 36] [pfZ A77 c78 ((Int.gcd D (qd r) : Nat) : Int), pfZ A66 c67 (qd r), pfZ A c (qn r), pfZ B d (ql r), FK (A, c, B, d, r), pfRow fK FK 4 A0 n0 c0 es0, pfZ Ad cd D]) → T 8 L a w := by
        rintro _ a w120 rfl ⟨A66, c67, A77, c78, g105, g117, henv, hst⟩
        rw [hT]
        have hs121 := zl_ediv (qd r) ((Int.gcd D (qd r) : Nat) : Int)
        refine sAny_one (i := 6) (by kernel_rfl) rfl rfl (op_call henv rfl Tryd.call117 rfl (divmod_z (x := (qd r)) (y := ((Int.gcd D (qd r) : Nat) : Int)) (show ZIn _ A66 c67 (qd r) from hst.pat (k := 1) rfl) (show ZIn _ A77 c78 ((Int.gcd D (qd r) : Nat) : Int) from hst.pat (k := 0) rfl) (by omega) (by omega) hg0) ?_)
        rintro e w128 ⟨_, _, rfl, ⟨A122, c123, rfl, hz124⟩, ⟨A125, c126, rfl, hz127⟩, hb⟩
        refine ⟨_, rfl, ?_⟩
        clear henv a; intro a henv
        replace hst := ((hst.call hb).addZ hz124 ⟨nou_bk rfl, nou_bk rfl, nou_bk rfl, nou_bk rfl, nou_bk rfl, trivial⟩).addZ hz127 ⟨nou_bk rfl, nou_bk rfl, nou_bk rfl, nou_bk rfl, nou_bk rfl, trivial⟩
        clear hz124 hz127
        clear hb
        refine ⟨.inr ⟨hst.kn.pick [2, 3, 4] (rg 4 5), .inr (hst.kn.pick [] [])⟩, ?_⟩
        refine tM (i := 7) [8, 9, 10, 13, 14, 15] rfl (by kernel_rfl) (fun _ _ _ h => h) henv rfl rfl ?_
        clear henv a; intro a henv
        refine tA (i := 8) [13, 14, 15] (v := .agg #[.bool (neg ((qd r) / ((Int.gcd D (qd r) : Nat) : Int))), .slice A122 (zl ((qd r) / ((Int.gcd D (qd r) : Nat) : Int))) c123]) rfl (by kernel_rfl) (fun _ _ _ h => h) henv rfl (fun _ => rn_extract henv rfl rfl) ?_
        clear henv a; intro a henv
        refine tA (i := 9) [14, 15] (v := .agg #[.bool (neg ((qd r) % ((Int.gcd D (qd r) : Nat) : Int))), .slice A125 (zl ((qd r) % ((Int.gcd D (qd r) : Nat) : Int))) c126]) rfl (by kernel_rfl) (fun _ _ _ h => h) henv rfl (fun _ => rn_extract henv rfl rfl) ?_
        clear henv a; intro a henv
        refine tA (i := 10) [15] (v := .int .i64 0) rfl (by kernel_rfl) (fun _ _ _ h => h) henv rfl (fun _ => rn_extract henv rfl rfl) ?_
        clear henv a; intro a henv
        rw [← hT]
        exact hN95 _ _ _ (by kernel_rfl) ⟨A122, c123, A125, c126, g105, g117, henv.sub ⟨rfl, rfl, rfl, rfl, rfl, rfl, rfl, rfl, rfl, rfl, rfl, rfl, rfl, rfl, rfl, trivial⟩, hst.pick [0, 1, 2, 3, 4] [0, 1, 4, 5, 6, 7, 8] (by decide)⟩
      have hN107 : ∀ (L : Array Bool) (a : Act) (w : World), L = #[true, true, true, true, true, true, false, false, false, false, false, true, false, false, false, false] → (∃ A66 : Option Addr, ∃ c67 : Nat, ∃ A77 : Option Addr, ∃ c78 : Nat, ∃ g105 : Nat, Env 62 a [(0, .slice A0 n0 c0), (3, .pointer (some ⟨g51, 0, none⟩)), (17, .slice A0 n0 c0), (18, .int .i64 (n0 : Nat)), (4, .pointer (some ⟨g57, 0, none⟩)), (19, .int .i64 (j : Nat)), (20, .bool (decide (((j : Nat) : Int) < ((n0 : Nat) : Int)))), (21, .pointer (some ⟨ab A0, ao A0 + j * 4, none⟩)), (22, .agg #[.bool (neg (qn r)), .slice A (zl (qn r)) c, .bool (neg (ql r)), .slice B (zl (ql r)) d]), (6, .pointer (some ⟨g62, 0, none⟩)), (25, .agg #[.bool (neg (qd r)), .slice A66 (zl (qd r)) c67]), (29, .agg #[.bool (neg ((Int.gcd D (qd r) : Nat) : Int)), .slice A77 (zl ((Int.gcd D (qd r) : Nat) : Int)) c78]), (7, .pointer (some ⟨g105, 0, none⟩))] ∧ St w0 w [bk g105 #[.bool (neg 0), .slice none (zl 0) 0] 36, bk g62 #[.bool (neg (qn r)), .slice A (zl (qn r)) c, .bool (neg (ql r)), .slice B (zl (ql r)) d] 91, bk g57 #[.bool (neg D), .slice Ad (zl D) cd] 36, bk g51 #[.bool (neg 0), .slice none (zl 0) 0] 36] [pfZ A77 c78 ((Int.gcd D (qd r) : Nat) : Int), pfZ A66 c67 (qd r), pfZ A c (qn r), pfZ B d (ql r), FK (A, c, B, d, r), pfRow fK FK 4 A0 n0 c0 es0, pfZ Ad cd D]) → T 9 L a w := by
        rintro _ a w108 rfl ⟨A66, c67, A77, c78, g105, henv, hst⟩
        rw [hT]
        refine sAny_all (rs := [6, 12]) (by kernel_rfl) (by simp) ?_
        simp only [List.forall_mem_cons, List.not_mem_nil, false_implies, implies_true, and_true]
        refine ⟨?_, ?_⟩
        · have hs109 := zl_ediv (qd r) ((Int.gcd D (qd r) : Nat) : Int)
          refine ⟨_, rfl, rfl, op_call henv rfl Tryd.call117 rfl (divmod_z (x := (qd r)) (y := ((Int.gcd D (qd r) : Nat) : Int)) (show ZIn _ A66 c67 (qd r) from hst.pat (k := 1) rfl) (show ZIn _ A77 c78 ((Int.gcd D (qd r) : Nat) : Int) from hst.pat (k := 0) rfl) (by omega) (by omega) hg0) ?_⟩
          rintro e w116 ⟨_, _, rfl, ⟨A110, c111, rfl, hz112⟩, ⟨A113, c114, rfl, hz115⟩, hb⟩
          refine ⟨_, rfl, ?_⟩
          clear henv a; intro a henv
          replace hst := ((hst.call hb).addZ hz112 ⟨nou_bk rfl, nou_bk rfl, nou_bk rfl, nou_bk rfl, trivial⟩).addZ hz115 ⟨nou_bk rfl, nou_bk rfl, nou_bk rfl, nou_bk rfl, trivial⟩
          clear hz112 hz115
          clear hb
          refine ⟨.inr ⟨hst.kn.pick [1, 2, 3] (rg 4 5), .inr (hst.kn.pick [] [])⟩, ?_⟩
          refine tM (i := 7) [8, 9, 10, 13, 14, 15] rfl (by kernel_rfl) (fun _ _ _ h => h) henv rfl rfl ?_
          clear henv a; intro a henv
          refine tA (i := 8) [13, 14, 15] (v := .agg #[.bool (neg ((qd r) / ((Int.gcd D (qd r) : Nat) : Int))), .slice A110 (zl ((qd r) / ((Int.gcd D (qd r) : Nat) : Int))) c111]) rfl (by kernel_rfl) (fun _ _ _ h => h) henv rfl (fun _ => rn_extract henv rfl rfl) ?_
          clear henv a; intro a henv
          refine tA (i := 9) [14, 15] (v := .agg #[.bool (neg ((qd r) % ((Int.gcd D (qd r) : Nat) : Int))), .slice A113 (zl ((qd r) % ((Int.gcd D (qd r) : Nat) : Int))) c114]) rfl (by kernel_rfl) (fun _ _ _ h => h) henv rfl (fun _ => rn_extract henv rfl rfl) ?_
          clear henv a; intro a henv
          refine tA (i := 10) [15] (v := .int .i64 0) rfl (by kernel_rfl) (fun _ _ _ h => h) henv rfl (fun _ => rn_extract henv rfl rfl) ?_
          clear henv a; intro a henv
          rw [← hT]
          exact hN91 _ _ _ (by kernel_rfl) ⟨A110, c111, A113, c114, g105, henv.sub ⟨rfl, rfl, rfl, rfl, rfl, rfl, rfl, rfl, rfl, rfl, rfl, rfl, rfl, rfl, trivial⟩, hst.pick [0, 1, 2, 3] [0, 1, 4, 5, 6, 7, 8] (by decide)⟩
        · refine ⟨_, rfl, rfl, op_alloc (c := #[.bool (neg 0), .slice none (zl 0) 0]) henv hst rfl zero_anvil_integer_Int zcells ?_⟩
          clear henv hst a; intro a w118 g117 henv hst
          refine ⟨.inr ⟨hst.kn.pick [2, 3, 4] (rg 2 5), .inr (hst.kn.pick [] [])⟩, ?_⟩
          rw [← hT]
          exact hN119 _ _ _ (by kernel_rfl) ⟨A66, c67, A77, c78, g105, g117, henv.sub ⟨rfl, rfl, rfl, rfl, rfl, rfl, rfl, rfl, rfl, rfl, rfl, rfl, rfl, rfl, trivial⟩, hst.pick [0, 1, 2, 3, 4] [0, 1, 2, 3, 4, 5, 6] (by decide)⟩
      have hN131 : ∀ (L : Array Bool) (a : Act) (w : World), L = #[true, true, true, true, true, true, false, false, false, false, false, false, true, false, false, false] → (∃ A66 : Option Addr, ∃ c67 : Nat, ∃ A77 : Option Addr, ∃ c78 : Nat, ∃ g129 : Nat, Env 62 a [(0, .slice A0 n0 c0), (3, .pointer (some ⟨g51, 0, none⟩)), (17, .slice A0 n0 c0), (18, .int .i64 (n0 : Nat)), (4, .pointer (some ⟨g57, 0, none⟩)), (19, .int .i64 (j : Nat)), (20, .bool (decide (((j : Nat) : Int) < ((n0 : Nat) : Int)))), (21, .pointer (some ⟨ab A0, ao A0 + j * 4, none⟩)), (22, .agg #[.bool (neg (qn r)), .slice A (zl (qn r)) c, .bool (neg (ql r)), .slice B (zl (ql r)) d]), (6, .pointer (some ⟨g62, 0, none⟩)), (25, .agg #[.bool (neg (qd r)), .slice A66 (zl (qd r)) c67]), (29, .agg #[.bool (neg ((Int.gcd D (qd r) : Nat) : Int)), .slice A77 (zl ((Int.gcd D (qd r) : Nat) : Int)) c78]), (8, .pointer (some ⟨g129, 0, none⟩))] ∧ St w0 w [bk g129 #[.bool (neg 0), .slice none (zl 0) 0] 36, bk g62 #[.bool (neg (qn r)), .slice A (zl (qn r)) c, .bool (neg (ql r)), .slice B (zl (ql r)) d] 91, bk g57 #[.bool (neg D), .slice Ad (zl D) cd] 36, bk g51 #[.bool (neg 0), .slice none (zl 0) 0] 36] [pfZ A77 c78 ((Int.gcd D (qd r) : Nat) : Int), pfZ A66 c67 (qd r), pfZ A c (qn r), pfZ B d (ql r), FK (A, c, B, d, r), pfRow fK FK 4 A0 n0 c0 es0, pfZ Ad cd D]) → T 9 L a w := by
        rintro _ a w132 rfl ⟨A66, c67, A77, c78, g129, henv, hst⟩
        rw [hT]
        refine sAny_all (rs := [6, 11]) (by kernel_rfl) (by simp) ?_
        simp only [List.forall_mem_cons, List.not_mem_nil, false_implies, implies_true, and_true]
        refine ⟨?_, ?_⟩
        · have hs133 := zl_ediv (qd r) ((Int.gcd D (qd r) : Nat) : Int)
          refine ⟨_, rfl, rfl, op_call henv rfl Tryd.call117 rfl (divmod_z (x := (qd r)) (y := ((Int.gcd D (qd r) : Nat) : Int)) (show ZIn _ A66 c67 (qd r) from hst.pat (k := 1) rfl) (show ZIn _ A77 c78 ((Int.gcd D (qd r) : Nat) : Int) from hst.pat (k := 0) rfl) (by omega) (by omega) hg0) ?_⟩
          rintro e w140 ⟨_, _, rfl, ⟨A134, c135, rfl, hz136⟩, ⟨A137, c138, rfl, hz139⟩, hb⟩
          refine ⟨_, rfl, ?_⟩
          clear henv a; intro a henv
          replace hst := ((hst.call hb).addZ hz136 ⟨nou_bk rfl, nou_bk rfl, nou_bk rfl, nou_bk rfl, trivial⟩).addZ hz139 ⟨nou_bk rfl, nou_bk rfl, nou_bk rfl, nou_bk rfl, trivial⟩
          clear hz136 hz139
          clear hb
          refine ⟨.inr ⟨hst.kn.pick [1, 2, 3] (rg 4 5), .inr (hst.kn.pick [] [])⟩, ?_⟩
          refine tM (i := 7) [8, 9, 10, 13, 14, 15] rfl (by kernel_rfl) (fun _ _ _ h => h) henv rfl rfl ?_
          clear henv a; intro a henv
          refine tA (i := 8) [13, 14, 15] (v := .agg #[.bool (neg ((qd r) / ((Int.gcd D (qd r) : Nat) : Int))), .slice A134 (zl ((qd r) / ((Int.gcd D (qd r) : Nat) : Int))) c135]) rfl (by kernel_rfl) (fun _ _ _ h => h) henv rfl (fun _ => rn_extract henv rfl rfl) ?_
          clear henv a; intro a henv
          refine tA (i := 9) [14, 15] (v := .agg #[.bool (neg ((qd r) % ((Int.gcd D (qd r) : Nat) : Int))), .slice A137 (zl ((qd r) % ((Int.gcd D (qd r) : Nat) : Int))) c138]) rfl (by kernel_rfl) (fun _ _ _ h => h) henv rfl (fun _ => rn_extract henv rfl rfl) ?_
          clear henv a; intro a henv
          refine tA (i := 10) [15] (v := .int .i64 0) rfl (by kernel_rfl) (fun _ _ _ h => h) henv rfl (fun _ => rn_extract henv rfl rfl) ?_
          clear henv a; intro a henv
          rw [← hT]
          exact hN101 _ _ _ (by kernel_rfl) ⟨A134, c135, A137, c138, g129, henv.sub ⟨rfl, rfl, rfl, rfl, rfl, rfl, rfl, rfl, rfl, rfl, rfl, rfl, rfl, rfl, trivial⟩, hst.pick [0, 1, 2, 3] [0, 1, 4, 5, 6, 7, 8] (by decide)⟩
        · refine ⟨_, rfl, rfl, op_alloc (c := #[.bool (neg 0), .slice none (zl 0) 0]) henv hst rfl zero_anvil_integer_Int zcells ?_⟩
          clear henv hst a; intro a w142 g141 henv hst
          refine ⟨.inr ⟨hst.kn.pick [2, 3, 4] (rg 2 5), .inr (hst.kn.pick [] [])⟩, ?_⟩
          rw [← hT]
          exact hN119 _ _ _ (by kernel_rfl) ⟨A66, c67, A77, c78, g141, g129, henv.sub ⟨rfl, rfl, rfl, rfl, rfl, rfl, rfl, rfl, rfl, rfl, rfl, rfl, rfl, rfl, trivial⟩, hst.pick [1, 0, 2, 3, 4] [0, 1, 2, 3, 4, 5, 6] (by decide)⟩
      have hN154 : ∀ (L : Array Bool) (a : Act) (w : World), L = #[true, true, true, true, true, false, false, false, false, false, false, true, true, false, false, false] → (∃ A66 : Option Addr, ∃ c67 : Nat, ∃ A71 : Option Addr, ∃ c72 : Nat, ∃ g143 : Nat, ∃ g152 : Nat, Env 62 a [(0, .slice A0 n0 c0), (3, .pointer (some ⟨g51, 0, none⟩)), (17, .slice A0 n0 c0), (18, .int .i64 (n0 : Nat)), (4, .pointer (some ⟨g57, 0, none⟩)), (19, .int .i64 (j : Nat)), (20, .bool (decide (((j : Nat) : Int) < ((n0 : Nat) : Int)))), (21, .pointer (some ⟨ab A0, ao A0 + j * 4, none⟩)), (22, .agg #[.bool (neg (qn r)), .slice A (zl (qn r)) c, .bool (neg (ql r)), .slice B (zl (ql r)) d]), (6, .pointer (some ⟨g62, 0, none⟩)), (26, .agg #[.bool (neg D), .slice Ad (zl D) cd]), (25, .agg #[.bool (neg (qd r)), .slice A66 (zl (qd r)) c67]), (28, .agg #[.bool (neg (qd r)), .slice A71 (zl (qd r)) c72]), (7, .pointer (some ⟨g143, 0, none⟩)), (8, .pointer (some ⟨g152, 0, none⟩))] ∧ St w0 w [bk g152 #[.bool (neg 0), .slice none (zl 0) 0] 36, bk g143 #[.bool (neg 0), .slice none (zl 0) 0] 36, bk g62 #[.bool (neg (qn r)), .slice A (zl (qn r)) c, .bool (neg (ql r)), .slice B (zl (ql r)) d] 91, bk g57 #[.bool (neg D), .slice Ad (zl D) cd] 36, bk g51 #[.bool (neg 0), .slice none (zl 0) 0] 36] [pfZ A71 c72 (qd r), pfZ A66 c67 (qd r), pfZ A c (qn r), pfZ B d (ql r), FK (A, c, B, d, r), pfRow fK FK 4 A0 n0 c0 es0, pfZ Ad cd D]) → T 9 L a w := by
        rintro _ a w155 rfl ⟨A66, c67, A71, c72, g143, g152, henv, hst⟩
        rw [hT]
        have hs156 := gcd_zq D (qd r)
        refine sAny_one (i := 5) (by kernel_rfl) rfl rfl (op_call henv rfl Tryd.call93 rfl (gcd_z (x := D) (y := (qd r)) (show ZIn _ Ad cd D from hst.pat (k := 6) rfl) (show ZIn _ A71 c72 (qd r) from hst.pat (k := 0) rfl) (by omega) (by omega)) ?_)
        rintro e w160 ⟨_, rfl, ⟨A157, c158, rfl, hz159⟩, hb⟩
        refine ⟨_, rfl, ?_⟩
        clear henv a; intro a henv
        replace hst := (hst.call hb).addZ hz159 ⟨nou_bk rfl, nou_bk rfl, nou_bk rfl, nou_bk rfl, nou_bk rfl, trivial⟩
        clear hz159
        clear hb
        refine ⟨.inr ⟨hst.kn.pick [2, 3, 4] (rg 3 5), .inr (hst.kn.pick [] [])⟩, ?_⟩
        rw [← hT]
        exact hN119 _ _ _ (by kernel_rfl) ⟨A66, c67, A157, c158, g143, g152, henv.sub ⟨rfl, rfl, rfl, rfl, rfl, rfl, rfl, rfl, rfl, rfl, rfl, rfl, rfl, rfl, trivial⟩, hst.pick [0, 1, 2, 3, 4] [0, 2, 3, 4, 5, 6, 7] (by decide)⟩
      have hN145 : ∀ (L : Array Bool) (a : Act) (w : World), L = #[true, true, true, true, true, false, false, false, false, false, false, true, false, false, false, false] → (∃ A66 : Option Addr, ∃ c67 : Nat, ∃ A71 : Option Addr, ∃ c72 : Nat, ∃ g143 : Nat, Env 62 a [(0, .slice A0 n0 c0), (3, .pointer (some ⟨g51, 0, none⟩)), (17, .slice A0 n0 c0), (18, .int .i64 (n0 : Nat)), (4, .pointer (some ⟨g57, 0, none⟩)), (19, .int .i64 (j : Nat)), (20, .bool (decide (((j : Nat) : Int) < ((n0 : Nat) : Int)))), (21, .pointer (some ⟨ab A0, ao A0 + j * 4, none⟩)), (22, .agg #[.bool (neg (qn r)), .slice A (zl (qn r)) c, .bool (neg (ql r)), .slice B (zl (ql r)) d]), (6, .pointer (some ⟨g62, 0, none⟩)), (26, .agg #[.bool (neg D), .slice Ad (zl D) cd]), (25, .agg #[.bool (neg (qd r)), .slice A66 (zl (qd r)) c67]), (28, .agg #[.bool (neg (qd r)), .slice A71 (zl (qd r)) c72]), (7, .pointer (some ⟨g143, 0, none⟩))] ∧ St w0 w [bk g143 #[.bool (neg 0), .slice none (zl 0) 0] 36, bk g62 #[.bool (neg (qn r)), .slice A (zl (qn r)) c, .bool (neg (ql r)), .slice B (zl (ql r)) d] 91, bk g57 #[.bool (neg D), .slice Ad (zl D) cd] 36, bk g51 #[.bool (neg 0), .slice none (zl 0) 0] 36] [pfZ A71 c72 (qd r), pfZ A66 c67 (qd r), pfZ A c (qn r), pfZ B d (ql r), FK (A, c, B, d, r), pfRow fK FK 4 A0 n0 c0 es0, pfZ Ad cd D]) → T 10 L a w := by
        rintro _ a w146 rfl ⟨A66, c67, A71, c72, g143, henv, hst⟩
        rw [hT]
        refine sAny_all (rs := [5, 12]) (by kernel_rfl) (by simp) ?_
        simp only [List.forall_mem_cons, List.not_mem_nil, false_implies, implies_true, and_true]
        refine ⟨?_, ?_⟩
        · have hs147 := gcd_zq D (qd r)
          refine ⟨_, rfl, rfl, op_call henv rfl Tryd.call93 rfl (gcd_z (x := D) (y := (qd r)) (show ZIn _ Ad cd D from hst.pat (k := 6) rfl) (show ZIn _ A71 c72 (qd r) from hst.pat (k := 0) rfl) (by omega) (by omega)) ?_⟩
          rintro e w151 ⟨_, rfl, ⟨A148, c149, rfl, hz150⟩, hb⟩
          refine ⟨_, rfl, ?_⟩
          clear henv a; intro a henv
          replace hst := (hst.call hb).addZ hz150 ⟨nou_bk rfl, nou_bk rfl, nou_bk rfl, nou_bk rfl, trivial⟩
          clear hz150
          clear hb
          refine ⟨.inr ⟨hst.kn.pick [1, 2, 3] (rg 3 5), .inr (hst.kn.pick [] [])⟩, ?_⟩
          rw [← hT]
          exact hN107 _ _ _ (by kernel_rfl) ⟨A66, c67, A148, c149, g143, henv.sub ⟨rfl, rfl, rfl, rfl, rfl, rfl, rfl, rfl, rfl, rfl, rfl, rfl, rfl, trivial⟩, hst.pick [0, 1, 2, 3] [0, 2, 3, 4, 5, 6, 7] (by decide)⟩
        · refine ⟨_, rfl, rfl, op_alloc (c := #[.bool (neg 0), .slice none (zl 0) 0]) henv hst rfl zero_anvil_integer_Int zcells ?_⟩
          clear henv hst a; intro a w153 g152 henv hst
          refine ⟨.inr ⟨hst.kn.pick [2, 3, 4] (rg 2 5), .inr (hst.kn.pick [] [])⟩, ?_⟩
          rw [← hT]
          exact hN154 _ _ _ (by kernel_rfl) ⟨A66, c67, A71, c72, g143, g152, henv.sub ⟨rfl, rfl, rfl, rfl, rfl, rfl, rfl, rfl, rfl, rfl, rfl, rfl, rfl, rfl, rfl, trivial⟩, hst.pick [0, 1, 2, 3, 4] [0, 1, 2, 3, 4, 5, 6] (by decide)⟩
      have hN163 : ∀ (L : Array Bool) (a : Act) (w : World), L = #[true, true, true, true, true, false, false, false, false, false, false, false, true, false, false, false] → (∃ A66 : Option Addr, ∃ c67 : Nat, ∃ A71 : Option Addr, ∃ c72 : Nat, ∃ g161 : Nat, Env 62 a [(0, .slice A0 n0 c0), (3, .pointer (some ⟨g51, 0, none⟩)), (17, .slice A0 n0 c0), (18, .int .i64 (n0 : Nat)), (4, .pointer (some ⟨g57, 0, none⟩)), (19, .int .i64 (j : Nat)), (20, .bool (decide (((j : Nat) : Int) < ((n0 : Nat) : Int)))), (21, .pointer (some ⟨ab A0, ao A0 + j * 4, none⟩)), (22, .agg #[.bool (neg (qn r)), .slice A (zl (qn r)) c, .bool (neg (ql r)), .slice B (zl (ql r)) d]), (6, .pointer (some ⟨g62, 0, none⟩)), (26, .agg #[.bool (neg D), .slice Ad (zl D) cd]), (25, .agg #[.bool (neg (qd r)), .slice A66 (zl (qd r)) c67]), (28, .agg #[.bool (neg (qd r)), .slice A71 (zl (qd r)) c72]), (8, .pointer (some ⟨g161, 0, none⟩))] ∧ St w0 w [bk g161 #[.bool (neg 0), .slice none (zl 0) 0] 36, bk g62 #[.bool (neg (qn r)), .slice A (zl (qn r)) c, .bool (neg (ql r)), .slice B (zl (ql r)) d] 91, bk g57 #[.bool (neg D), .slice Ad (zl D) cd] 36, bk g51 #[.bool (neg 0), .slice none (zl 0) 0] 36] [pfZ A71 c72 (qd r), pfZ A66 c67 (qd r), pfZ A c (qn r), pfZ B d (ql r), FK (A, c, B, d, r), pfRow fK FK 4 A0 n0 c0 es0, pfZ Ad cd D]) → T 10 L a w := by
        rintro _ a w164 rfl ⟨A66, c67, A71, c72, g161, henv, hst⟩
        rw [hT]
        refine sAny_all (rs := [5, 11]) (by kernel_rfl) (by simp) ?_
        simp only [List.forall_mem_cons, List.not_mem_nil, false_implies, implies_true, and_true]
        refine ⟨?_, ?_⟩
        · have hs165 := gcd_zq D (qd r)
          refine ⟨_, rfl, rfl, op_call henv rfl Tryd.call93 rfl (gcd_z (x := D) (y := (qd r)) (show ZIn _ Ad cd D from hst.pat (k := 6) rfl) (show ZIn _ A71 c72 (qd r) from hst.pat (k := 0) rfl) (by omega) (by omega)) ?_⟩
          rintro e w169 ⟨_, rfl, ⟨A166, c167, rfl, hz168⟩, hb⟩
          refine ⟨_, rfl, ?_⟩
          clear henv a; intro a henv
          replace hst := (hst.call hb).addZ hz168 ⟨nou_bk rfl, nou_bk rfl, nou_bk rfl, nou_bk rfl, trivial⟩
          clear hz168
          clear hb
          refine ⟨.inr ⟨hst.kn.pick [1, 2, 3] (rg 3 5), .inr (hst.kn.pick [] [])⟩, ?_⟩
          rw [← hT]
          exact hN131 _ _ _ (by kernel_rfl) ⟨A66, c67, A166, c167, g161, henv.sub ⟨rfl, rfl, rfl, rfl, rfl, rfl, rfl, rfl, rfl, rfl, rfl, rfl, rfl, trivial⟩, hst.pick [0, 1, 2, 3] [0, 2, 3, 4, 5, 6, 7] (by decide)⟩
        · refine ⟨_, rfl, rfl, op_alloc (c := #[.bool (neg 0), .slice none (zl 0) 0]) henv hst rfl zero_anvil_integer_Int zcells ?_⟩
          clear henv hst a; intro a w171 g170 henv hst
          refine ⟨.inr ⟨hst.kn.pick [2, 3, 4] (rg 2 5), .inr (hst.kn.pick [] [])⟩, ?_⟩
          rw [← hT]
          exact hN154 _ _ _ (by kernel_rfl) ⟨A66, c67, A71, c72, g170, g161, henv.sub ⟨rfl, rfl, rfl, rfl, rfl, rfl, rfl, rfl, rfl, rfl, rfl, rfl, rfl, rfl, rfl, trivial⟩, hst.pick [1, 0, 2, 3, 4] [0, 1, 2, 3, 4, 5, 6] (by decide)⟩
      have hN183 : ∀ (L : Array Bool) (a : Act) (w : World), L = #[true, true, true, true, false, false, false, false, false, false, false, true, true, false, false, false] → (∃ A66 : Option Addr, ∃ c67 : Nat, ∃ g172 : Nat, ∃ g181 : Nat, Env 62 a [(0, .slice A0 n0 c0), (3, .pointer (some ⟨g51, 0, none⟩)), (17, .slice A0 n0 c0), (18, .int .i64 (n0 : Nat)), (4, .pointer (some ⟨g57, 0, none⟩)), (19, .int .i64 (j : Nat)), (20, .bool (decide (((j : Nat) : Int) < ((n0 : Nat) : Int)))), (21, .pointer (some ⟨ab A0, ao A0 + j * 4, none⟩)), (22, .agg #[.bool (neg (qn r)), .slice A (zl (qn r)) c, .bool (neg (ql r)), .slice B (zl (ql r)) d]), (6, .pointer (some ⟨g62, 0, none⟩)), (26, .agg #[.bool (neg D), .slice Ad (zl D) cd]), (27, .agg #[.bool (neg (qn r)), .slice A (zl (qn r)) c, .bool (neg (ql r)), .slice B (zl (ql r)) d]), (25, .agg #[.bool (neg (qd r)), .slice A66 (zl (qd r)) c67]), (7, .pointer (some ⟨g172, 0, none⟩)), (8, .pointer (some ⟨g181, 0, none⟩))] ∧ St w0 w [bk g181 #[.bool (neg 0), .slice none (zl 0) 0] 36, bk g172 #[.bool (neg 0), .slice none (zl 0) 0] 36, bk g62 #[.bool (neg (qn r)), .slice A (zl (qn r)) c, .bool (neg (ql r)), .slice B (zl (ql r)) d] 91, bk g57 #[.bool (neg D), .slice Ad (zl D) cd] 36, bk g51 #[.bool (neg 0), .slice none (zl 0) 0] 36] [pfZ A66 c67 (qd r), pfZ A c (qn r), pfZ B d (ql r), FK (A, c, B, d, r), pfRow fK FK 4 A0 n0 c0 es0, pfZ Ad cd D]) → T 10 L a w := by
        rintro _ a w184 rfl ⟨A66, c67, g172, g181, henv, hst⟩
        rw [hT]
        have hs188 := hse.d
        refine sAny_one (i := 4) (by kernel_rfl) rfl rfl (op_call henv rfl Tryd.call89 rfl (den_q (x := r) (show ZIn _ A c (qn r) from hst.pat (k := 1) rfl) (show ZIn _ B d (ql r) from hst.pat (k := 2) rfl) hse (by omega)) ?_)
        rintro e w189 ⟨_, rfl, ⟨A185, c186, rfl, hz187⟩, hb⟩
        refine ⟨_, rfl, ?_⟩
        clear henv a; intro a henv
        replace hst := (hst.call hb).addZ hz187 ⟨nou_bk rfl, nou_bk rfl, nou_bk rfl, nou_bk rfl, nou_bk rfl, trivial⟩
        clear hz187
        clear hb
        refine ⟨.inr ⟨hst.kn.pick [2, 3, 4] (rg 2 5), .inr (hst.kn.pick [] [])⟩, ?_⟩
        rw [← hT]
        exact hN154 _ _ _ (by kernel_rfl) ⟨A66, c67, A185, c186, g172, g181, henv.sub ⟨rfl, rfl, rfl, rfl, rfl, rfl, rfl, rfl, rfl, rfl, rfl, rfl, rfl, rfl, rfl, trivial⟩, hst.pick [0, 1, 2, 3, 4] [0, 1, 2, 3, 4, 5, 6] (by decide)⟩
      have hN174 : ∀ (L : Array Bool) (a : Act) (w : World), L = #[true, true, true, true, false, false, false, false, false, false, false, true, false, false, false, false] → (∃ A66 : Option Addr, ∃ c67 : Nat, ∃ g172 : Nat, Env 62 a [(0, .slice A0 n0 c0), (3, .pointer (some ⟨g51, 0, none⟩)), (17, .slice A0 n0 c0), (18, .int .i64 (n0 : Nat)), (4, .pointer (some ⟨g57, 0, none⟩)), (19, .int .i64 (j : Nat)), (20, .bool (decide (((j : Nat) : Int) < ((n0 : Nat) : Int)))), (21, .pointer (some ⟨ab A0, ao A0 + j * 4, none⟩)), (22, .agg #[.bool (neg (qn r)), .slice A (zl (qn r)) c, .bool (neg (ql r)), .slice B (zl (ql r)) d]), (6, .pointer (some ⟨g62, 0, none⟩)), (26, .agg #[.bool (neg D), .slice Ad (zl D) cd]), (27, .agg #[.bool (neg (qn r)), .slice A (zl (qn r)) c, .bool (neg (ql r)), .slice B (zl (ql r)) d]), (25, .agg #[.bool (neg (qd r)), .slice A66 (zl (qd r)) c67]), (7, .pointer (some ⟨g172, 0, none⟩))] ∧ St w0 w [bk g172 #[.bool (neg 0), .slice none (zl 0) 0] 36, bk g62 #[.bool (neg (qn r)), .slice A (zl (qn r)) c, .bool (neg (ql r)), .slice B (zl (ql r)) d] 91, bk g57 #[.bool (neg D), .slice Ad (zl D) cd] 36, bk g51 #[.bool (neg 0), .slice none (zl 0) 0] 36] [pfZ A66 c67 (qd r), pfZ A c (qn r), pfZ B d (ql r), FK (A, c, B, d, r), pfRow fK FK 4 A0 n0 c0 es0, pfZ Ad cd D]) → T 11 L a w := by
        rintro _ a w175 rfl ⟨A66, c67, g172, henv, hst⟩
        rw [hT]
        refine sAny_all (rs := [4, 12]) (by kernel_rfl) (by simp) ?_
        simp only [List.forall_mem_cons, List.not_mem_nil, false_implies, implies_true, and_true]
        refine ⟨?_, ?_⟩
        · have hs179 := hse.d
          refine ⟨_, rfl, rfl, op_call henv rfl Tryd.call89 rfl (den_q (x := r) (show ZIn _ A c (qn r) from hst.pat (k := 1) rfl) (show ZIn _ B d (ql r) from hst.pat (k := 2) rfl) hse (by omega)) ?_⟩
          rintro e w180 ⟨_, rfl, ⟨A176, c177, rfl, hz178⟩, hb⟩
          refine ⟨_, rfl, ?_⟩
          clear henv a; intro a henv
          replace hst := (hst.call hb).addZ hz178 ⟨nou_bk rfl, nou_bk rfl, nou_bk rfl, nou_bk rfl, trivial⟩
          clear hz178
          clear hb
          refine ⟨.inr ⟨hst.kn.pick [1, 2, 3] (rg 2 5), .inr (hst.kn.pick [] [])⟩, ?_⟩
          rw [← hT]
          exact hN145 _ _ _ (by kernel_rfl) ⟨A66, c67, A176, c177, g172, henv.sub ⟨rfl, rfl, rfl, rfl, rfl, rfl, rfl, rfl, rfl, rfl, rfl, rfl, rfl, rfl, trivial⟩, hst.pick [0, 1, 2, 3] [0, 1, 2, 3, 4, 5, 6] (by decide)⟩
        · refine ⟨_, rfl, rfl, op_alloc (c := #[.bool (neg 0), .slice none (zl 0) 0]) henv hst rfl zero_anvil_integer_Int zcells ?_⟩
          clear henv hst a; intro a w182 g181 henv hst
          refine ⟨.inr ⟨hst.kn.pick [2, 3, 4] (rg 1 5), .inr (hst.kn.pick [] [])⟩, ?_⟩
          rw [← hT]
          exact hN183 _ _ _ (by kernel_rfl) ⟨A66, c67, g172, g181, henv.sub ⟨rfl, rfl, rfl, rfl, rfl, rfl, rfl, rfl, rfl, rfl, rfl, rfl, rfl, rfl, rfl, trivial⟩, hst.pick [0, 1, 2, 3, 4] [0, 1, 2, 3, 4, 5] (by decide)⟩
      have hN192 : ∀ (L : Array Bool) (a : Act) (w : World), L = #[true, true, true, true, false, false, false, false, false, false, false, false, true, false, false, false] → (∃ A66 : Option Addr, ∃ c67 : Nat, ∃ g190 : Nat, Env 62 a [(0, .slice A0 n0 c0), (3, .pointer (some ⟨g51, 0, none⟩)), (17, .slice A0 n0 c0), (18, .int .i64 (n0 : Nat)), (4, .pointer (some ⟨g57, 0, none⟩)), (19, .int .i64 (j : Nat)), (20, .bool (decide (((j : Nat) : Int) < ((n0 : Nat) : Int)))), (21, .pointer (some ⟨ab A0, ao A0 + j * 4, none⟩)), (22, .agg #[.bool (neg (qn r)), .slice A (zl (qn r)) c, .bool (neg (ql r)), .slice B (zl (ql r)) d]), (6, .pointer (some ⟨g62, 0, none⟩)), (26, .agg #[.bool (neg D), .slice Ad (zl D) cd]), (27, .agg #[.bool (neg (qn r)), .slice A (zl (qn r)) c, .bool (neg (ql r)), .slice B (zl (ql r)) d]), (25, .agg #[.bool (neg (qd r)), .slice A66 (zl (qd r)) c67]), (8, .pointer (some ⟨g190, 0, none⟩))] ∧ St w0 w [bk g190 #[.bool (neg 0), .slice none (zl 0) 0] 36, bk g62 #[.bool (neg (qn r)), .slice A (zl (qn r)) c, .bool (neg (ql r)), .slice B (zl (ql r)) d] 91, bk g57 #[.bool (neg D), .slice Ad (zl D) cd] 36, bk g51 #[.bool (neg 0), .slice none (zl 0) 0] 36] [pfZ A66 c67 (qd r), pfZ A c (qn r), pfZ B d (ql r), FK (A, c, B, d, r), pfRow fK FK 4 A0 n0 c0 es0, pfZ Ad cd D]) → T 11 L a w := by
        rintro _ a w193 rfl ⟨A66, c67, g190, henv, hst⟩
        rw [hT]
        refine sAny_all (rs := [4, 11]) (by kernel_rfl) (by simp) ?_
        simp only [List.forall_mem_cons, List.not_mem_nil, false_implies, implies_true, and_true]
        refine ⟨?_, ?_⟩
        · have hs197 := hse.d
          refine ⟨_, rfl, rfl, op_call henv rfl Tryd.call89 rfl (den_q (x := r) (show ZIn _ A c (qn r) from hst.pat (k := 1) rfl) (show ZIn _ B d (ql r) from hst.pat (k := 2) rfl) hse (by omega)) ?_⟩
          rintro e w198 ⟨_, rfl, ⟨A194, c195, rfl, hz196⟩, hb⟩
          refine ⟨_, rfl, ?_⟩
          clear henv a; intro a henv
          replace hst := (hst.call hb).addZ hz196 ⟨nou_bk rfl, nou_bk rfl, nou_bk rfl, nou_bk rfl, trivial⟩
          clear hz196
          clear hb
          refine ⟨.inr ⟨hst.kn.pick [1, 2, 3] (rg 2 5), .inr (hst.kn.pick [] [])⟩, ?_⟩
          rw [← hT]
          exact hN163 _ _ _ (by kernel_rfl) ⟨A66, c67, A194, c195, g190, henv.sub ⟨rfl, rfl, rfl, rfl, rfl, rfl, rfl, rfl, rfl, rfl, rfl, rfl, rfl, rfl, trivial⟩, hst.pick [0, 1, 2, 3] [0, 1, 2, 3, 4, 5, 6] (by decide)⟩
        · refine ⟨_, rfl, rfl, op_alloc (c := #[.bool (neg 0), .slice none (zl 0) 0]) henv hst rfl zero_anvil_integer_Int zcells ?_⟩
          clear henv hst a; intro a w200 g199 henv hst
          refine ⟨.inr ⟨hst.kn.pick [2, 3, 4] (rg 1 5), .inr (hst.kn.pick [] [])⟩, ?_⟩
          rw [← hT]
          exact hN183 _ _ _ (by kernel_rfl) ⟨A66, c67, g199, g190, henv.sub ⟨rfl, rfl, rfl, rfl, rfl, rfl, rfl, rfl, rfl, rfl, rfl, rfl, rfl, rfl, rfl, trivial⟩, hst.pick [1, 0, 2, 3, 4] [0, 1, 2, 3, 4, 5] (by decide)⟩
      have hN210 : ∀ (L : Array Bool) (a : Act) (w : World), L = #[true, false, true, true, false, false, false, false, false, false, false, true, true, false, false, false] → (∃ g201 : Nat, ∃ g208 : Nat, Env 62 a [(0, .slice A0 n0 c0), (3, .pointer (some ⟨g51, 0, none⟩)), (17, .slice A0 n0 c0), (18, .int .i64 (n0 : Nat)), (4, .pointer (some ⟨g57, 0, none⟩)), (19, .int .i64 (j : Nat)), (20, .bool (decide (((j : Nat) : Int) < ((n0 : Nat) : Int)))), (21, .pointer (some ⟨ab A0, ao A0 + j * 4, none⟩)), (22, .agg #[.bool (neg (qn r)), .slice A (zl (qn r)) c, .bool (neg (ql r)), .slice B (zl (ql r)) d]), (6, .pointer (some ⟨g62, 0, none⟩)), (24, .agg #[.bool (neg (qn r)), .slice A (zl (qn r)) c, .bool (neg (ql r)), .slice B (zl (ql r)) d]), (26, .agg #[.bool (neg D), .slice Ad (zl D) cd]), (27, .agg #[.bool (neg (qn r)), .slice A (zl (qn r)) c, .bool (neg (ql r)), .slice B (zl (ql r)) d]), (7, .pointer (some ⟨g201, 0, none⟩)), (8, .pointer (some ⟨g208, 0, none⟩))] ∧ St w0 w [bk g208 #[.bool (neg 0), .slice none (zl 0) 0] 36, bk g201 #[.bool (neg 0), .slice none (zl 0) 0] 36, bk g62 #[.bool (neg (qn r)), .slice A (zl (qn r)) c, .bool (neg (ql r)), .slice B (zl (ql r)) d] 91, bk g57 #[.bool (neg D), .slice Ad (zl D) cd] 36, bk g51 #[.bool (neg 0), .slice none (zl 0) 0] 36] [pfZ A c (qn r), pfZ B d (ql r), FK (A, c, B, d, r), pfRow fK FK 4 A0 n0 c0 es0, pfZ Ad cd D]) → T 11 L a w := by
        rintro _ a w211 rfl ⟨g201, g208, henv, hst⟩
        rw [hT]
        have hs215 := hse.d
        refine sAny_one (i := 1) (by kernel_rfl) rfl rfl (op_call henv rfl Tryd.call89 rfl (den_q (x := r) (show ZIn _ A c (qn r) from hst.pat (k := 0) rfl) (show ZIn _ B d (ql r) from hst.pat (k := 1) rfl) hse (by omega)) ?_)
        rintro e w216 ⟨_, rfl, ⟨A212, c213, rfl, hz214⟩, hb⟩
        refine ⟨_, rfl, ?_⟩
        clear henv a; intro a henv
        replace hst := (hst.call hb).addZ hz214 ⟨nou_bk rfl, nou_bk rfl, nou_bk rfl, nou_bk rfl, nou_bk rfl, trivial⟩
        clear hz214
        clear hb
        refine ⟨.inr ⟨hst.kn.pick [2, 3, 4] (rg 1 5), .inr (hst.kn.pick [] [])⟩, ?_⟩
        rw [← hT]
        exact hN183 _ _ _ (by kernel_rfl) ⟨A212, c213, g201, g208, henv.sub ⟨rfl, rfl, rfl, rfl, rfl, rfl, rfl, rfl, rfl, rfl, rfl, rfl, rfl, rfl, rfl, trivial⟩, hst.pick [0, 1, 2, 3, 4] [0, 1, 2, 3, 4, 5] (by decide)⟩
      rw [hT]
      refine tL (i := 0) 0 0 [1, 4, 5, 6, 7, 8, 9, 10, 13, 14, 15] rfl (by kernel_rfl) (fun _ _ _ h => h) henv rfl ty_anvil_ratio_Rat rfl hst rfl rfl rfl ?_
      clear henv a; intro a henv
      refine tL (i := 2) 1 1 [5, 6, 7, 8, 9, 10, 13, 14, 15] rfl (by kernel_rfl) (fun _ _ _ h => h) henv rfl ty_anvil_integer_Int rfl hst rfl rfl rfl ?_
      clear henv a; intro a henv
      refine tL (i := 3) 0 0 [4, 5, 6, 7, 8, 9, 10, 13, 14, 15] rfl (by kernel_rfl) (fun _ _ _ h => h) henv rfl ty_anvil_ratio_Rat rfl hst rfl rfl rfl ?_
      clear henv a; intro a henv
      refine sAny_all (rs := [1, 11, 12]) (by kernel_rfl) (by simp) ?_
      simp only [List.forall_mem_cons, List.not_mem_nil, false_implies, implies_true, and_true]
      refine ⟨?_, ?_, ?_⟩
      · have hs69 := hse.d
        refine ⟨_, rfl, rfl, op_call henv rfl Tryd.call89 rfl (den_q (x := r) (show ZIn _ A c (qn r) from hst.pat (k := 0) rfl) (show ZIn _ B d (ql r) from hst.pat (k := 1) rfl) hse (by omega)) ?_⟩
        rintro e w70 ⟨_, rfl, ⟨A66, c67, rfl, hz68⟩, hb⟩
        refine ⟨_, rfl, ?_⟩
        clear henv a; intro a henv
        replace hst := (hst.call hb).addZ hz68 ⟨nou_bk rfl, nou_bk rfl, nou_bk rfl, trivial⟩
        clear hz68
        clear hb
        refine ⟨.inr ⟨hst.kn.pick [0, 1, 2] (rg 1 5), .inr (hst.kn.pick [] [])⟩, ?_⟩
        refine sAny_all (rs := [4, 11, 12]) (by kernel_rfl) (by simp) ?_
        simp only [List.forall_mem_cons, List.not_mem_nil, false_implies, implies_true, and_true]
        refine ⟨?_, ?_, ?_⟩
        · have hs74 := hse.d
          refine ⟨_, rfl, rfl, op_call henv rfl Tryd.call89 rfl (den_q (x := r) (show ZIn _ A c (qn r) from hst.pat (k := 1) rfl) (show ZIn _ B d (ql r) from hst.pat (k := 2) rfl) hse (by omega)) ?_⟩
          rintro e w75 ⟨_, rfl, ⟨A71, c72, rfl, hz73⟩, hb⟩
          refine ⟨_, rfl, ?_⟩
          clear henv a; intro a henv
          replace hst := (hst.call hb).addZ hz73 ⟨nou_bk rfl, nou_bk rfl, nou_bk rfl, trivial⟩
          clear hz73
          clear hb
          refine ⟨.inr ⟨hst.kn.pick [0, 1, 2] (rg 2 5), .inr (hst.kn.pick [] [])⟩, ?_⟩
          refine sAny_all (rs := [5, 11, 12]) (by kernel_rfl) (by simp) ?_
          simp only [List.forall_mem_cons, List.not_mem_nil, false_implies, implies_true, and_true]
          refine ⟨?_, ?_, ?_⟩
          · have hs76 := gcd_zq D (qd r)
            refine ⟨_, rfl, rfl, op_call henv rfl Tryd.call93 rfl (gcd_z (x := D) (y := (qd r)) (show ZIn _ Ad cd D from hst.pat (k := 6) rfl) (show ZIn _ A71 c72 (qd r) from hst.pat (k := 0) rfl) (by omega) (by omega)) ?_⟩
            rintro e w80 ⟨_, rfl, ⟨A77, c78, rfl, hz79⟩, hb⟩
            refine ⟨_, rfl, ?_⟩
            clear henv a; intro a henv
            replace hst := (hst.call hb).addZ hz79 ⟨nou_bk rfl, nou_bk rfl, nou_bk rfl, trivial⟩
            clear hz79
            clear hb
            refine ⟨.inr ⟨hst.kn.pick [0, 1, 2] (rg 3 5), .inr (hst.kn.pick [] [])⟩, ?_⟩
            refine sAny_all (rs := [6, 11, 12]) (by kernel_rfl) (by simp) ?_
            simp only [List.forall_mem_cons, List.not_mem_nil, false_implies, implies_true, and_true]
            refine ⟨?_, ?_, ?_⟩
            · have hs81 := zl_ediv (qd r) ((Int.gcd D (qd r) : Nat) : Int)
              refine ⟨_, rfl, rfl, op_call henv rfl Tryd.call117 rfl (divmod_z (x := (qd r)) (y := ((Int.gcd D (qd r) : Nat) : Int)) (show ZIn _ A66 c67 (qd r) from hst.pat (k := 2) rfl) (show ZIn _ A77 c78 ((Int.gcd D (qd r) : Nat) : Int) from hst.pat (k := 0) rfl) (by omega) (by omega) hg0) ?_⟩
              rintro e w88 ⟨_, _, rfl, ⟨A82, c83, rfl, hz84⟩, ⟨A85, c86, rfl, hz87⟩, hb⟩
              refine ⟨_, rfl, ?_⟩
              clear henv a; intro a henv
              replace hst := ((hst.call hb).addZ hz84 ⟨nou_bk rfl, nou_bk rfl, nou_bk rfl, trivial⟩).addZ hz87 ⟨nou_bk rfl, nou_bk rfl, nou_bk rfl, trivial⟩
              clear hz84 hz87
              clear hb
              refine ⟨.inr ⟨hst.kn.pick [0, 1, 2] (rg 5 5), .inr (hst.kn.pick [] [])⟩, ?_⟩
              refine tM (i := 7) [8, 9, 10, 13, 14, 15] rfl (by kernel_rfl) (fun _ _ _ h => h) henv rfl rfl ?_
              clear henv a; intro a henv
              refine tA (i := 8) [13, 14, 15] (v := .agg #[.bool (neg ((qd r) / ((Int.gcd D (qd r) : Nat) : Int))), .slice A82 (zl ((qd r) / ((Int.gcd D (qd r) : Nat) : Int))) c83]) rfl (by kernel_rfl) (fun _ _ _ h => h) henv rfl (fun _ => rn_extract henv rfl rfl) ?_
              clear henv a; intro a henv
              refine tA (i := 9) [14, 15] (v := .agg #[.bool (neg ((qd r) % ((Int.gcd D (qd r) : Nat) : Int))), .slice A85 (zl ((qd r) % ((Int.gcd D (qd r) : Nat) : Int))) c86]) rfl (by kernel_rfl) (fun _ _ _ h => h) henv rfl (fun _ => rn_extract henv rfl rfl) ?_
              clear henv a; intro a henv
              refine tA (i := 10) [15] (v := .int .i64 0) rfl (by kernel_rfl) (fun _ _ _ h => h) henv rfl (fun _ => rn_extract henv rfl rfl) ?_
              clear henv a; intro a henv
              refine sAny_all (rs := [11, 12]) (by kernel_rfl) (by simp) ?_
              simp only [List.forall_mem_cons, List.not_mem_nil, false_implies, implies_true, and_true]
              refine ⟨?_, ?_⟩
              · refine ⟨_, rfl, rfl, op_alloc (c := #[.bool (neg 0), .slice none (zl 0) 0]) henv hst rfl zero_anvil_integer_Int zcells ?_⟩
                clear henv hst a; intro a w90 g89 henv hst
                refine ⟨.inr ⟨hst.kn.pick [1, 2, 3] (rg 5 5), .inr (hst.kn.pick [] [])⟩, ?_⟩
                rw [← hT]
                exact hN91 _ _ _ (by kernel_rfl) ⟨A82, c83, A85, c86, g89, henv.sub ⟨rfl, rfl, rfl, rfl, rfl, rfl, rfl, rfl, rfl, rfl, rfl, rfl, rfl, rfl, trivial⟩, hst.pick [0, 1, 2, 3] [0, 1, 5, 6, 7, 8, 9] (by decide)⟩
              · refine ⟨_, rfl, rfl, op_alloc (c := #[.bool (neg 0), .slice none (zl 0) 0]) henv hst rfl zero_anvil_integer_Int zcells ?_⟩
                clear henv hst a; intro a w100 g99 henv hst
                refine ⟨.inr ⟨hst.kn.pick [1, 2, 3] (rg 5 5), .inr (hst.kn.pick [] [])⟩, ?_⟩
                rw [← hT]
                exact hN101 _ _ _ (by kernel_rfl) ⟨A82, c83, A85, c86, g99, henv.sub ⟨rfl, rfl, rfl, rfl, rfl, rfl, rfl, rfl, rfl, rfl, rfl, rfl, rfl, rfl, trivial⟩, hst.pick [0, 1, 2, 3] [0, 1, 5, 6, 7, 8, 9] (by decide)⟩
            · refine ⟨_, rfl, rfl, op_alloc (c := #[.bool (neg 0), .slice none (zl 0) 0]) henv hst rfl zero_anvil_integer_Int zcells ?_⟩
              clear henv hst a; intro a w106 g105 henv hst
              refine ⟨.inr ⟨hst.kn.pick [1, 2, 3] (rg 3 5), .inr (hst.kn.pick [] [])⟩, ?_⟩
              rw [← hT]
              exact hN107 _ _ _ (by kernel_rfl) ⟨A66, c67, A77, c78, g105, henv.sub ⟨rfl, rfl, rfl, rfl, rfl, rfl, rfl, rfl, rfl, rfl, rfl, rfl, rfl, trivial⟩, hst.pick [0, 1, 2, 3] [0, 2, 3, 4, 5, 6, 7] (by decide)⟩
            · refine ⟨_, rfl, rfl, op_alloc (c := #[.bool (neg 0), .slice none (zl 0) 0]) henv hst rfl zero_anvil_integer_Int zcells ?_⟩
              clear henv hst a; intro a w130 g129 henv hst
              refine ⟨.inr ⟨hst.kn.pick [1, 2, 3] (rg 3 5), .inr (hst.kn.pick [] [])⟩, ?_⟩
              rw [← hT]
              exact hN131 _ _ _ (by kernel_rfl) ⟨A66, c67, A77, c78, g129, henv.sub ⟨rfl, rfl, rfl, rfl, rfl, rfl, rfl, rfl, rfl, rfl, rfl, rfl, rfl, trivial⟩, hst.pick [0, 1, 2, 3] [0, 2, 3, 4, 5, 6, 7] (by decide)⟩
          · refine ⟨_, rfl, rfl, op_alloc (c := #[.bool (neg 0), .slice none (zl 0) 0]) henv hst rfl zero_anvil_integer_Int zcells ?_⟩
            clear henv hst a; intro a w144 g143 henv hst
            refine ⟨.inr ⟨hst.kn.pick [1, 2, 3] (rg 2 5), .inr (hst.kn.pick [] [])⟩, ?_⟩
            rw [← hT]
            exact hN145 _ _ _ (by kernel_rfl) ⟨A66, c67, A71, c72, g143, henv.sub ⟨rfl, rfl, rfl, rfl, rfl, rfl, rfl, rfl, rfl, rfl, rfl, rfl, rfl, rfl, trivial⟩, hst.pick [0, 1, 2, 3] [0, 1, 2, 3, 4, 5, 6] (by decide)⟩
          · refine ⟨_, rfl, rfl, op_alloc (c := #[.bool (neg 0), .slice none (zl 0) 0]) henv hst rfl zero_anvil_integer_Int zcells ?_⟩
            clear henv hst a; intro a w162 g161 henv hst
            refine ⟨.inr ⟨hst.kn.pick [1, 2, 3] (rg 2 5), .inr (hst.kn.pick [] [])⟩, ?_⟩
            rw [← hT]
            exact hN163 _ _ _ (by kernel_rfl) ⟨A66, c67, A71, c72, g161, henv.sub ⟨rfl, rfl, rfl, rfl, rfl, rfl, rfl, rfl, rfl, rfl, rfl, rfl, rfl, rfl, trivial⟩, hst.pick [0, 1, 2, 3] [0, 1, 2, 3, 4, 5, 6] (by decide)⟩
        · refine ⟨_, rfl, rfl, op_alloc (c := #[.bool (neg 0), .slice none (zl 0) 0]) henv hst rfl zero_anvil_integer_Int zcells ?_⟩
          clear henv hst a; intro a w173 g172 henv hst
          refine ⟨.inr ⟨hst.kn.pick [1, 2, 3] (rg 1 5), .inr (hst.kn.pick [] [])⟩, ?_⟩
          rw [← hT]
          exact hN174 _ _ _ (by kernel_rfl) ⟨A66, c67, g172, henv.sub ⟨rfl, rfl, rfl, rfl, rfl, rfl, rfl, rfl, rfl, rfl, rfl, rfl, rfl, rfl, trivial⟩, hst.pick [0, 1, 2, 3] [0, 1, 2, 3, 4, 5] (by decide)⟩
        · refine ⟨_, rfl, rfl, op_alloc (c := #[.bool (neg 0), .slice none (zl 0) 0]) henv hst rfl zero_anvil_integer_Int zcells ?_⟩
          clear henv hst a; intro a w191 g190 henv hst
          refine ⟨.inr ⟨hst.kn.pick [1, 2, 3] (rg 1 5), .inr (hst.kn.pick [] [])⟩, ?_⟩
          rw [← hT]
          exact hN192 _ _ _ (by kernel_rfl) ⟨A66, c67, g190, henv.sub ⟨rfl, rfl, rfl, rfl, rfl, rfl, rfl, rfl, rfl, rfl, rfl, rfl, rfl, rfl, trivial⟩, hst.pick [0, 1, 2, 3] [0, 1, 2, 3, 4, 5] (by decide)⟩
      · refine ⟨_, rfl, rfl, op_alloc (c := #[.bool (neg 0), .slice none (zl 0) 0]) henv hst rfl zero_anvil_integer_Int zcells ?_⟩
        clear henv hst a; intro a w202 g201 henv hst
        refine ⟨.inr ⟨hst.kn.pick [1, 2, 3] (rg 0 5), .inr (hst.kn.pick [] [])⟩, ?_⟩
        refine sAny_all (rs := [1, 12]) (by kernel_rfl) (by simp) ?_
        simp only [List.forall_mem_cons, List.not_mem_nil, false_implies, implies_true, and_true]
        refine ⟨?_, ?_⟩
        · have hs206 := hse.d
          refine ⟨_, rfl, rfl, op_call henv rfl Tryd.call89 rfl (den_q (x := r) (show ZIn _ A c (qn r) from hst.pat (k := 0) rfl) (show ZIn _ B d (ql r) from hst.pat (k := 1) rfl) hse (by omega)) ?_⟩
          rintro e w207 ⟨_, rfl, ⟨A203, c204, rfl, hz205⟩, hb⟩
          refine ⟨_, rfl, ?_⟩
          clear henv a; intro a henv
          replace hst := (hst.call hb).addZ hz205 ⟨nou_bk rfl, nou_bk rfl, nou_bk rfl, nou_bk rfl, trivial⟩
          clear hz205
          clear hb
          refine ⟨.inr ⟨hst.kn.pick [1, 2, 3] (rg 1 5), .inr (hst.kn.pick [] [])⟩, ?_⟩
          rw [← hT]
          exact hN174 _ _ _ (by kernel_rfl) ⟨A203, c204, g201, henv.sub ⟨rfl, rfl, rfl, rfl, rfl, rfl, rfl, rfl, rfl, rfl, rfl, rfl, rfl, rfl, trivial⟩, hst.pick [0, 1, 2, 3] [0, 1, 2, 3, 4, 5] (by decide)⟩
        · refine ⟨_, rfl, rfl, op_alloc (c := #[.bool (neg 0), .slice none (zl 0) 0]) henv hst rfl zero_anvil_integer_Int zcells ?_⟩
          clear henv hst a; intro a w209 g208 henv hst
          refine ⟨.inr ⟨hst.kn.pick [2, 3, 4] (rg 0 5), .inr (hst.kn.pick [] [])⟩, ?_⟩
          rw [← hT]
          exact hN210 _ _ _ (by kernel_rfl) ⟨g201, g208, henv.sub ⟨rfl, rfl, rfl, rfl, rfl, rfl, rfl, rfl, rfl, rfl, rfl, rfl, rfl, rfl, rfl, trivial⟩, hst.pick [0, 1, 2, 3, 4] [0, 1, 2, 3, 4] (by decide)⟩
      · refine ⟨_, rfl, rfl, op_alloc (c := #[.bool (neg 0), .slice none (zl 0) 0]) henv hst rfl zero_anvil_integer_Int zcells ?_⟩
        clear henv hst a; intro a w218 g217 henv hst
        refine ⟨.inr ⟨hst.kn.pick [1, 2, 3] (rg 0 5), .inr (hst.kn.pick [] [])⟩, ?_⟩
        refine sAny_all (rs := [1, 11]) (by kernel_rfl) (by simp) ?_
        simp only [List.forall_mem_cons, List.not_mem_nil, false_implies, implies_true, and_true]
        refine ⟨?_, ?_⟩
        · have hs222 := hse.d
          refine ⟨_, rfl, rfl, op_call henv rfl Tryd.call89 rfl (den_q (x := r) (show ZIn _ A c (qn r) from hst.pat (k := 0) rfl) (show ZIn _ B d (ql r) from hst.pat (k := 1) rfl) hse (by omega)) ?_⟩
          rintro e w223 ⟨_, rfl, ⟨A219, c220, rfl, hz221⟩, hb⟩
          refine ⟨_, rfl, ?_⟩
          clear henv a; intro a henv
          replace hst := (hst.call hb).addZ hz221 ⟨nou_bk rfl, nou_bk rfl, nou_bk rfl, nou_bk rfl, trivial⟩
          clear hz221
          clear hb
          refine ⟨.inr ⟨hst.kn.pick [1, 2, 3] (rg 1 5), .inr (hst.kn.pick [] [])⟩, ?_⟩
          rw [← hT]
          exact hN192 _ _ _ (by kernel_rfl) ⟨A219, c220, g217, henv.sub ⟨rfl, rfl, rfl, rfl, rfl, rfl, rfl, rfl, rfl, rfl, rfl, rfl, rfl, rfl, trivial⟩, hst.pick [0, 1, 2, 3] [0, 1, 2, 3, 4, 5] (by decide)⟩
        · refine ⟨_, rfl, rfl, op_alloc (c := #[.bool (neg 0), .slice none (zl 0) 0]) henv hst rfl zero_anvil_integer_Int zcells ?_⟩
          clear henv hst a; intro a w225 g224 henv hst
          refine ⟨.inr ⟨hst.kn.pick [2, 3, 4] (rg 0 5), .inr (hst.kn.pick [] [])⟩, ?_⟩
          rw [← hT]
          exact hN210 _ _ _ (by kernel_rfl) ⟨g224, g217, henv.sub ⟨rfl, rfl, rfl, rfl, rfl, rfl, rfl, rfl, rfl, rfl, rfl, rfl, rfl, rfl, rfl, trivial⟩, hst.pick [1, 0, 2, 3, 4] [0, 1, 2, 3, 4] (by decide)⟩
    clear henv hst a
    rintro a w226 ⟨A82, c83, A85, c86, g89, g93, henv, hst⟩
    refine region_seq ?_
    revert a
    refine sA (v := .agg #[.bool (neg D), .slice Ad (zl D) cd]) rfl (fun _ henv => rn_load0 henv ty_anvil_integer_Int rfl (hst.oat (k := 3) rfl) rfl) ?_
    refine sA (v := .agg #[.bool (neg ((qd r) / ((Int.gcd D (qd r) : Nat) : Int))), .slice A82 (zl ((qd r) / ((Int.gcd D (qd r) : Nat) : Int))) c83]) rfl (fun _ henv => rn_load0 henv ty_anvil_integer_Int rfl (hst.oat (k := 1) rfl) rfl) ?_
    intro a henv
    have hs227 := zl_mul D ((qd r) / ((Int.gcd D (qd r) : Nat) : Int))
    refine seq_step rfl (op_call henv rfl Tryd.call84 rfl (mul_z (x := D) (y := (qd r) / ((Int.gcd D (qd r) : Nat) : Int)) (show ZIn _ Ad cd D from hst.pat (k := 6) rfl) (show ZIn _ A82 c83 ((qd r) / ((Int.gcd D (qd r) : Nat) : Int)) from hst.pat (k := 1) rfl) (by omega) (by omega)) ?_)
    rintro e w231 ⟨_, rfl, ⟨A228, c229, rfl, hz230⟩, hb⟩
    refine ⟨_, rfl, ?_⟩
    clear henv a; intro a henv
    replace hst := (hst.call hb).addZ hz230 ⟨nou_bk rfl, nou_bk rfl, nou_bk rfl, nou_bk rfl, nou_bk rfl, trivial⟩
    clear hz230
    clear hb
    refine seq_step rfl (op_store (k := 3) (c' := #[.bool (neg (D * ((qd r) / ((Int.gcd D (qd r) : Nat) : Int)))), .slice A228 (zl (D * ((qd r) / ((Int.gcd D (qd r) : Nat) : Int)))) c229]) henv hst (ty_anvil_integer_Int.size) rfl rfl rfl rfl (by simp) rfl rfl ?_)
    clear henv hst a; intro a w232 henv hst
    refine wpList_nil ?_
    refine bl_n (th_n ?_)
    refine region_seq ?_
    revert a
    refine sA (v := .int .i64 (j + 1 : Nat)) rfl (fun _ henv => rn_add henv rfl rfl (by rw [IntWalk.i64_in _ (by omega)]; omega)) ?_
    refine mA rfl rfl ?_
    intro a henv
    refine wpList_nil ?_
    exact th_n ⟨_, (by omega), ⟨j + 1, D * ((qd r) / ((Int.gcd D (qd r) : Nat) : Int)), A228, c229, rfl, henv.sub ⟨rfl, rfl, rfl, rfl, rfl, rfl, trivial⟩, hst.pick [3, 4] [6, 0] (by decide), (by omega), (by rw [cmD_step hrj, ← hD]; rfl), (Nat.le_trans (cmS_sz D r) (by omega)), (cmS_pos hDp r)⟩⟩
  · have hje : n0 ≤ j := by have := of_decide_eq_false hc61; omega
    rw [List.take_of_length_le (by omega)] at hD
    subst hD
    replace hDz : zl (cmD rs) ≤ 4801 := Nat.le_trans hDz (by omega)
    refine wp_exit ?_
    refine th_x (th_x (bl_x (th_n ?_)))
    refine wp_seq ?_
    refine region_seq ?_
    refine sv (v := .slice none 0 0) henv rfl (rn_assign henv rfl) ?_
    clear henv a; intro a henv
    refine wpList_nil ?_
    refine th_n ?_
    refine wp_seq ?_
    refine wp_seq ?_
    replace hst := (hst.addRowS notU 36 2).nilEs FN
    replace hst : St w0 _ [rowS notU 36 2 none 0 0 (fl fN ([])), bk g57 #[.bool (neg (cmD rs)), .slice Ad (zl (cmD rs)) cd] 36, bk g51 #[.bool (neg 0), .slice none (zl 0) 0] 36] [pfEs FN ([]), pfRow fK FK 4 A0 n0 c0 es0, pfZ Ad cd (cmD rs)] := hst
    refine region_seq ?_
    revert a
    refine mA rfl rfl ?_
    refine sA (v := .int .i64 (n0 : Nat)) rfl (fun _ henv => rn_len henv Tryd.underlying105 rfl) ?_
    refine mA rfl rfl ?_
    intro a henv
    refine wpList_nil ?_
    refine th_n ?_
    refine wp_block ?_
    refine wp_loop_ghost (fun mz a w => ∃ j : Nat, ∃ Bo : Option Addr, ∃ co : Nat, ∃ os : List NE, n0 - j = mz ∧ Env 62 a [(3, .pointer (some ⟨g51, 0, none⟩)), (38, .slice A0 n0 c0), (39, .int .i64 (n0 : Nat)), (4, .pointer (some ⟨g57, 0, none⟩)), (40, .int .i64 (j : Nat)), (10, .slice Bo j co)] ∧ St w0 w [rowS notU 36 2 Bo j co (fl fN os), bk g57 #[.bool (neg (cmD rs)), .slice Ad (zl (cmD rs)) cd] 36, bk g51 #[.bool (neg 0), .slice none (zl 0) 0] 36] [pfRow fK FK 4 A0 n0 c0 es0, pfZ Ad cd (cmD rs), pfEs FN os] ∧ j ≤ n0 ∧ os.map zz = cmN (cmD rs) (rs.take j) ∧ os.length = j ∧ (j = 0 → Bo = none)) _ ⟨0, none, 0, [], rfl, henv.sub ⟨rfl, rfl, rfl, rfl, rfl, rfl, trivial⟩, hst.pick [0, 1, 2] [1, 2, 0] (by decide), (Nat.zero_le _), rfl, rfl, (fun _ => rfl)⟩ ?_
    clear henv hst a
    rintro mz a w233 ⟨j, Bo, co, os, rfl, henv, hst, hj, hos, hol, hon⟩
    refine wp_seq ?_
    refine region_seq ?_
    refine sv (v := .bool (decide (((j : Nat) : Int) < ((n0 : Nat) : Int)))) henv rfl (rn_bin henv rfl rfl rfl) ?_
    clear henv a; intro a henv
    refine wpList_nil ?_
    refine th_n ?_
    refine wp_seq ?_
    refine if_split henv rfl (fun hc234 => ?_) (fun hc234 => ?_)
    · have hlt : j < n0 := by have := of_decide_eq_true hc234; omega
      obtain ⟨⟨A, c, B, d, r⟩, he0⟩ : ∃ e, es0[j]? = some e := ⟨_, List.getElem?_eq_getElem (by omega)⟩
      replace hst := hst.elem (k := 0) rfl he0
      replace hst := hst.split2 (k := 0) rfl
      replace hst : St w0 _ [rowS notU 36 2 Bo j co (fl fN os), bk g57 #[.bool (neg (cmD rs)), .slice Ad (zl (cmD rs)) cd] 36, bk g51 #[.bool (neg 0), .slice none (zl 0) 0] 36] [pfZ A c (qn r), pfZ B d (ql r), FK (A, c, B, d, r), pfRow fK FK 4 A0 n0 c0 es0, pfZ Ad cd (cmD rs), pfEs FN os] := hst
      have hrj := kr_at hrs he0
      have hrm : r ∈ rs := List.mem_of_getElem? hrj
      have hse := hq r hrm
      have hnr := hse.n
      have hdr := hse.d
      have hlr := hse.l
      have hpr := qd_pos r
      have hqs := zl_ediv (cmD rs) (qd r)
      have hdm := cmD_mod hrm
      refine wp_skip ?_
      refine th_n ?_
      refine wp_seq ?_
      refine wp_block ?_
      refine wp_seq ?_
      refine region_seq ?_
      revert a
      refine sA (v := .pointer (some ⟨ab A0, ao A0 + j * 4, none⟩)) rfl (fun _ henv => rn_idxR (i := j) henv Tryd.underlying105 (ty_anvil_ratio_Rat.size) rfl rfl (by omega) rfl (show (pfRow fK FK 4 A0 n0 c0 es0).P _ from (hst.pat (k := 3) rfl)).1) ?_
      refine sA (v := .agg #[.bool (neg (qn r)), .slice A (zl (qn r)) c, .bool (neg (ql r)), .slice B (zl (ql r)) d]) rfl (fun _ henv => rn_loadE (i := j) (e := (A, c, B, d, r)) henv ty_anvil_ratio_Rat rfl rfl fK_len (show (pfRow fK FK 4 A0 n0 c0 es0).P _ from (hst.pat (k := 3) rfl)).1 (by omega) he0 rfl) ?_
      intro a henv
      refine seq_step rfl (op_alloc (c := #[.bool (neg (qn 0)), .slice none (zl (qn 0)) 0, .bool (neg (ql 0)), .slice none (zl (ql 0)) 0]) henv hst rfl zero_anvil_ratio_Rat qcells ?_)
      clear henv hst a; intro a w236 g235 henv hst
      refine seq_step rfl (op_store (k := 0) (c' := #[.bool (neg (qn r)), .slice A (zl (qn r)) c, .bool (neg (ql r)), .slice B (zl (ql r)) d]) henv hst (ty_anvil_ratio_Rat.size) rfl rfl rfl rfl (by simp) rfl rfl ?_)
      clear henv hst a; intro a w237 henv hst
      refine wpList_nil ?_
      refine th_n ?_
      refine wp_seq ?_
      refine cut (fun a w => ∃ A245 : Option Addr, ∃ c246 : Nat, ∃ A248 : Option Addr, ∃ c249 : Nat, ∃ g252 : Nat, ∃ g256 : Nat, Env 62 a [(3, .pointer (some ⟨g51, 0, none⟩)), (38, .slice A0 n0 c0), (39, .int .i64 (n0 : Nat)), (4, .pointer (some ⟨g57, 0, none⟩)), (40, .int .i64 (j : Nat)), (10, .slice Bo j co), (41, .bool (decide (((j : Nat) : Int) < ((n0 : Nat) : Int)))), (42, .pointer (some ⟨ab A0, ao A0 + j * 4, none⟩)), (43, .agg #[.bool (neg (qn r)), .slice A (zl (qn r)) c, .bool (neg (ql r)), .slice B (zl (ql r)) d]), (12, .pointer (some ⟨g235, 0, none⟩)), (13, .pointer (some ⟨g252, 0, none⟩))] ∧ St w0 w [bk g256 #[.bool (neg ((cmD rs) % (qd r))), .slice A248 (zl ((cmD rs) % (qd r))) c249] 36, bk g252 #[.bool (neg ((cmD rs) / (qd r))), .slice A245 (zl ((cmD rs) / (qd r))) c246] 36, bk g235 #[.bool (neg (qn r)), .slice A (zl (qn r)) c, .bool (neg (ql r)), .slice B (zl (ql r)) d] 91, rowS notU 36 2 Bo j co (fl fN os), bk g57 #[.bool (neg (cmD rs)), .slice Ad (zl (cmD rs)) cd] 36, bk g51 #[.bool (neg 0), .slice none (zl 0) 0] 36] [pfZ A248 c249 ((cmD rs) % (qd r)), pfZ A245 c246 ((cmD rs) / (qd r)), pfZ A c (qn r), pfZ B d (ql r), FK (A, c, B, d, r), pfRow fK FK 4 A0 n0 c0 es0, pfZ Ad cd (cmD rs), pfEs FN os]) ?_ ?_
      · refine region_any (n := 13) (Sk [bk g235 #[.bool (neg (qn r)), .slice A (zl (qn r)) c, .bool (neg (ql r)), .slice B (zl (ql r)) d] 91, rowS notU 36 2 Bo j co (fl fN os), bk g57 #[.bool (neg (cmD rs)), .slice Ad (zl (cmD rs)) cd] 36, bk g51 #[.bool (neg 0), .slice none (zl 0) 0] 36] [pfZ A c (qn r), pfZ B d (ql r), FK (A, c, B, d, r), pfRow fK FK 4 A0 n0 c0 es0, pfZ Ad cd (cmD rs), pfEs FN os] [10, 11] []) mixed rfl henv hst ?_
        clear henv hst; intro w238 henv hst
        refine sAny_gen fun T hT => ?_
        have hN258 : ∀ (L : Array Bool) (a : Act) (w : World), L = #[true, true, true, true, true, true, true, true, true, true, false, false, false] → (∃ A245 : Option Addr, ∃ c246 : Nat, ∃ A248 : Option Addr, ∃ c249 : Nat, ∃ g252 : Nat, ∃ g256 : Nat, Env 62 a [(3, .pointer (some ⟨g51, 0, none⟩)), (38, .slice A0 n0 c0), (39, .int .i64 (n0 : Nat)), (4, .pointer (some ⟨g57, 0, none⟩)), (40, .int .i64 (j : Nat)), (10, .slice Bo j co), (41, .bool (decide (((j : Nat) : Int) < ((n0 : Nat) : Int)))), (42, .pointer (some ⟨ab A0, ao A0 + j * 4, none⟩)), (43, .agg #[.bool (neg (qn r)), .slice A (zl (qn r)) c, .bool (neg (ql r)), .slice B (zl (ql r)) d]), (12, .pointer (some ⟨g235, 0, none⟩)), (49, .agg #[.bool (neg ((cmD rs) / (qd r))), .slice A245 (zl ((cmD rs) / (qd r))) c246]), (50, .agg #[.bool (neg ((cmD rs) % (qd r))), .slice A248 (zl ((cmD rs) % (qd r))) c249]), (51, .int .i64 0), (13, .pointer (some ⟨g252, 0, none⟩)), (14, .pointer (some ⟨g256, 0, none⟩))] ∧ St w0 w [bk g256 #[.bool (neg 0), .slice none (zl 0) 0] 36, bk g252 #[.bool (neg 0), .slice none (zl 0) 0] 36, bk g235 #[.bool (neg (qn r)), .slice A (zl (qn r)) c, .bool (neg (ql r)), .slice B (zl (ql r)) d] 91, rowS notU 36 2 Bo j co (fl fN os), bk g57 #[.bool (neg (cmD rs)), .slice Ad (zl (cmD rs)) cd] 36, bk g51 #[.bool (neg 0), .slice none (zl 0) 0] 36] [pfZ A248 c249 ((cmD rs) % (qd r)), pfZ A245 c246 ((cmD rs) / (qd r)), pfZ A c (qn r), pfZ B d (ql r), FK (A, c, B, d, r), pfRow fK FK 4 A0 n0 c0 es0, pfZ Ad cd (cmD rs), pfEs FN os]) → T 3 L a w := by
          rintro _ a w259 rfl ⟨A245, c246, A248, c249, g252, g256, henv, hst⟩
          rw [hT]
          refine sAny_one (i := 10) (by kernel_rfl) rfl rfl (op_store (k := 1) (c' := #[.bool (neg ((cmD rs) / (qd r))), .slice A245 (zl ((cmD rs) / (qd r))) c246]) henv hst (ty_anvil_integer_Int.size) rfl rfl rfl rfl (by simp) rfl rfl ?_)
          clear henv hst a; intro a w260 henv hst
          refine ⟨.inr ⟨hst.kn.pick (rg 2 4) (rg 2 6), .inl rfl⟩, ?_⟩
          refine sAny_one (i := 11) (by kernel_rfl) rfl rfl (op_store (k := 0) (c' := #[.bool (neg ((cmD rs) % (qd r))), .slice A248 (zl ((cmD rs) % (qd r))) c249]) henv hst (ty_anvil_integer_Int.size) rfl rfl rfl rfl (by simp) rfl rfl ?_)
          clear henv hst a; intro a w261 henv hst
          refine ⟨.inr ⟨hst.kn.pick (rg 2 4) (rg 2 6), .inl rfl⟩, ?_⟩
          refine tA (i := 12) [] (v := .int .i64 0) rfl (by kernel_rfl) (fun _ _ _ h => h) henv rfl (fun _ => rn_assign henv rfl) ?_
          clear henv a; intro a henv
          refine sAny_done (by kernel_rfl) ?_ _
          exact th_n ⟨A245, c246, A248, c249, g252, g256, henv.sub ⟨rfl, rfl, rfl, rfl, rfl, rfl, rfl, rfl, rfl, rfl, rfl, trivial⟩, hst.pick [0, 1, 2, 3, 4, 5] [0, 1, 2, 3, 4, 5, 6, 7] (by decide)⟩
        have hN254 : ∀ (L : Array Bool) (a : Act) (w : World), L = #[true, true, true, true, true, true, true, true, true, false, false, false, false] → (∃ A245 : Option Addr, ∃ c246 : Nat, ∃ A248 : Option Addr, ∃ c249 : Nat, ∃ g252 : Nat, Env 62 a [(3, .pointer (some ⟨g51, 0, none⟩)), (38, .slice A0 n0 c0), (39, .int .i64 (n0 : Nat)), (4, .pointer (some ⟨g57, 0, none⟩)), (40, .int .i64 (j : Nat)), (10, .slice Bo j co), (41, .bool (decide (((j : Nat) : Int) < ((n0 : Nat) : Int)))), (42, .pointer (some ⟨ab A0, ao A0 + j * 4, none⟩)), (43, .agg #[.bool (neg (qn r)), .slice A (zl (qn r)) c, .bool (neg (ql r)), .slice B (zl (ql r)) d]), (12, .pointer (some ⟨g235, 0, none⟩)), (49, .agg #[.bool (neg ((cmD rs) / (qd r))), .slice A245 (zl ((cmD rs) / (qd r))) c246]), (50, .agg #[.bool (neg ((cmD rs) % (qd r))), .slice A248 (zl ((cmD rs) % (qd r))) c249]), (51, .int .i64 0), (13, .pointer (some ⟨g252, 0, none⟩))] ∧ St w0 w [bk g252 #[.bool (neg 0), .slice none (zl 0) 0] 36, bk g235 #[.bool (neg (qn r)), .slice A (zl (qn r)) c, .bool (neg (ql r)), .slice B (zl (ql r)) d] 91, rowS notU 36 2 Bo j co (fl fN os), bk g57 #[.bool (neg (cmD rs)), .slice Ad (zl (cmD rs)) cd] 36, bk g51 #[.bool (neg 0), .slice none (zl 0) 0] 36] [pfZ A248 c249 ((cmD rs) % (qd r)), pfZ A245 c246 ((cmD rs) / (qd r)), pfZ A c (qn r), pfZ B d (ql r), FK (A, c, B, d, r), pfRow fK FK 4 A0 n0 c0 es0, pfZ Ad cd (cmD rs), pfEs FN os]) → T 4 L a w := by
          rintro _ a w255 rfl ⟨A245, c246, A248, c249, g252, henv, hst⟩
          rw [hT]
          refine sAny_one (i := 9) (by kernel_rfl) rfl rfl (op_alloc (c := #[.bool (neg 0), .slice none (zl 0) 0]) henv hst rfl zero_anvil_integer_Int zcells ?_)
          clear henv hst a; intro a w257 g256 henv hst
          refine ⟨.inr ⟨hst.kn.pick (rg 2 4) (rg 2 6), .inr (hst.kn.pick [] [])⟩, ?_⟩
          rw [← hT]
          exact hN258 _ _ _ (by kernel_rfl) ⟨A245, c246, A248, c249, g252, g256, henv.sub ⟨rfl, rfl, rfl, rfl, rfl, rfl, rfl, rfl, rfl, rfl, rfl, rfl, rfl, rfl, rfl, trivial⟩, hst.pick [0, 1, 2, 3, 4, 5] [0, 1, 2, 3, 4, 5, 6, 7] (by decide)⟩
        have hN264 : ∀ (L : Array Bool) (a : Act) (w : World), L = #[true, true, true, true, true, true, true, true, false, true, false, false, false] → (∃ A245 : Option Addr, ∃ c246 : Nat, ∃ A248 : Option Addr, ∃ c249 : Nat, ∃ g262 : Nat, Env 62 a [(3, .pointer (some ⟨g51, 0, none⟩)), (38, .slice A0 n0 c0), (39, .int .i64 (n0 : Nat)), (4, .pointer (some ⟨g57, 0, none⟩)), (40, .int .i64 (j : Nat)), (10, .slice Bo j co), (41, .bool (decide (((j : Nat) : Int) < ((n0 : Nat) : Int)))), (42, .pointer (some ⟨ab A0, ao A0 + j * 4, none⟩)), (43, .agg #[.bool (neg (qn r)), .slice A (zl (qn r)) c, .bool (neg (ql r)), .slice B (zl (ql r)) d]), (12, .pointer (some ⟨g235, 0, none⟩)), (49, .agg #[.bool (neg ((cmD rs) / (qd r))), .slice A245 (zl ((cmD rs) / (qd r))) c246]), (50, .agg #[.bool (neg ((cmD rs) % (qd r))), .slice A248 (zl ((cmD rs) % (qd r))) c249]), (51, .int .i64 0), (14, .pointer (some ⟨g262, 0, none⟩))] ∧ St w0 w [bk g262 #[.bool (neg 0), .slice none (zl 0) 0] 36, bk g235 #[.bool (neg (qn r)), .slice A (zl (qn r)) c, .bool (neg (ql r)), .slice B (zl (ql r)) d] 91, rowS notU 36 2 Bo j co (fl fN os), bk g57 #[.bool (neg (cmD rs)), .slice Ad (zl (cmD rs)) cd] 36, bk g51 #[.bool (neg 0), .slice none (zl 0) 0] 36] [pfZ A248 c249 ((cmD rs) % (qd r)), pfZ A245 c246 ((cmD rs) / (qd r)), pfZ A c (qn r), pfZ B d (ql r), FK (A, c, B, d, r), pfRow fK FK 4 A0 n0 c0 es0, pfZ Ad cd (cmD rs), pfEs FN os]) → T 4 L a w := by
          rintro _ a w265 rfl ⟨A245, c246, A248, c249, g262, henv, hst⟩
          rw [hT]
          refine sAny_one (i := 8) (by kernel_rfl) rfl rfl (op_alloc (c := #[.bool (neg 0), .slice none (zl 0) 0]) henv hst rfl zero_anvil_integer_Int zcells ?_)
          clear henv hst a; intro a w267 g266 henv hst
          refine ⟨.inr ⟨hst.kn.pick (rg 2 4) (rg 2 6), .inr (hst.kn.pick [] [])⟩, ?_⟩
          rw [← hT]
          exact hN258 _ _ _ (by kernel_rfl) ⟨A245, c246, A248, c249, g266, g262, henv.sub ⟨rfl, rfl, rfl, rfl, rfl, rfl, rfl, rfl, rfl, rfl, rfl, rfl, rfl, rfl, rfl, trivial⟩, hst.pick [1, 0, 2, 3, 4, 5] [0, 1, 2, 3, 4, 5, 6, 7] (by decide)⟩
        have hN282 : ∀ (L : Array Bool) (a : Act) (w : World), L = #[true, true, true, false, false, false, false, false, true, true, false, false, false] → (∃ A239 : Option Addr, ∃ c240 : Nat, ∃ g268 : Nat, ∃ g280 : Nat, Env 62 a [(3, .pointer (some ⟨g51, 0, none⟩)), (38, .slice A0 n0 c0), (39, .int .i64 (n0 : Nat)), (4, .pointer (some ⟨g57, 0, none⟩)), (40, .int .i64 (j : Nat)), (10, .slice Bo j co), (41, .bool (decide (((j : Nat) : Int) < ((n0 : Nat) : Int)))), (42, .pointer (some ⟨ab A0, ao A0 + j * 4, none⟩)), (43, .agg #[.bool (neg (qn r)), .slice A (zl (qn r)) c, .bool (neg (ql r)), .slice B (zl (ql r)) d]), (12, .pointer (some ⟨g235, 0, none⟩)), (45, .agg #[.bool (neg (cmD rs)), .slice Ad (zl (cmD rs)) cd]), (47, .agg #[.bool (neg (qd r)), .slice A239 (zl (qd r)) c240]), (13, .pointer (some ⟨g268, 0, none⟩)), (14, .pointer (some ⟨g280, 0, none⟩))] ∧ St w0 w [bk g280 #[.bool (neg 0), .slice none (zl 0) 0] 36, bk g268 #[.bool (neg 0), .slice none (zl 0) 0] 36, bk g235 #[.bool (neg (qn r)), .slice A (zl (qn r)) c, .bool (neg (ql r)), .slice B (zl (ql r)) d] 91, rowS notU 36 2 Bo j co (fl fN os), bk g57 #[.bool (neg (cmD rs)), .slice Ad (zl (cmD rs)) cd] 36, bk g51 #[.bool (neg 0), .slice none (zl 0) 0] 36] [pfZ A239 c240 (qd r), pfZ A c (qn r), pfZ B d (ql r), FK (A, c, B, d, r), pfRow fK FK 4 A0 n0 c0 es0, pfZ Ad cd (cmD rs), pfEs FN os]) → T 8 L a w := by
          rintro _ a w283 rfl ⟨A239, c240, g268, g280, henv, hst⟩
          rw [hT]
          have hs284 := zl_ediv (cmD rs) (qd r)
          refine sAny_one (i := 3) (by kernel_rfl) rfl rfl (op_call henv rfl Tryd.call117 rfl (divmod_z (x := (cmD rs)) (y := (qd r)) (show ZIn _ Ad cd (cmD rs) from hst.pat (k := 5) rfl) (show ZIn _ A239 c240 (qd r) from hst.pat (k := 0) rfl) (by omega) (by omega) (qd_ne r)) ?_)
          rintro e w291 ⟨_, _, rfl, ⟨A285, c286, rfl, hz287⟩, ⟨A288, c289, rfl, hz290⟩, hb⟩
          refine ⟨_, rfl, ?_⟩
          clear henv a; intro a henv
          replace hst := ((hst.call hb).addZ hz287 ⟨nou_bk rfl, nou_bk rfl, nou_bk rfl, nou_rowS, nou_bk rfl, nou_bk rfl, trivial⟩).addZ hz290 ⟨nou_bk rfl, nou_bk rfl, nou_bk rfl, nou_rowS, nou_bk rfl, nou_bk rfl, trivial⟩
          clear hz287 hz290
          clear hb
          refine ⟨.inr ⟨hst.kn.pick (rg 2 4) (rg 3 6), .inr (hst.kn.pick [] [])⟩, ?_⟩
          refine tM (i := 4) [5, 6, 7, 10, 11, 12] rfl (by kernel_rfl) (fun _ _ _ h => h) henv rfl rfl ?_
          clear henv a; intro a henv
          refine tA (i := 5) [10, 11, 12] (v := .agg #[.bool (neg ((cmD rs) / (qd r))), .slice A285 (zl ((cmD rs) / (qd r))) c286]) rfl (by kernel_rfl) (fun _ _ _ h => h) henv rfl (fun _ => rn_extract henv rfl rfl) ?_
          clear henv a; intro a henv
          refine tA (i := 6) [11, 12] (v := .agg #[.bool (neg ((cmD rs) % (qd r))), .slice A288 (zl ((cmD rs) % (qd r))) c289]) rfl (by kernel_rfl) (fun _ _ _ h => h) henv rfl (fun _ => rn_extract henv rfl rfl) ?_
          clear henv a; intro a henv
          refine tA (i := 7) [12] (v := .int .i64 0) rfl (by kernel_rfl) (fun _ _ _ h => h) henv rfl (fun _ => rn_extract henv rfl rfl) ?_
          clear henv a; intro a henv
          rw [← hT]
          exact hN258 _ _ _ (by kernel_rfl) ⟨A285, c286, A288, c289, g268, g280, henv.sub ⟨rfl, rfl, rfl, rfl, rfl, rfl, rfl, rfl, rfl, rfl, rfl, rfl, rfl, rfl, rfl, trivial⟩, hst.pick [0, 1, 2, 3, 4, 5] [0, 1, 3, 4, 5, 6, 7, 8] (by decide)⟩
        have hN270 : ∀ (L : Array Bool) (a : Act) (w : World), L = #[true, true, true, false, false, false, false, false, true, false, false, false, false] → (∃ A239 : Option Addr, ∃ c240 : Nat, ∃ g268 : Nat, Env 62 a [(3, .pointer (some ⟨g51, 0, none⟩)), (38, .slice A0 n0 c0), (39, .int .i64 (n0 : Nat)), (4, .pointer (some ⟨g57, 0, none⟩)), (40, .int .i64 (j : Nat)), (10, .slice Bo j co), (41, .bool (decide (((j : Nat) : Int) < ((n0 : Nat) : Int)))), (42, .pointer (some ⟨ab A0, ao A0 + j * 4, none⟩)), (43, .agg #[.bool (neg (qn r)), .slice A (zl (qn r)) c, .bool (neg (ql r)), .slice B (zl (ql r)) d]), (12, .pointer (some ⟨g235, 0, none⟩)), (45, .agg #[.bool (neg (cmD rs)), .slice Ad (zl (cmD rs)) cd]), (47, .agg #[.bool (neg (qd r)), .slice A239 (zl (qd r)) c240]), (13, .pointer (some ⟨g268, 0, none⟩))] ∧ St w0 w [bk g268 #[.bool (neg 0), .slice none (zl 0) 0] 36, bk g235 #[.bool (neg (qn r)), .slice A (zl (qn r)) c, .bool (neg (ql r)), .slice B (zl (ql r)) d] 91, rowS notU 36 2 Bo j co (fl fN os), bk g57 #[.bool (neg (cmD rs)), .slice Ad (zl (cmD rs)) cd] 36, bk g51 #[.bool (neg 0), .slice none (zl 0) 0] 36] [pfZ A239 c240 (qd r), pfZ A c (qn r), pfZ B d (ql r), FK (A, c, B, d, r), pfRow fK FK 4 A0 n0 c0 es0, pfZ Ad cd (cmD rs), pfEs FN os]) → T 9 L a w := by
          rintro _ a w271 rfl ⟨A239, c240, g268, henv, hst⟩
          rw [hT]
          refine sAny_all (rs := [3, 9]) (by kernel_rfl) (by simp) ?_
          simp only [List.forall_mem_cons, List.not_mem_nil, false_implies, implies_true, and_true]
          refine ⟨?_, ?_⟩
          · have hs272 := zl_ediv (cmD rs) (qd r)
            refine ⟨_, rfl, rfl, op_call henv rfl Tryd.call117 rfl (divmod_z (x := (cmD rs)) (y := (qd r)) (show ZIn _ Ad cd (cmD rs) from hst.pat (k := 5) rfl) (show ZIn _ A239 c240 (qd r) from hst.pat (k := 0) rfl) (by omega) (by omega) (qd_ne r)) ?_⟩
            rintro e w279 ⟨_, _, rfl, ⟨A273, c274, rfl, hz275⟩, ⟨A276, c277, rfl, hz278⟩, hb⟩
            refine ⟨_, rfl, ?_⟩
            clear henv a; intro a henv
            replace hst := ((hst.call hb).addZ hz275 ⟨nou_bk rfl, nou_bk rfl, nou_rowS, nou_bk rfl, nou_bk rfl, trivial⟩).addZ hz278 ⟨nou_bk rfl, nou_bk rfl, nou_rowS, nou_bk rfl, nou_bk rfl, trivial⟩
            clear hz275 hz278
            clear hb
            refine ⟨.inr ⟨hst.kn.pick (rg 1 4) (rg 3 6), .inr (hst.kn.pick [] [])⟩, ?_⟩
            refine tM (i := 4) [5, 6, 7, 10, 11, 12] rfl (by kernel_rfl) (fun _ _ _ h => h) henv rfl rfl ?_
            clear henv a; intro a henv
            refine tA (i := 5) [10, 11, 12] (v := .agg #[.bool (neg ((cmD rs) / (qd r))), .slice A273 (zl ((cmD rs) / (qd r))) c274]) rfl (by kernel_rfl) (fun _ _ _ h => h) henv rfl (fun _ => rn_extract henv rfl rfl) ?_
            clear henv a; intro a henv
            refine tA (i := 6) [11, 12] (v := .agg #[.bool (neg ((cmD rs) % (qd r))), .slice A276 (zl ((cmD rs) % (qd r))) c277]) rfl (by kernel_rfl) (fun _ _ _ h => h) henv rfl (fun _ => rn_extract henv rfl rfl) ?_
            clear henv a; intro a henv
            refine tA (i := 7) [12] (v := .int .i64 0) rfl (by kernel_rfl) (fun _ _ _ h => h) henv rfl (fun _ => rn_extract henv rfl rfl) ?_
            clear henv a; intro a henv
            rw [← hT]
            exact hN254 _ _ _ (by kernel_rfl) ⟨A273, c274, A276, c277, g268, henv.sub ⟨rfl, rfl, rfl, rfl, rfl, rfl, rfl, rfl, rfl, rfl, rfl, rfl, rfl, rfl, trivial⟩, hst.pick [0, 1, 2, 3, 4] [0, 1, 3, 4, 5, 6, 7, 8] (by decide)⟩
          · refine ⟨_, rfl, rfl, op_alloc (c := #[.bool (neg 0), .slice none (zl 0) 0]) henv hst rfl zero_anvil_integer_Int zcells ?_⟩
            clear henv hst a; intro a w281 g280 henv hst
            refine ⟨.inr ⟨hst.kn.pick (rg 2 4) (rg 1 6), .inr (hst.kn.pick [] [])⟩, ?_⟩
            rw [← hT]
            exact hN282 _ _ _ (by kernel_rfl) ⟨A239, c240, g268, g280, henv.sub ⟨rfl, rfl, rfl, rfl, rfl, rfl, rfl, rfl, rfl, rfl, rfl, rfl, rfl, rfl, trivial⟩, hst.pick [0, 1, 2, 3, 4, 5] [0, 1, 2, 3, 4, 5, 6] (by decide)⟩
        have hN294 : ∀ (L : Array Bool) (a : Act) (w : World), L = #[true, true, true, false, false, false, false, false, false, true, false, false, false] → (∃ A239 : Option Addr, ∃ c240 : Nat, ∃ g292 : Nat, Env 62 a [(3, .pointer (some ⟨g51, 0, none⟩)), (38, .slice A0 n0 c0), (39, .int .i64 (n0 : Nat)), (4, .pointer (some ⟨g57, 0, none⟩)), (40, .int .i64 (j : Nat)), (10, .slice Bo j co), (41, .bool (decide (((j : Nat) : Int) < ((n0 : Nat) : Int)))), (42, .pointer (some ⟨ab A0, ao A0 + j * 4, none⟩)), (43, .agg #[.bool (neg (qn r)), .slice A (zl (qn r)) c, .bool (neg (ql r)), .slice B (zl (ql r)) d]), (12, .pointer (some ⟨g235, 0, none⟩)), (45, .agg #[.bool (neg (cmD rs)), .slice Ad (zl (cmD rs)) cd]), (47, .agg #[.bool (neg (qd r)), .slice A239 (zl (qd r)) c240]), (14, .pointer (some ⟨g292, 0, none⟩))] ∧ St w0 w [bk g292 #[.bool (neg 0), .slice none (zl 0) 0] 36, bk g235 #[.bool (neg (qn r)), .slice A (zl (qn r)) c, .bool (neg (ql r)), .slice B (zl (ql r)) d] 91, rowS notU 36 2 Bo j co (fl fN os), bk g57 #[.bool (neg (cmD rs)), .slice Ad (zl (cmD rs)) cd] 36, bk g51 #[.bool (neg 0), .slice none (zl 0) 0] 36] [pfZ A239 c240 (qd r), pfZ A c (qn r), pfZ B d (ql r), FK (A, c, B, d, r), pfRow fK FK 4 A0 n0 c0 es0, pfZ Ad cd (cmD rs), pfEs FN os]) → T 9 L a w := by
          rintro _ a w295 rfl ⟨A239, c240, g292, henv, hst⟩
          rw [hT]
          refine sAny_all (rs := [3, 8]) (by kernel_rfl) (by simp) ?_
          simp only [List.forall_mem_cons, List.not_mem_nil, false_implies, implies_true, and_true]
          refine ⟨?_, ?_⟩
          · have hs296 := zl_ediv (cmD rs) (qd r)
            refine ⟨_, rfl, rfl, op_call henv rfl Tryd.call117 rfl (divmod_z (x := (cmD rs)) (y := (qd r)) (show ZIn _ Ad cd (cmD rs) from hst.pat (k := 5) rfl) (show ZIn _ A239 c240 (qd r) from hst.pat (k := 0) rfl) (by omega) (by omega) (qd_ne r)) ?_⟩
            rintro e w303 ⟨_, _, rfl, ⟨A297, c298, rfl, hz299⟩, ⟨A300, c301, rfl, hz302⟩, hb⟩
            refine ⟨_, rfl, ?_⟩
            clear henv a; intro a henv
            replace hst := ((hst.call hb).addZ hz299 ⟨nou_bk rfl, nou_bk rfl, nou_rowS, nou_bk rfl, nou_bk rfl, trivial⟩).addZ hz302 ⟨nou_bk rfl, nou_bk rfl, nou_rowS, nou_bk rfl, nou_bk rfl, trivial⟩
            clear hz299 hz302
            clear hb
            refine ⟨.inr ⟨hst.kn.pick (rg 1 4) (rg 3 6), .inr (hst.kn.pick [] [])⟩, ?_⟩
            refine tM (i := 4) [5, 6, 7, 10, 11, 12] rfl (by kernel_rfl) (fun _ _ _ h => h) henv rfl rfl ?_
            clear henv a; intro a henv
            refine tA (i := 5) [10, 11, 12] (v := .agg #[.bool (neg ((cmD rs) / (qd r))), .slice A297 (zl ((cmD rs) / (qd r))) c298]) rfl (by kernel_rfl) (fun _ _ _ h => h) henv rfl (fun _ => rn_extract henv rfl rfl) ?_
            clear henv a; intro a henv
            refine tA (i := 6) [11, 12] (v := .agg #[.bool (neg ((cmD rs) % (qd r))), .slice A300 (zl ((cmD rs) % (qd r))) c301]) rfl (by kernel_rfl) (fun _ _ _ h => h) henv rfl (fun _ => rn_extract henv rfl rfl) ?_
            clear henv a; intro a henv
            refine tA (i := 7) [12] (v := .int .i64 0) rfl (by kernel_rfl) (fun _ _ _ h => h) henv rfl (fun _ => rn_extract henv rfl rfl) ?_
            clear henv a; intro a henv
            rw [← hT]
            exact hN264 _ _ _ (by kernel_rfl) ⟨A297, c298, A300, c301, g292, henv.sub ⟨rfl, rfl, rfl, rfl, rfl, rfl, rfl, rfl, rfl, rfl, rfl, rfl, rfl, rfl, trivial⟩, hst.pick [0, 1, 2, 3, 4] [0, 1, 3, 4, 5, 6, 7, 8] (by decide)⟩
          · refine ⟨_, rfl, rfl, op_alloc (c := #[.bool (neg 0), .slice none (zl 0) 0]) henv hst rfl zero_anvil_integer_Int zcells ?_⟩
            clear henv hst a; intro a w305 g304 henv hst
            refine ⟨.inr ⟨hst.kn.pick (rg 2 4) (rg 1 6), .inr (hst.kn.pick [] [])⟩, ?_⟩
            rw [← hT]
            exact hN282 _ _ _ (by kernel_rfl) ⟨A239, c240, g304, g292, henv.sub ⟨rfl, rfl, rfl, rfl, rfl, rfl, rfl, rfl, rfl, rfl, rfl, rfl, rfl, rfl, trivial⟩, hst.pick [1, 0, 2, 3, 4, 5] [0, 1, 2, 3, 4, 5, 6] (by decide)⟩
        have hN315 : ∀ (L : Array Bool) (a : Act) (w : World), L = #[true, true, false, false, false, false, false, false, true, true, false, false, false] → (∃ g306 : Nat, ∃ g313 : Nat, Env 62 a [(3, .pointer (some ⟨g51, 0, none⟩)), (38, .slice A0 n0 c0), (39, .int .i64 (n0 : Nat)), (4, .pointer (some ⟨g57, 0, none⟩)), (40, .int .i64 (j : Nat)), (10, .slice Bo j co), (41, .bool (decide (((j : Nat) : Int) < ((n0 : Nat) : Int)))), (42, .pointer (some ⟨ab A0, ao A0 + j * 4, none⟩)), (43, .agg #[.bool (neg (qn r)), .slice A (zl (qn r)) c, .bool (neg (ql r)), .slice B (zl (ql r)) d]), (12, .pointer (some ⟨g235, 0, none⟩)), (45, .agg #[.bool (neg (cmD rs)), .slice Ad (zl (cmD rs)) cd]), (46, .agg #[.bool (neg (qn r)), .slice A (zl (qn r)) c, .bool (neg (ql r)), .slice B (zl (ql r)) d]), (13, .pointer (some ⟨g306, 0, none⟩)), (14, .pointer (some ⟨g313, 0, none⟩))] ∧ St w0 w [bk g313 #[.bool (neg 0), .slice none (zl 0) 0] 36, bk g306 #[.bool (neg 0), .slice none (zl 0) 0] 36, bk g235 #[.bool (neg (qn r)), .slice A (zl (qn r)) c, .bool (neg (ql r)), .slice B (zl (ql r)) d] 91, rowS notU 36 2 Bo j co (fl fN os), bk g57 #[.bool (neg (cmD rs)), .slice Ad (zl (cmD rs)) cd] 36, bk g51 #[.bool (neg 0), .slice none (zl 0) 0] 36] [pfZ A c (qn r), pfZ B d (ql r), FK (A, c, B, d, r), pfRow fK FK 4 A0 n0 c0 es0, pfZ Ad cd (cmD rs), pfEs FN os]) → T 9 L a w := by
          rintro _ a w316 rfl ⟨g306, g313, henv, hst⟩
          rw [hT]
          have hs320 := hse.d
          refine sAny_one (i := 2) (by kernel_rfl) rfl rfl (op_call henv rfl Tryd.call89 rfl (den_q (x := r) (show ZIn _ A c (qn r) from hst.pat (k := 0) rfl) (show ZIn _ B d (ql r) from hst.pat (k := 1) rfl) hse (by omega)) ?_)
          rintro e w321 ⟨_, rfl, ⟨A317, c318, rfl, hz319⟩, hb⟩
          refine ⟨_, rfl, ?_⟩
          clear henv a; intro a henv
          replace hst := (hst.call hb).addZ hz319 ⟨nou_bk rfl, nou_bk rfl, nou_bk rfl, nou_rowS, nou_bk rfl, nou_bk rfl, trivial⟩
          clear hz319
          clear hb
          refine ⟨.inr ⟨hst.kn.pick (rg 2 4) (rg 1 6), .inr (hst.kn.pick [] [])⟩, ?_⟩
          rw [← hT]
          exact hN282 _ _ _ (by kernel_rfl) ⟨A317, c318, g306, g313, henv.sub ⟨rfl, rfl, rfl, rfl, rfl, rfl, rfl, rfl, rfl, rfl, rfl, rfl, rfl, rfl, trivial⟩, hst.pick [0, 1, 2, 3, 4, 5] [0, 1, 2, 3, 4, 5, 6] (by decide)⟩
        rw [hT]
        refine tL (i := 0) 2 2 [3, 4, 5, 6, 7, 10, 11, 12] rfl (by kernel_rfl) (fun _ _ _ h => h) henv rfl ty_anvil_integer_Int rfl hst rfl rfl rfl ?_
        clear henv a; intro a henv
        refine tL (i := 1) 0 0 [2, 3, 4, 5, 6, 7, 10, 11, 12] rfl (by kernel_rfl) (fun _ _ _ h => h) henv rfl ty_anvil_ratio_Rat rfl hst rfl rfl rfl ?_
        clear henv a; intro a henv
        refine sAny_all (rs := [2, 8, 9]) (by kernel_rfl) (by simp) ?_
        simp only [List.forall_mem_cons, List.not_mem_nil, false_implies, implies_true, and_true]
        refine ⟨?_, ?_, ?_⟩
        · have hs242 := hse.d
          refine ⟨_, rfl, rfl, op_call henv rfl Tryd.call89 rfl (den_q (x := r) (show ZIn _ A c (qn r) from hst.pat (k := 0) rfl) (show ZIn _ B d (ql r) from hst.pat (k := 1) rfl) hse (by omega)) ?_⟩
          rintro e w243 ⟨_, rfl, ⟨A239, c240, rfl, hz241⟩, hb⟩
          refine ⟨_, rfl, ?_⟩
          clear henv a; intro a henv
          replace hst := (hst.call hb).addZ hz241 ⟨nou_bk rfl, nou_rowS, nou_bk rfl, nou_bk rfl, trivial⟩
          clear hz241
          clear hb
          refine ⟨.inr ⟨hst.kn.pick (rg 0 4) (rg 1 6), .inr (hst.kn.pick [] [])⟩, ?_⟩
          refine sAny_all (rs := [3, 8, 9]) (by kernel_rfl) (by simp) ?_
          simp only [List.forall_mem_cons, List.not_mem_nil, false_implies, implies_true, and_true]
          refine ⟨?_, ?_, ?_⟩
          · have hs244 := zl_ediv (cmD rs) (qd r)
            refine ⟨_, rfl, rfl, op_call henv rfl Tryd.call117 rfl (divmod_z (x := (cmD rs)) (y := (qd r)) (show ZIn _ Ad cd (cmD rs) from hst.pat (k := 5) rfl) (show ZIn _ A239 c240 (qd r) from hst.pat (k := 0) rfl) (by omega) (by omega) (qd_ne r)) ?_⟩
            rintro e w251 ⟨_, _, rfl, ⟨A245, c246, rfl, hz247⟩, ⟨A248, c249, rfl, hz250⟩, hb⟩
            refine ⟨_, rfl, ?_⟩
            clear henv a; intro a henv
            replace hst := ((hst.call hb).addZ hz247 ⟨nou_bk rfl, nou_rowS, nou_bk rfl, nou_bk rfl, trivial⟩).addZ hz250 ⟨nou_bk rfl, nou_rowS, nou_bk rfl, nou_bk rfl, trivial⟩
            clear hz247 hz250
            clear hb
            refine ⟨.inr ⟨hst.kn.pick (rg 0 4) (rg 3 6), .inr (hst.kn.pick [] [])⟩, ?_⟩
            refine tM (i := 4) [5, 6, 7, 10, 11, 12] rfl (by kernel_rfl) (fun _ _ _ h => h) henv rfl rfl ?_
            clear henv a; intro a henv
            refine tA (i := 5) [10, 11, 12] (v := .agg #[.bool (neg ((cmD rs) / (qd r))), .slice A245 (zl ((cmD rs) / (qd r))) c246]) rfl (by kernel_rfl) (fun _ _ _ h => h) henv rfl (fun _ => rn_extract henv rfl rfl) ?_
            clear henv a; intro a henv
            refine tA (i := 6) [11, 12] (v := .agg #[.bool (neg ((cmD rs) % (qd r))), .slice A248 (zl ((cmD rs) % (qd r))) c249]) rfl (by kernel_rfl) (fun _ _ _ h => h) henv rfl (fun _ => rn_extract henv rfl rfl) ?_
            clear henv a; intro a henv
            refine tA (i := 7) [12] (v := .int .i64 0) rfl (by kernel_rfl) (fun _ _ _ h => h) henv rfl (fun _ => rn_extract henv rfl rfl) ?_
            clear henv a; intro a henv
            refine sAny_all (rs := [8, 9]) (by kernel_rfl) (by simp) ?_
            simp only [List.forall_mem_cons, List.not_mem_nil, false_implies, implies_true, and_true]
            refine ⟨?_, ?_⟩
            · refine ⟨_, rfl, rfl, op_alloc (c := #[.bool (neg 0), .slice none (zl 0) 0]) henv hst rfl zero_anvil_integer_Int zcells ?_⟩
              clear henv hst a; intro a w253 g252 henv hst
              refine ⟨.inr ⟨hst.kn.pick (rg 1 4) (rg 3 6), .inr (hst.kn.pick [] [])⟩, ?_⟩
              rw [← hT]
              exact hN254 _ _ _ (by kernel_rfl) ⟨A245, c246, A248, c249, g252, henv.sub ⟨rfl, rfl, rfl, rfl, rfl, rfl, rfl, rfl, rfl, rfl, rfl, rfl, rfl, rfl, trivial⟩, hst.pick [0, 1, 2, 3, 4] [0, 1, 3, 4, 5, 6, 7, 8] (by decide)⟩
            · refine ⟨_, rfl, rfl, op_alloc (c := #[.bool (neg 0), .slice none (zl 0) 0]) henv hst rfl zero_anvil_integer_Int zcells ?_⟩
              clear henv hst a; intro a w263 g262 henv hst
              refine ⟨.inr ⟨hst.kn.pick (rg 1 4) (rg 3 6), .inr (hst.kn.pick [] [])⟩, ?_⟩
              rw [← hT]
              exact hN264 _ _ _ (by kernel_rfl) ⟨A245, c246, A248, c249, g262, henv.sub ⟨rfl, rfl, rfl, rfl, rfl, rfl, rfl, rfl, rfl, rfl, rfl, rfl, rfl, rfl, trivial⟩, hst.pick [0, 1, 2, 3, 4] [0, 1, 3, 4, 5, 6, 7, 8] (by decide)⟩
          · refine ⟨_, rfl, rfl, op_alloc (c := #[.bool (neg 0), .slice none (zl 0) 0]) henv hst rfl zero_anvil_integer_Int zcells ?_⟩
            clear henv hst a; intro a w269 g268 henv hst
            refine ⟨.inr ⟨hst.kn.pick (rg 1 4) (rg 1 6), .inr (hst.kn.pick [] [])⟩, ?_⟩
            rw [← hT]
            exact hN270 _ _ _ (by kernel_rfl) ⟨A239, c240, g268, henv.sub ⟨rfl, rfl, rfl, rfl, rfl, rfl, rfl, rfl, rfl, rfl, rfl, rfl, rfl, trivial⟩, hst.pick [0, 1, 2, 3, 4] [0, 1, 2, 3, 4, 5, 6] (by decide)⟩
          · refine ⟨_, rfl, rfl, op_alloc (c := #[.bool (neg 0), .slice none (zl 0) 0]) henv hst rfl zero_anvil_integer_Int zcells ?_⟩
            clear henv hst a; intro a w293 g292 henv hst
            refine ⟨.inr ⟨hst.kn.pick (rg 1 4) (rg 1 6), .inr (hst.kn.pick [] [])⟩, ?_⟩
            rw [← hT]
            exact hN294 _ _ _ (by kernel_rfl) ⟨A239, c240, g292, henv.sub ⟨rfl, rfl, rfl, rfl, rfl, rfl, rfl, rfl, rfl, rfl, rfl, rfl, rfl, trivial⟩, hst.pick [0, 1, 2, 3, 4] [0, 1, 2, 3, 4, 5, 6] (by decide)⟩
        · refine ⟨_, rfl, rfl, op_alloc (c := #[.bool (neg 0), .slice none (zl 0) 0]) henv hst rfl zero_anvil_integer_Int zcells ?_⟩
          clear henv hst a; intro a w307 g306 henv hst
          refine ⟨.inr ⟨hst.kn.pick (rg 1 4) (rg 0 6), .inr (hst.kn.pick [] [])⟩, ?_⟩
          refine sAny_all (rs := [2, 9]) (by kernel_rfl) (by simp) ?_
          simp only [List.forall_mem_cons, List.not_mem_nil, false_implies, implies_true, and_true]
          refine ⟨?_, ?_⟩
          · have hs311 := hse.d
            refine ⟨_, rfl, rfl, op_call henv rfl Tryd.call89 rfl (den_q (x := r) (show ZIn _ A c (qn r) from hst.pat (k := 0) rfl) (show ZIn _ B d (ql r) from hst.pat (k := 1) rfl) hse (by omega)) ?_⟩
            rintro e w312 ⟨_, rfl, ⟨A308, c309, rfl, hz310⟩, hb⟩
            refine ⟨_, rfl, ?_⟩
            clear henv a; intro a henv
            replace hst := (hst.call hb).addZ hz310 ⟨nou_bk rfl, nou_bk rfl, nou_rowS, nou_bk rfl, nou_bk rfl, trivial⟩
            clear hz310
            clear hb
            refine ⟨.inr ⟨hst.kn.pick (rg 1 4) (rg 1 6), .inr (hst.kn.pick [] [])⟩, ?_⟩
            rw [← hT]
            exact hN270 _ _ _ (by kernel_rfl) ⟨A308, c309, g306, henv.sub ⟨rfl, rfl, rfl, rfl, rfl, rfl, rfl, rfl, rfl, rfl, rfl, rfl, rfl, trivial⟩, hst.pick [0, 1, 2, 3, 4] [0, 1, 2, 3, 4, 5, 6] (by decide)⟩
          · refine ⟨_, rfl, rfl, op_alloc (c := #[.bool (neg 0), .slice none (zl 0) 0]) henv hst rfl zero_anvil_integer_Int zcells ?_⟩
            clear henv hst a; intro a w314 g313 henv hst
            refine ⟨.inr ⟨hst.kn.pick (rg 2 4) (rg 0 6), .inr (hst.kn.pick [] [])⟩, ?_⟩
            rw [← hT]
            exact hN315 _ _ _ (by kernel_rfl) ⟨g306, g313, henv.sub ⟨rfl, rfl, rfl, rfl, rfl, rfl, rfl, rfl, rfl, rfl, rfl, rfl, rfl, rfl, trivial⟩, hst.pick [0, 1, 2, 3, 4, 5] [0, 1, 2, 3, 4, 5] (by decide)⟩
        · refine ⟨_, rfl, rfl, op_alloc (c := #[.bool (neg 0), .slice none (zl 0) 0]) henv hst rfl zero_anvil_integer_Int zcells ?_⟩
          clear henv hst a; intro a w323 g322 henv hst
          refine ⟨.inr ⟨hst.kn.pick (rg 1 4) (rg 0 6), .inr (hst.kn.pick [] [])⟩, ?_⟩
          refine sAny_all (rs := [2, 8]) (by kernel_rfl) (by simp) ?_
          simp only [List.forall_mem_cons, List.not_mem_nil, false_implies, implies_true, and_true]
          refine ⟨?_, ?_⟩
          · have hs327 := hse.d
            refine ⟨_, rfl, rfl, op_call henv rfl Tryd.call89 rfl (den_q (x := r) (show ZIn _ A c (qn r) from hst.pat (k := 0) rfl) (show ZIn _ B d (ql r) from hst.pat (k := 1) rfl) hse (by omega)) ?_⟩
            rintro e w328 ⟨_, rfl, ⟨A324, c325, rfl, hz326⟩, hb⟩
            refine ⟨_, rfl, ?_⟩
            clear henv a; intro a henv
            replace hst := (hst.call hb).addZ hz326 ⟨nou_bk rfl, nou_bk rfl, nou_rowS, nou_bk rfl, nou_bk rfl, trivial⟩
            clear hz326
            clear hb
            refine ⟨.inr ⟨hst.kn.pick (rg 1 4) (rg 1 6), .inr (hst.kn.pick [] [])⟩, ?_⟩
            rw [← hT]
            exact hN294 _ _ _ (by kernel_rfl) ⟨A324, c325, g322, henv.sub ⟨rfl, rfl, rfl, rfl, rfl, rfl, rfl, rfl, rfl, rfl, rfl, rfl, rfl, trivial⟩, hst.pick [0, 1, 2, 3, 4] [0, 1, 2, 3, 4, 5, 6] (by decide)⟩
          · refine ⟨_, rfl, rfl, op_alloc (c := #[.bool (neg 0), .slice none (zl 0) 0]) henv hst rfl zero_anvil_integer_Int zcells ?_⟩
            clear henv hst a; intro a w330 g329 henv hst
            refine ⟨.inr ⟨hst.kn.pick (rg 2 4) (rg 0 6), .inr (hst.kn.pick [] [])⟩, ?_⟩
            rw [← hT]
            exact hN315 _ _ _ (by kernel_rfl) ⟨g329, g322, henv.sub ⟨rfl, rfl, rfl, rfl, rfl, rfl, rfl, rfl, rfl, rfl, rfl, rfl, rfl, rfl, trivial⟩, hst.pick [1, 0, 2, 3, 4, 5] [0, 1, 2, 3, 4, 5] (by decide)⟩
      clear henv hst a
      rintro a w331 ⟨A245, c246, A248, c249, g252, g256, henv, hst⟩
      refine region_seq ?_
      revert a
      refine mA rfl rfl ?_
      refine sA (v := .pointer (some ⟨g235, 0, none⟩)) rfl (fun _ henv => rn_fieldAddr henv fd_anvil_ratio_Rat_0 (ty_anvil_integer_Int.size) (by decide) rfl) ?_
      refine sA (v := .agg #[.bool (neg (qn r)), .slice A (zl (qn r)) c]) rfl (fun _ henv => rn_load henv ty_anvil_integer_Int rfl (hst.oat (k := 2) rfl) rfl rfl) ?_
      refine sA (v := .agg #[.bool (neg ((cmD rs) / (qd r))), .slice A245 (zl ((cmD rs) / (qd r))) c246]) rfl (fun _ henv => rn_load0 henv ty_anvil_integer_Int rfl (hst.oat (k := 1) rfl) rfl) ?_
      intro a henv
      have hs332 := zl_mul (qn r) ((cmD rs) / (qd r))
      refine seq_step rfl (op_call henv rfl Tryd.call84 rfl (mul_z (x := (qn r)) (y := (cmD rs) / (qd r)) (show ZIn _ A c (qn r) from hst.pat (k := 2) rfl) (show ZIn _ A245 c246 ((cmD rs) / (qd r)) from hst.pat (k := 1) rfl) (by omega) (by omega)) ?_)
      rintro e w336 ⟨_, rfl, ⟨A333, c334, rfl, hz335⟩, hb⟩
      refine ⟨_, rfl, ?_⟩
      clear henv a; intro a henv
      replace hst := (hst.call hb).addZ hz335 ⟨nou_bk rfl, nou_bk rfl, nou_bk rfl, nou_rowS, nou_bk rfl, nou_bk rfl, trivial⟩
      clear hz335
      clear hb
      refine seq_step rfl (op_buildSlice (z := 2) (pv := #[(0, .agg #[.bool (neg ((qn r) * ((cmD rs) / (qd r)))), .slice A333 (zl ((qn r) * ((cmD rs) / (qd r)))) c334])]) (c := #[.bool (neg ((qn r) * ((cmD rs) / (qd r)))), .slice A333 (zl ((qn r) * ((cmD rs) / (qd r)))) c334]) henv hst rfl Tryd.underlying30 (ty_anvil_integer_Int.size) zero_anvil_integer_Int (by decide) (by decide) rfl (by kernel_rfl) ?_)
      clear henv hst a; intro a w338 g337 henv hst
      refine seq_step rfl (op_appendS (k := 4) (j := 0) henv hst rfl Tryd.underlying30 inf_anvil_integer_Int rfl rfl rfl rfl rfl rfl rfl rfl rfl rfl rfl (by unfold maxLen; omega) (by omega) ?_)
      clear henv hst a; intro a w341 g339 c340 henv hst
      rw [show fl fN os ++ (#[.bool (neg ((qn r) * ((cmD rs) / (qd r)))), .slice A333 (zl ((qn r) * ((cmD rs) / (qd r)))) c334] : Array Value).toList = fl fN (os ++ [(A333, c334, ((qn r) * ((cmD rs) / (qd r))))]) from fl_snoc (f := fN) os (A333, c334, ((qn r) * ((cmD rs) / (qd r))))] at hst
      replace hst := hst.snocEs (e := (A333, c334, ((qn r) * ((cmD rs) / (qd r))))) (i := 8) (j := 0) rfl rfl
      refine sv (v := .slice (some ⟨g339, 0, none⟩) (j + 1) c340) henv rfl (rn_assign henv rfl) ?_
      clear henv a; intro a henv
      refine wpList_nil ?_
      refine bl_n (th_n ?_)
      refine region_seq ?_
      revert a
      refine sA (v := .int .i64 (j + 1 : Nat)) rfl (fun _ henv => rn_add henv rfl rfl (by rw [IntWalk.i64_in _ (by omega)]; omega)) ?_
      refine mA rfl rfl ?_
      intro a henv
      refine wpList_nil ?_
      exact th_n ⟨_, (by omega), ⟨j + 1, (some ⟨g339, 0, none⟩), c340, (os ++ [(A333, c334, ((qn r) * ((cmD rs) / (qd r))))]), rfl, henv.sub ⟨rfl, rfl, rfl, rfl, rfl, rfl, trivial⟩, hst.pick [4, 5, 6] [7, 8, 0] (by decide), (by omega), (cmN_step hos hrj), (by rw [List.length_append, hol]; rfl), (fun h => absurd h (Nat.succ_ne_zero _))⟩⟩
    · have hje : n0 ≤ j := by have := of_decide_eq_false hc234; omega
      obtain rfl : j = n0 := by omega
      rw [List.take_of_length_le (by omega)] at hos
      refine wp_exit ?_
      refine th_x (th_x (bl_x (th_n ?_)))
      refine wp_seq ?_
      refine region_any (n := 4) (Sk [rowS notU 36 2 Bo j co (fl fN os), bk g57 #[.bool (neg (cmD rs)), .slice Ad (zl (cmD rs)) cd] 36] [pfRow fK FK 4 A0 j c0 es0, pfZ Ad cd (cmD rs), pfEs FN os] [3] []) mixed rfl henv hst ?_
      clear henv hst; intro w342 henv hst
      refine tM (i := 0) [2, 3] rfl (by kernel_rfl) (fun _ _ _ h => h) henv rfl rfl ?_
      clear henv a; intro a henv
      refine tL (i := 1) 1 1 [3] rfl (by kernel_rfl) (fun _ _ _ h => h) henv rfl ty_anvil_integer_Int rfl hst rfl rfl rfl ?_
      clear henv a; intro a henv
      refine tA (i := 2) [3] (v := .slice Bo j co) rfl (by kernel_rfl) (fun _ _ _ h => h) henv rfl (fun _ => rn_assign henv rfl) ?_
      clear henv a; intro a henv
      refine sAny_one (i := 3) (by kernel_rfl) rfl rfl (op_store (k := 2) (c' := #[.bool (neg (cmD rs)), .slice Ad (zl (cmD rs)) cd]) henv hst (ty_anvil_integer_Int.size) rfl rfl rfl rfl (by simp) rfl rfl ?_)
      clear henv hst a; intro a w343 henv hst
      refine ⟨.inr ⟨hst.kn.pick [0, 1] [0, 1, 2], .inl rfl⟩, ?_⟩
      refine sAny_done (by kernel_rfl) ?_ _
      refine th_n ?_
      refine wp_ret ?_
      refine leave henv (res2 Tryd.results70 (RV.tmp henv rfl) (RV.cell henv ty_anvil_integer_Int rfl (hst.oat (k := 2) rfl) rfl)) ?_
      exact ⟨_, _, rfl, ⟨_, _, _, rfl, hst.newRow (k := 0) (j := 2) rfl rfl, hol, hos, hon⟩, z_at rfl (hst.pat (k := 1) rfl), hst.below⟩
end Go.Proofs.YtegglooojlheoaaDoor.W

/- What ratio.Read says of texts that are no fraction's. No condition. -/
namespace Go.Proofs.YtegglooojlheoaaDoor.W
open Go.RowKit Anv Go.Lib
def RdBad (s : List UInt8) (p : Int) : Prop := ∀ w0 : World,
    Calls Tryd.prog 91 #[.string ⟨s.toArray⟩] w0 fun e w' => ∃ v, e = .returned (.tuple #[v, .agg #[.int .i64 6, .int .i64 p]]) ∧ QAt w' v 0 ∧ Below w0.heap.size w0 w'
theorem bad_no {s : List UInt8} {c : Nat} (hl : s.length ≤ 50000) (h : (47 : UInt8) ∉ s) (hb : Rb s c) : RdBad s c := fun w0 => by
  refine (q_read_no hl h).mono fun e w' ⟨hp, hB⟩ => ?_
  rcases hp with ⟨z, v, h1, _⟩ | ⟨b, v, h1, h2, h3⟩
  · exact absurd hb fun q => rz_not_rb h1 q
  · obtain rfl := rb_eq h1 hb
    exact ⟨v, h2, h3, hB⟩
theorem bad_yes {a b : List UInt8} {q : Int} (hl : a.length + 1 + b.length ≤ 50000) (h : (47 : UInt8) ∉ a) (hn : ∀ n d, Rz a n → Rz b d → 0 < d → textQ (Rat.divInt n d) ≠ a ++ 47 :: b) (hq : ∀ p, BadQ a b p → p = q) : RdBad (a ++ 47 :: b) q := fun w0 => by
  refine (q_read_yes hl h).mono fun e w' ⟨hp, hB⟩ => ?_
  rcases hp with ⟨n, d, v, h1, h2, h3, h4, _⟩ | ⟨p, v, h1, h2, h3⟩
  · exact absurd h4 (hn n d h1 h2 h3)
  · obtain rfl := hq p h1
    exact ⟨v, h2, h3, hB⟩
theorem bad_low {a b : List UInt8} {n d q : Int} (hl : a.length + 1 + b.length ≤ 50000) (h : (47 : UInt8) ∉ a) (ha : textZ n = a) (hb : textZ d = b) (hd : 0 < d) (ht : textQ (Rat.divInt n d) ≠ a ++ 47 :: b) (hq : q = (((a ++ 47 :: b).length : Nat) : Int)) : RdBad (a ++ 47 :: b) q := by
  have za : Rz a n := ha ▸ rz_text n
  have zb : Rz b d := hb ▸ rz_text d
  refine bad_yes hl h (fun n' d' h1 h2 _ => by rw [rz_eq h1 za, rz_eq h2 zb]; exact ht) fun p hp => ?_
  rcases hp with ⟨c, h1, _⟩ | ⟨h1, _⟩ | ⟨h1, _⟩ | ⟨h1, _⟩ | ⟨c, h1, _⟩ | ⟨_, _, _, _, _, _, h1⟩
  · exact absurd h1 fun x => rz_not_rb za x
  · have := rz_pos zb; rw [h1] at this; exact absurd this (by decide)
  · exact (pos_head hd (hb ▸ h1) (.inl rfl)).elim
  · exact (pos_head hd (hb ▸ h1) (.inr rfl)).elim
  · exact absurd h1 fun x => rz_not_rb zb x
  · rw [h1, hq]
theorem bad_head {a b : List UInt8} {n q : Int} (hl : a.length + 1 + b.length ≤ 50000) (h : (47 : UInt8) ∉ a) (ha : textZ n = a) (hb : b = [] ∨ (b.getD 0 0).toNat = 45 ∨ (b.getD 0 0).toNat = 48) (hq : q = ((a.length + 1 : Nat) : Int)) : RdBad (a ++ 47 :: b) q := by
  have za : Rz a n := ha ▸ rz_text n
  have no : ∀ d, Rz b d → ¬ 0 < d := fun d zb hd => by
    rcases hb with h1 | h1 | h1
    · have := rz_pos zb; rw [h1] at this; exact absurd this (by decide)
    · exact pos_head hd (by rw [rz_back zb]; exact h1) (.inl rfl)
    · exact pos_head hd (by rw [rz_back zb]; exact h1) (.inr rfl)
  refine bad_yes hl h (fun n' d' _ h2 h3 => absurd h3 (no d' h2)) fun p hp => ?_
  rcases hp with ⟨c, h1, _⟩ | ⟨_, h1⟩ | ⟨_, h1⟩ | ⟨_, h1⟩ | ⟨c, _, h1, h2, h3, _⟩ | ⟨_, d, _, h1, h2, _⟩
  · exact absurd h1 fun x => rz_not_rb za x
  · rw [h1, hq]
  · rw [h1, hq]
  · rw [h1, hq]
  · rcases hb with h | h | h
    · exact absurd h h1
    · exact absurd h h2
    · exact absurd h h3
  · exact absurd h2 (no d h1)
theorem bad_below {a b : List UInt8} {n q : Int} {c : Nat} (hl : a.length + 1 + b.length ≤ 50000) (h : (47 : UInt8) ∉ a) (ha : textZ n = a) (hb : Rb b c) (h0 : b ≠ []) (h1 : (b.getD 0 0).toNat ≠ 45) (h2 : (b.getD 0 0).toNat ≠ 48) (hq : q = ((a.length + 1 + c : Nat) : Int)) : RdBad (a ++ 47 :: b) q := by
  have za : Rz a n := ha ▸ rz_text n
  refine bad_yes hl h (fun n' d' _ h2 _ => absurd hb fun x => rz_not_rb h2 x) fun p hp => ?_
  rcases hp with ⟨c, q1, _⟩ | ⟨q1, _⟩ | ⟨q1, _⟩ | ⟨q1, _⟩ | ⟨c', q1, _, _, _, q2⟩ | ⟨_, d, _, q1, _⟩
  · exact absurd q1 fun x => rz_not_rb za x
  · exact absurd q1 h0
  · exact absurd q1 h1
  · exact absurd q1 h2
  · obtain rfl := rb_eq q1 hb
    rw [q2, hq]
  · exact absurd hb fun x => rz_not_rb q1 x
abbrev XE := List UInt8 × Int
def fX (e : XE) : List Value := [.string ⟨e.1.toArray⟩, .int .i64 e.2]
def FX (_ : XE) : PF := pfT0
theorem fX_len (e : XE) : (fX e).length = 2 := rfl
def badTs : List XE := [(([52, 47, 54] : List UInt8), (3 : Int)), (([51, 47, 49] : List UInt8), (3 : Int)), (([48, 47, 53] : List UInt8), (3 : Int)), (([] : List UInt8), (0 : Int)), (([45] : List UInt8), (1 : Int)), (([49, 47] : List UInt8), (2 : Int)), (([49, 47, 45, 50] : List UInt8), (2 : Int)), (([49, 47, 48, 50] : List UInt8), (2 : Int)), (([45, 48] : List UInt8), (1 : Int)), (([48, 49] : List UInt8), (1 : Int)), (([49, 47, 50, 120] : List UInt8), (3 : Int))]
theorem badT_len : badTs.length = 11 := rfl
instance (c : UInt8) : Decidable (ndg c) := by unfold ndg; infer_instance
instance (f : Nat) (d : List UInt8) (b : Nat) : Decidable (BadD f d b) := by unfold BadD; infer_instance
theorem rb_first {t : List UInt8} {b : Nat} (h : (t.getD 0 0).toNat ≠ 45) (k : Fb 0 t b) : Rb t b := .inr ⟨h, k⟩
theorem fb_of {f : Nat} {d : List UInt8} {b : Nat} (h1 : (b < d.length ∧ BadD f d b) ∨ (b = 0 ∧ d.length = 0)) (h2 : ∀ q, q < b → ¬ BadD f d q) : Fb f d b := ⟨h1, h2⟩
theorem bad_all : ∀ e ∈ badTs, RdBad e.1 e.2 := by
  have b1 : RdBad ([52] ++ 47 :: [54]) 3 := bad_low (n := 4) (d := 6) (by decide) (by decide) (by decide +kernel) (by decide +kernel) (by decide) (by decide +kernel) rfl
  have b2 : RdBad ([51] ++ 47 :: [49]) 3 := bad_low (n := 3) (d := 1) (by decide) (by decide) (by decide +kernel) (by decide +kernel) (by decide) (by decide +kernel) rfl
  have b3 : RdBad ([48] ++ 47 :: [53]) 3 := bad_low (n := 0) (d := 5) (by decide) (by decide) (by decide +kernel) (by decide +kernel) (by decide) (by decide +kernel) rfl
  have b4 : RdBad [] 0 := bad_no (c := 0) (by decide) (by decide) (rb_first (by decide) (fb_of (by decide +kernel) (by decide +kernel)))
  have b5 : RdBad [45] 1 := bad_no (c := 1) (by decide) (by decide) (.inl ⟨[], 0, rfl, fb_of (by decide +kernel) (by decide +kernel), rfl⟩)
  have b6 : RdBad ([49] ++ 47 :: []) 2 := bad_head (n := 1) (by decide) (by decide) (by decide +kernel) (.inl rfl) rfl
  have b7 : RdBad ([49] ++ 47 :: [45, 50]) 2 := bad_head (n := 1) (by decide) (by decide) (by decide +kernel) (.inr (.inl rfl)) rfl
  have b8 : RdBad ([49] ++ 47 :: [48, 50]) 2 := bad_head (n := 1) (by decide) (by decide) (by decide +kernel) (.inr (.inr rfl)) rfl
  have b9 : RdBad [45, 48] 1 := bad_no (c := 1) (by decide) (by decide) (.inl ⟨[48], 0, rfl, fb_of (by decide +kernel) (by decide +kernel), rfl⟩)
  have b10 : RdBad [48, 49] 1 := bad_no (c := 1) (by decide) (by decide) (rb_first (by decide) (fb_of (by decide +kernel) (by decide +kernel)))
  have b11 : RdBad ([49] ++ 47 :: [50, 120]) 3 := bad_below (n := 1) (c := 1) (by decide) (by decide) (by decide +kernel) (rb_first (by decide) (fb_of (by decide +kernel) (by decide +kernel))) (by decide) (by decide) (by decide) rfl
  intro e he
  simp only [badTs, List.mem_cons, List.not_mem_nil, or_false] at he
  rcases he with rfl | rfl | rfl | rfl | rfl | rfl | rfl | rfl | rfl | rfl | rfl
  · exact b1
  · exact b2
  · exact b3
  · exact b4
  · exact b5
  · exact b6
  · exact b7
  · exact b8
  · exact b9
  · exact b10
  · exact b11
theorem qk_0 : Qs 1 ((0 : Int) : Rat) := ⟨by decide, by decide⟩
theorem qk_1 : Qs 1 ((1 : Int) : Rat) := ⟨by decide, by decide⟩
theorem qk_2 : Qs 1 (mkRat 1 2) := ⟨by decide, by decide⟩
theorem qk_3 : Qs 1 (mkRat 1 3) := ⟨by decide, by decide⟩
theorem qk_23 : Qs 1 (mkRat (-2) 3) := ⟨by decide, by decide⟩
theorem qk_4 : Qs 1 ((4 : Int) : Rat) := ⟨by decide, by decide⟩
theorem qk_6 : Qs 1 (mkRat 1 6) := ⟨by decide, by decide⟩
section
variable {A : Option Addr} {c : Nat} {es : List KE} {w0 : World}
theorem common_k3 (h : (pfRow fK FK 4 A 3 c es).P w0) (hr : es.map kr = [mkRat 1 2, mkRat (-2) 3, ((4 : Int) : Rat)]) :
    Calls Tryd.prog 70 #[.slice A 3 c] w0 fun e w' => ∃ v u, e = .returned (.tuple #[v, u]) ∧ ZRowC w0.heap.size w' v 3 [3, -4, 24] ∧ ZAt w' u 6 ∧ Below w0.heap.size w0 w' := by
  have h1 := common_q h hr (fun r hr => by
    simp only [List.mem_cons, List.not_mem_nil, or_false] at hr
    rcases hr with rfl | rfl | rfl
    · exact qk_2.mono (by decide)
    · exact qk_23.mono (by decide)
    · exact qk_4.mono (by decide)) (by decide)
  rwa [show cmD [mkRat 1 2, mkRat (-2) 3, ((4 : Int) : Rat)] = 6 by decide +kernel, show cmN 6 [mkRat 1 2, mkRat (-2) 3, ((4 : Int) : Rat)] = [3, -4, 24] by decide +kernel] at h1
theorem common_k0 : Calls Tryd.prog 70 #[.slice none 0 0] w0 fun e w' => ∃ v u, e = .returned (.tuple #[v, u]) ∧ ZRowC w0.heap.size w' v 0 [] ∧ ZAt w' u 1 ∧ Below w0.heap.size w0 w' :=
  common_q (rs := []) (row_nil fK FK 4 w0) rfl (fun _ h => by cases h) (by decide)
theorem sum_k3 (h : (pfRow fK FK 4 A 3 c es).P w0) (hr : es.map kr = [mkRat 1 2, mkRat 1 3, mkRat 1 6]) :
    Calls Tryd.prog 75 #[.slice A 3 c] w0 fun e w' => ∃ v, e = .returned v ∧ QAt w' v ((1 : Int) : Rat) ∧ Below w0.heap.size w0 w' := by
  have h1 := sum_q h hr (fun r hr => by
    simp only [List.mem_cons, List.not_mem_nil, or_false] at hr
    rcases hr with rfl | rfl | rfl
    · exact qk_2.mono (by decide)
    · exact qk_3.mono (by decide)
    · exact qk_6.mono (by decide)) (by decide)
  rwa [show smQ [mkRat 1 2, mkRat 1 3, mkRat 1 6] = ((1 : Int) : Rat) by decide +kernel] at h1
theorem sum_k0 : Calls Tryd.prog 75 #[.slice none 0 0] w0 fun e w' => ∃ v, e = .returned v ∧ QAt w' v 0 ∧ Below w0.heap.size w0 w' :=
  sum_q (rs := []) (row_nil fK FK 4 w0) rfl (fun _ h => by cases h) (by decide)
end
end Go.Proofs.YtegglooojlheoaaDoor.W
