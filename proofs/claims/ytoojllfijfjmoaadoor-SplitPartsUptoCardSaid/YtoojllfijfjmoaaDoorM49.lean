/- SplitParts, where the argument is of at most 1048576 numbers. Printed by pv/gen_spc.py. No condition. -/
import Derived.Test.YtoojllfijfjmoaaDoorM47
import Derived.Test.YtoojllfijfjmoaaDoorM15

namespace Go.Proofs.YtoojllfijfjmoaaDoor.W
open Go.RowKit Anv Go.Lib
theorem rows_zkv {vs : List LE} {zss : List (List Int)} {a : Nat} (hz : vs.map lz = zss) (h : ∀ i, Zc a (zss.getD i [])) (ha : a ≤ 20000) : ∀ v ∈ vs, Zk 20000 (lz v) := fun v hv => by
  obtain ⟨i, hi, e⟩ := List.mem_iff_getElem.1 hv
  have he : vs[i]? = some v := by rw [List.getElem?_eq_getElem hi, e]
  obtain ⟨A', n', c', es'⟩ := v
  have h2 := (h i).zk
  rw [← lrow_at hz he] at h2
  exact h2.mono ha
set_option maxRecDepth 100000 in
set_option maxHeartbeats 8000000 in
theorem parts_mid {A0 : Option Addr} {n0 c0 : Nat} {es0 : List Int} {k m : Int} {w0 : World} (h0 : (pfRow fI FI 1 A0 n0 c0 es0).P w0) (hI : I64 es0) (hw : 300 < n0 ∧ n0 ≤ 4096) :
    Calls Tryd.prog 3 #[.slice A0 n0 c0, .int .i64 k, .int .i64 m] w0 fun e w' => e = .returned (.bool true) ∧ Below w0.heap.size w0 w' := by
  refine enter Tryd.func3 rfl Tryd.ntmps3 rfl ?_
  intro a henv hst
  have hlen0 := h0.2.1
  have hbig0 := Nat.le_trans h0.1.cap h0.1.big
  unfold maxLen at hbig0
  replace hst := hst.argRow h0
  clear h0
  have hx0 := i64_zk hI
  refine wp_seq ?_
  refine region_seq ?_
  refine sv (v := .bool false) henv rfl (rn_assign henv rfl) ?_
  clear henv a; intro a henv
  refine wpList_nil ?_
  refine th_n ?_
  refine wp_seq ?_
  refine wp_seq ?_
  refine region_seq ?_
  refine seq_step rfl (op_call henv rfl Tryd.call10 rfl l_works ?_)
  rintro e w51 ⟨rfl, hb⟩
  refine ⟨_, rfl, ?_⟩
  clear henv a; intro a henv
  replace hst := hst.call hb
  clear hb
  refine sv (v := .bool false) henv rfl (rn_un henv rfl rfl) ?_
  clear henv a; intro a henv
  refine wpList_nil ?_
  refine th_n ?_
  refine if_f henv rfl (rfl) ?_
  refine wp_skip ?_
  refine th_n ?_
  refine wp_seq ?_
  refine wp_seq ?_
  refine region_seq ?_
  revert a
  refine mA rfl rfl ?_
  refine sA (v := .int .i64 (n0 : Nat)) rfl (fun _ henv => rn_len henv Tryd.underlying22 rfl) ?_
  refine sA (v := .bool (decide (((n0 : Nat) : Int) > (300 : Int)))) rfl (fun _ henv => rn_bin henv rfl rfl rfl) ?_
  intro a henv
  rw [show (decide (((n0 : Nat) : Int) > (300 : Int))) = true from (decide_eq_true (by omega))] at henv
  revert a
  refine mA rfl rfl ?_
  refine gA (v := .slice A0 n0 c0) rfl rfl rfl rfl (fun _ henv => rn_move henv rfl) ?_
  refine gA (v := .int .i64 (n0 : Nat)) rfl rfl rfl rfl (fun _ henv => rn_len henv Tryd.underlying22 rfl) ?_
  refine gA (v := .bool (decide (((n0 : Nat) : Int) ≤ (4096 : Int)))) rfl rfl rfl rfl (fun _ henv => rn_bin henv rfl rfl rfl) ?_
  intro a henv
  rw [show (decide (((n0 : Nat) : Int) ≤ (4096 : Int))) = true from (decide_eq_true (by omega))] at henv
  refine sv (v := .bool true) henv rfl (rn_pick henv rfl rfl) ?_
  clear henv a; intro a henv
  refine wpList_nil ?_
  refine th_n ?_
  refine if_t henv rfl (rfl) ?_
  refine wp_seq ?_
  refine region_seq ?_
  refine sv (v := .bool true) henv rfl (rn_assign henv rfl) ?_
  clear henv a; intro a henv
  refine wpList_nil ?_
  refine th_n ?_
  refine wp_ret ?_
  refine th_r ?_
  refine leave henv (res1 Tryd.results3 (RV.tmp henv rfl)) ?_
  exact ⟨rfl, hst.below⟩
set_option maxRecDepth 100000 in
set_option maxHeartbeats 8000000 in
theorem parts_arg {A0 : Option Addr} {n0 c0 : Nat} {es0 : List Int} {k m : Int} {w0 : World} (h0 : (pfRow fI FI 1 A0 n0 c0 es0).P w0) (hI : I64 es0) (hs : n0 ≤ 1048576) (hw : ¬ (300 < n0 ∧ n0 ≤ 4096)) (hbad : k < 1 ∨ 8 < k ∨ m < 1 ∨ 4096 < m) :
    Calls Tryd.prog 3 #[.slice A0 n0 c0, .int .i64 k, .int .i64 m] w0 fun e w' => e = .returned (.bool true) ∧ Below w0.heap.size w0 w' := by
  refine enter Tryd.func3 rfl Tryd.ntmps3 rfl ?_
  intro a henv hst
  have hlen0 := h0.2.1
  have hbig0 := Nat.le_trans h0.1.cap h0.1.big
  unfold maxLen at hbig0
  replace hst := hst.argRow h0
  clear h0
  have hx0 := i64_zk hI
  refine wp_seq ?_
  refine region_seq ?_
  refine sv (v := .bool false) henv rfl (rn_assign henv rfl) ?_
  clear henv a; intro a henv
  refine wpList_nil ?_
  refine th_n ?_
  refine wp_seq ?_
  refine wp_seq ?_
  refine region_seq ?_
  refine seq_step rfl (op_call henv rfl Tryd.call10 rfl l_works ?_)
  rintro e w51 ⟨rfl, hb⟩
  refine ⟨_, rfl, ?_⟩
  clear henv a; intro a henv
  replace hst := hst.call hb
  clear hb
  refine sv (v := .bool false) henv rfl (rn_un henv rfl rfl) ?_
  clear henv a; intro a henv
  refine wpList_nil ?_
  refine th_n ?_
  refine if_f henv rfl (rfl) ?_
  refine wp_skip ?_
  refine th_n ?_
  refine wp_seq ?_
  refine wp_seq ?_
  refine region_seq ?_
  revert a
  refine mA rfl rfl ?_
  refine sA (v := .int .i64 (n0 : Nat)) rfl (fun _ henv => rn_len henv Tryd.underlying22 rfl) ?_
  refine sA (v := .bool (decide (((n0 : Nat) : Int) > (300 : Int)))) rfl (fun _ henv => rn_bin henv rfl rfl rfl) ?_
  refine mA rfl rfl ?_
  intro a henv
  rcases bool_em (decide (((n0 : Nat) : Int) > (300 : Int))) with hg52 | hg52
  · rw [hg52] at henv
    have hx53 := of_decide_eq_true hg52
    revert a
    refine gA (v := .slice A0 n0 c0) rfl rfl rfl rfl (fun _ henv => rn_move henv rfl) ?_
    refine gA (v := .int .i64 (n0 : Nat)) rfl rfl rfl rfl (fun _ henv => rn_len henv Tryd.underlying22 rfl) ?_
    refine gA (v := .bool (decide (((n0 : Nat) : Int) ≤ (4096 : Int)))) rfl rfl rfl rfl (fun _ henv => rn_bin henv rfl rfl rfl) ?_
    intro a henv
    rw [show (decide (((n0 : Nat) : Int) ≤ (4096 : Int))) = false from (decide_eq_false (by omega))] at henv
    refine sv (v := .bool false) henv rfl (rn_pick henv rfl rfl) ?_
    clear henv a; intro a henv
    refine wpList_nil ?_
    refine th_n ?_
    refine if_f henv rfl (rfl) ?_
    refine wp_skip ?_
    refine th_n ?_
    refine wp_seq ?_
    refine region_seq ?_
    refine sv (v := .slice A0 n0 c0) henv rfl (rn_move henv rfl) ?_
    clear henv a; intro a henv
    refine seq_step rfl (op_call henv rfl Tryd.call11 rfl (l_list (hst.pat (k := 0) rfl) hI (by omega)) ?_)
    rintro e w59 ⟨_, rfl, ⟨A54, c55, es56, rfl, hr, hl57, hz58⟩, hb⟩
    refine ⟨_, rfl, ?_⟩
    clear henv a; intro a henv
    replace hst := hst.freshRd hb hr hl57 (ap_N hr.2.1 trivial)
    clear hr
    clear hb
    refine sv (v := .slice A54 n0 c55) henv rfl (rn_assign henv rfl) ?_
    clear henv a; intro a henv
    refine wpList_nil ?_
    refine th_n ?_
    refine wp_seq ?_
    refine region_seq ?_
    revert a
    refine mA rfl rfl ?_
    refine mA rfl rfl ?_
    refine mA rfl rfl ?_
    intro a henv
    refine seq_step rfl (op_call henv rfl Tryd.call12 rfl (sp_parts_arg hbad) ?_)
    rintro e w60 ⟨rfl, hb⟩
    refine ⟨_, rfl, ?_⟩
    clear henv a; intro a henv
    replace hst := hst.call hb
    clear hb
    revert a
    refine mA rfl rfl ?_
    refine sA (v := .slice none 0 0) rfl (fun _ henv => rn_extract henv rfl rfl) ?_
    refine sA (v := .int .i64 2) rfl (fun _ henv => rn_extract henv rfl rfl) ?_
    refine aA rfl rfl ?_
    refine aA rfl rfl ?_
    intro a henv
    refine wpList_nil ?_
    refine th_n ?_
    refine wp_seq ?_
    refine wp_block ?_
    refine wp_seq ?_
    refine region_seq ?_
    revert a
    refine mA rfl rfl ?_
    refine sA (v := .bool (decide (k < (1 : Int)))) rfl (fun _ henv => rn_bin henv rfl rfl rfl) ?_
    refine mA rfl rfl ?_
    intro a henv
    rcases bool_em (decide (k < (1 : Int))) with hg61 | hg61
    · rw [hg61] at henv
      have hx62 := of_decide_eq_true hg61
      revert a
      refine kA rfl rfl rfl rfl rfl ?_
      refine kA rfl rfl rfl rfl rfl ?_
      refine sA (v := .bool true) rfl (fun _ henv => rn_pick henv rfl rfl) ?_
      refine mA rfl rfl ?_
      refine kA rfl rfl rfl rfl rfl ?_
      refine kA rfl rfl rfl rfl rfl ?_
      refine sA (v := .bool true) rfl (fun _ henv => rn_pick henv rfl rfl) ?_
      refine mA rfl rfl ?_
      refine kA rfl rfl rfl rfl rfl ?_
      refine kA rfl rfl rfl rfl rfl ?_
      refine sA (v := .bool true) rfl (fun _ henv => rn_pick henv rfl rfl) ?_
      refine aA rfl rfl ?_
      intro a henv
      refine wpList_nil ?_
      refine th_n ?_
      refine if_t henv rfl (rfl) ?_
      refine wp_seq ?_
      refine region_seq ?_
      revert a
      refine mA rfl rfl ?_
      refine sA (v := .bool true) rfl (fun _ henv => rn_nilS (A := none) henv Tryd.underlying26 rfl) ?_
      refine mA rfl rfl ?_
      refine gA (v := .int .i64 2) rfl rfl rfl rfl (fun _ henv => rn_move henv rfl) ?_
      refine gA (v := .bool true) rfl rfl rfl rfl (fun _ henv => rn_bin henv rfl rfl rfl) ?_
      refine sA (v := .bool true) rfl (fun _ henv => rn_pick henv rfl rfl) ?_
      refine aA rfl rfl ?_
      intro a henv
      refine wpList_nil ?_
      refine th_n ?_
      refine wp_ret ?_
      refine bl_r (th_r ?_)
      refine leave henv (res1 Tryd.results3 (RV.tmp henv rfl)) ?_
      exact ⟨rfl, hst.below⟩
    · rw [hg61] at henv
      have hx63 := of_decide_eq_false hg61
      revert a
      refine gA (v := .int .i64 k) rfl rfl rfl rfl (fun _ henv => rn_move henv rfl) ?_
      refine gA (v := .bool (decide (k > (8 : Int)))) rfl rfl rfl rfl (fun _ henv => rn_bin henv rfl rfl rfl) ?_
      refine sA (v := .bool (decide (k > (8 : Int)))) rfl (fun _ henv => rn_pick henv rfl rfl) ?_
      refine mA rfl rfl ?_
      intro a henv
      rcases bool_em (decide (k > (8 : Int))) with hg64 | hg64
      · rw [hg64] at henv
        have hx65 := of_decide_eq_true hg64
        revert a
        refine kA rfl rfl rfl rfl rfl ?_
        refine kA rfl rfl rfl rfl rfl ?_
        refine sA (v := .bool true) rfl (fun _ henv => rn_pick henv rfl rfl) ?_
        refine mA rfl rfl ?_
        refine kA rfl rfl rfl rfl rfl ?_
        refine kA rfl rfl rfl rfl rfl ?_
        refine sA (v := .bool true) rfl (fun _ henv => rn_pick henv rfl rfl) ?_
        refine aA rfl rfl ?_
        intro a henv
        refine wpList_nil ?_
        refine th_n ?_
        refine if_t henv rfl (rfl) ?_
        refine wp_seq ?_
        refine region_seq ?_
        revert a
        refine mA rfl rfl ?_
        refine sA (v := .bool true) rfl (fun _ henv => rn_nilS (A := none) henv Tryd.underlying26 rfl) ?_
        refine mA rfl rfl ?_
        refine gA (v := .int .i64 2) rfl rfl rfl rfl (fun _ henv => rn_move henv rfl) ?_
        refine gA (v := .bool true) rfl rfl rfl rfl (fun _ henv => rn_bin henv rfl rfl rfl) ?_
        refine sA (v := .bool true) rfl (fun _ henv => rn_pick henv rfl rfl) ?_
        refine aA rfl rfl ?_
        intro a henv
        refine wpList_nil ?_
        refine th_n ?_
        refine wp_ret ?_
        refine bl_r (th_r ?_)
        refine leave henv (res1 Tryd.results3 (RV.tmp henv rfl)) ?_
        exact ⟨rfl, hst.below⟩
      · rw [hg64] at henv
        have hx66 := of_decide_eq_false hg64
        revert a
        refine gA (v := .int .i64 m) rfl rfl rfl rfl (fun _ henv => rn_move henv rfl) ?_
        refine gA (v := .bool (decide (m < (1 : Int)))) rfl rfl rfl rfl (fun _ henv => rn_bin henv rfl rfl rfl) ?_
        refine sA (v := .bool (decide (m < (1 : Int)))) rfl (fun _ henv => rn_pick henv rfl rfl) ?_
        refine mA rfl rfl ?_
        intro a henv
        rcases bool_em (decide (m < (1 : Int))) with hg67 | hg67
        · rw [hg67] at henv
          have hx68 := of_decide_eq_true hg67
          revert a
          refine kA rfl rfl rfl rfl rfl ?_
          refine kA rfl rfl rfl rfl rfl ?_
          refine sA (v := .bool true) rfl (fun _ henv => rn_pick henv rfl rfl) ?_
          refine aA rfl rfl ?_
          intro a henv
          refine wpList_nil ?_
          refine th_n ?_
          refine if_t henv rfl (rfl) ?_
          refine wp_seq ?_
          refine region_seq ?_
          revert a
          refine mA rfl rfl ?_
          refine sA (v := .bool true) rfl (fun _ henv => rn_nilS (A := none) henv Tryd.underlying26 rfl) ?_
          refine mA rfl rfl ?_
          refine gA (v := .int .i64 2) rfl rfl rfl rfl (fun _ henv => rn_move henv rfl) ?_
          refine gA (v := .bool true) rfl rfl rfl rfl (fun _ henv => rn_bin henv rfl rfl rfl) ?_
          refine sA (v := .bool true) rfl (fun _ henv => rn_pick henv rfl rfl) ?_
          refine aA rfl rfl ?_
          intro a henv
          refine wpList_nil ?_
          refine th_n ?_
          refine wp_ret ?_
          refine bl_r (th_r ?_)
          refine leave henv (res1 Tryd.results3 (RV.tmp henv rfl)) ?_
          exact ⟨rfl, hst.below⟩
        · rw [hg67] at henv
          have hx69 := of_decide_eq_false hg67
          revert a
          refine gA (v := .int .i64 m) rfl rfl rfl rfl (fun _ henv => rn_move henv rfl) ?_
          refine gA (v := .bool (decide (m > (4096 : Int)))) rfl rfl rfl rfl (fun _ henv => rn_bin henv rfl rfl rfl) ?_
          refine sA (v := .bool (decide (m > (4096 : Int)))) rfl (fun _ henv => rn_pick henv rfl rfl) ?_
          refine aA rfl rfl ?_
          intro a henv
          refine wpList_nil ?_
          refine th_n ?_
          refine if_split henv rfl (fun hc70 => ?_) (fun hc70 => ?_)
          · have hx71 := of_decide_eq_true hc70
            refine wp_seq ?_
            refine region_seq ?_
            revert a
            refine mA rfl rfl ?_
            refine sA (v := .bool true) rfl (fun _ henv => rn_nilS (A := none) henv Tryd.underlying26 rfl) ?_
            refine mA rfl rfl ?_
            refine gA (v := .int .i64 2) rfl rfl rfl rfl (fun _ henv => rn_move henv rfl) ?_
            refine gA (v := .bool true) rfl rfl rfl rfl (fun _ henv => rn_bin henv rfl rfl rfl) ?_
            refine sA (v := .bool true) rfl (fun _ henv => rn_pick henv rfl rfl) ?_
            refine aA rfl rfl ?_
            intro a henv
            refine wpList_nil ?_
            refine th_n ?_
            refine wp_ret ?_
            refine bl_r (th_r ?_)
            refine leave henv (res1 Tryd.results3 (RV.tmp henv rfl)) ?_
            exact ⟨rfl, hst.below⟩
          · have hx72 := of_decide_eq_false hc70
            exfalso; omega
  · rw [hg52] at henv
    have hx73 := of_decide_eq_false hg52
    revert a
    refine kA rfl rfl rfl rfl rfl ?_
    refine kA rfl rfl rfl rfl rfl ?_
    refine kA rfl rfl rfl rfl rfl ?_
    refine sA (v := .bool false) rfl (fun _ henv => rn_pick henv rfl rfl) ?_
    intro a henv
    refine wpList_nil ?_
    refine th_n ?_
    refine if_f henv rfl (rfl) ?_
    refine wp_skip ?_
    refine th_n ?_
    refine wp_seq ?_
    refine region_seq ?_
    refine sv (v := .slice A0 n0 c0) henv rfl (rn_move henv rfl) ?_
    clear henv a; intro a henv
    refine seq_step rfl (op_call henv rfl Tryd.call11 rfl (l_list (hst.pat (k := 0) rfl) hI (by omega)) ?_)
    rintro e w79 ⟨_, rfl, ⟨A74, c75, es76, rfl, hr, hl77, hz78⟩, hb⟩
    refine ⟨_, rfl, ?_⟩
    clear henv a; intro a henv
    replace hst := hst.freshRd hb hr hl77 (ap_N hr.2.1 trivial)
    clear hr
    clear hb
    refine sv (v := .slice A74 n0 c75) henv rfl (rn_assign henv rfl) ?_
    clear henv a; intro a henv
    refine wpList_nil ?_
    refine th_n ?_
    refine wp_seq ?_
    refine region_seq ?_
    revert a
    refine mA rfl rfl ?_
    refine mA rfl rfl ?_
    refine mA rfl rfl ?_
    intro a henv
    refine seq_step rfl (op_call henv rfl Tryd.call12 rfl (sp_parts_arg hbad) ?_)
    rintro e w80 ⟨rfl, hb⟩
    refine ⟨_, rfl, ?_⟩
    clear henv a; intro a henv
    replace hst := hst.call hb
    clear hb
    revert a
    refine mA rfl rfl ?_
    refine sA (v := .slice none 0 0) rfl (fun _ henv => rn_extract henv rfl rfl) ?_
    refine sA (v := .int .i64 2) rfl (fun _ henv => rn_extract henv rfl rfl) ?_
    refine aA rfl rfl ?_
    refine aA rfl rfl ?_
    intro a henv
    refine wpList_nil ?_
    refine th_n ?_
    refine wp_seq ?_
    refine wp_block ?_
    refine wp_seq ?_
    refine region_seq ?_
    revert a
    refine mA rfl rfl ?_
    refine sA (v := .bool (decide (k < (1 : Int)))) rfl (fun _ henv => rn_bin henv rfl rfl rfl) ?_
    refine mA rfl rfl ?_
    intro a henv
    rcases bool_em (decide (k < (1 : Int))) with hg81 | hg81
    · rw [hg81] at henv
      have hx82 := of_decide_eq_true hg81
      revert a
      refine kA rfl rfl rfl rfl rfl ?_
      refine kA rfl rfl rfl rfl rfl ?_
      refine sA (v := .bool true) rfl (fun _ henv => rn_pick henv rfl rfl) ?_
      refine mA rfl rfl ?_
      refine kA rfl rfl rfl rfl rfl ?_
      refine kA rfl rfl rfl rfl rfl ?_
      refine sA (v := .bool true) rfl (fun _ henv => rn_pick henv rfl rfl) ?_
      refine mA rfl rfl ?_
      refine kA rfl rfl rfl rfl rfl ?_
      refine kA rfl rfl rfl rfl rfl ?_
      refine sA (v := .bool true) rfl (fun _ henv => rn_pick henv rfl rfl) ?_
      refine aA rfl rfl ?_
      intro a henv
      refine wpList_nil ?_
      refine th_n ?_
      refine if_t henv rfl (rfl) ?_
      refine wp_seq ?_
      refine region_seq ?_
      revert a
      refine mA rfl rfl ?_
      refine sA (v := .bool true) rfl (fun _ henv => rn_nilS (A := none) henv Tryd.underlying26 rfl) ?_
      refine mA rfl rfl ?_
      refine gA (v := .int .i64 2) rfl rfl rfl rfl (fun _ henv => rn_move henv rfl) ?_
      refine gA (v := .bool true) rfl rfl rfl rfl (fun _ henv => rn_bin henv rfl rfl rfl) ?_
      refine sA (v := .bool true) rfl (fun _ henv => rn_pick henv rfl rfl) ?_
      refine aA rfl rfl ?_
      intro a henv
      refine wpList_nil ?_
      refine th_n ?_
      refine wp_ret ?_
      refine bl_r (th_r ?_)
      refine leave henv (res1 Tryd.results3 (RV.tmp henv rfl)) ?_
      exact ⟨rfl, hst.below⟩
    · rw [hg81] at henv
      have hx83 := of_decide_eq_false hg81
      revert a
      refine gA (v := .int .i64 k) rfl rfl rfl rfl (fun _ henv => rn_move henv rfl) ?_
      refine gA (v := .bool (decide (k > (8 : Int)))) rfl rfl rfl rfl (fun _ henv => rn_bin henv rfl rfl rfl) ?_
      refine sA (v := .bool (decide (k > (8 : Int)))) rfl (fun _ henv => rn_pick henv rfl rfl) ?_
      refine mA rfl rfl ?_
      intro a henv
      rcases bool_em (decide (k > (8 : Int))) with hg84 | hg84
      · rw [hg84] at henv
        have hx85 := of_decide_eq_true hg84
        revert a
        refine kA rfl rfl rfl rfl rfl ?_
        refine kA rfl rfl rfl rfl rfl ?_
        refine sA (v := .bool true) rfl (fun _ henv => rn_pick henv rfl rfl) ?_
        refine mA rfl rfl ?_
        refine kA rfl rfl rfl rfl rfl ?_
        refine kA rfl rfl rfl rfl rfl ?_
        refine sA (v := .bool true) rfl (fun _ henv => rn_pick henv rfl rfl) ?_
        refine aA rfl rfl ?_
        intro a henv
        refine wpList_nil ?_
        refine th_n ?_
        refine if_t henv rfl (rfl) ?_
        refine wp_seq ?_
        refine region_seq ?_
        revert a
        refine mA rfl rfl ?_
        refine sA (v := .bool true) rfl (fun _ henv => rn_nilS (A := none) henv Tryd.underlying26 rfl) ?_
        refine mA rfl rfl ?_
        refine gA (v := .int .i64 2) rfl rfl rfl rfl (fun _ henv => rn_move henv rfl) ?_
        refine gA (v := .bool true) rfl rfl rfl rfl (fun _ henv => rn_bin henv rfl rfl rfl) ?_
        refine sA (v := .bool true) rfl (fun _ henv => rn_pick henv rfl rfl) ?_
        refine aA rfl rfl ?_
        intro a henv
        refine wpList_nil ?_
        refine th_n ?_
        refine wp_ret ?_
        refine bl_r (th_r ?_)
        refine leave henv (res1 Tryd.results3 (RV.tmp henv rfl)) ?_
        exact ⟨rfl, hst.below⟩
      · rw [hg84] at henv
        have hx86 := of_decide_eq_false hg84
        revert a
        refine gA (v := .int .i64 m) rfl rfl rfl rfl (fun _ henv => rn_move henv rfl) ?_
        refine gA (v := .bool (decide (m < (1 : Int)))) rfl rfl rfl rfl (fun _ henv => rn_bin henv rfl rfl rfl) ?_
        refine sA (v := .bool (decide (m < (1 : Int)))) rfl (fun _ henv => rn_pick henv rfl rfl) ?_
        refine mA rfl rfl ?_
        intro a henv
        rcases bool_em (decide (m < (1 : Int))) with hg87 | hg87
        · rw [hg87] at henv
          have hx88 := of_decide_eq_true hg87
          revert a
          refine kA rfl rfl rfl rfl rfl ?_
          refine kA rfl rfl rfl rfl rfl ?_
          refine sA (v := .bool true) rfl (fun _ henv => rn_pick henv rfl rfl) ?_
          refine aA rfl rfl ?_
          intro a henv
          refine wpList_nil ?_
          refine th_n ?_
          refine if_t henv rfl (rfl) ?_
          refine wp_seq ?_
          refine region_seq ?_
          revert a
          refine mA rfl rfl ?_
          refine sA (v := .bool true) rfl (fun _ henv => rn_nilS (A := none) henv Tryd.underlying26 rfl) ?_
          refine mA rfl rfl ?_
          refine gA (v := .int .i64 2) rfl rfl rfl rfl (fun _ henv => rn_move henv rfl) ?_
          refine gA (v := .bool true) rfl rfl rfl rfl (fun _ henv => rn_bin henv rfl rfl rfl) ?_
          refine sA (v := .bool true) rfl (fun _ henv => rn_pick henv rfl rfl) ?_
          refine aA rfl rfl ?_
          intro a henv
          refine wpList_nil ?_
          refine th_n ?_
          refine wp_ret ?_
          refine bl_r (th_r ?_)
          refine leave henv (res1 Tryd.results3 (RV.tmp henv rfl)) ?_
          exact ⟨rfl, hst.below⟩
        · rw [hg87] at henv
          have hx89 := of_decide_eq_false hg87
          revert a
          refine gA (v := .int .i64 m) rfl rfl rfl rfl (fun _ henv => rn_move henv rfl) ?_
          refine gA (v := .bool (decide (m > (4096 : Int)))) rfl rfl rfl rfl (fun _ henv => rn_bin henv rfl rfl rfl) ?_
          refine sA (v := .bool (decide (m > (4096 : Int)))) rfl (fun _ henv => rn_pick henv rfl rfl) ?_
          refine aA rfl rfl ?_
          intro a henv
          refine wpList_nil ?_
          refine th_n ?_
          refine if_split henv rfl (fun hc90 => ?_) (fun hc90 => ?_)
          · have hx91 := of_decide_eq_true hc90
            refine wp_seq ?_
            refine region_seq ?_
            revert a
            refine mA rfl rfl ?_
            refine sA (v := .bool true) rfl (fun _ henv => rn_nilS (A := none) henv Tryd.underlying26 rfl) ?_
            refine mA rfl rfl ?_
            refine gA (v := .int .i64 2) rfl rfl rfl rfl (fun _ henv => rn_move henv rfl) ?_
            refine gA (v := .bool true) rfl rfl rfl rfl (fun _ henv => rn_bin henv rfl rfl rfl) ?_
            refine sA (v := .bool true) rfl (fun _ henv => rn_pick henv rfl rfl) ?_
            refine aA rfl rfl ?_
            intro a henv
            refine wpList_nil ?_
            refine th_n ?_
            refine wp_ret ?_
            refine bl_r (th_r ?_)
            refine leave henv (res1 Tryd.results3 (RV.tmp henv rfl)) ?_
            exact ⟨rfl, hst.below⟩
          · have hx92 := of_decide_eq_false hc90
            exfalso; omega
set_option maxRecDepth 100000 in
set_option maxHeartbeats 8000000 in
theorem parts_big {A0 : Option Addr} {n0 c0 : Nat} {es0 : List Int} {k m : Int} {w0 : World} (h0 : (pfRow fI FI 1 A0 n0 c0 es0).P w0) (hI : I64 es0) (hs : n0 ≤ 1048576) (b1 : 1 ≤ k) (b2 : k ≤ 8) (b3 : 1 ≤ m) (b4 : m ≤ 4096) (hw : 4096 < n0) :
    Calls Tryd.prog 3 #[.slice A0 n0 c0, .int .i64 k, .int .i64 m] w0 fun e w' => e = .returned (.bool true) ∧ Below w0.heap.size w0 w' := by
  refine enter Tryd.func3 rfl Tryd.ntmps3 rfl ?_
  intro a henv hst
  have hlen0 := h0.2.1
  have hbig0 := Nat.le_trans h0.1.cap h0.1.big
  unfold maxLen at hbig0
  replace hst := hst.argRow h0
  clear h0
  have hx0 := i64_zk hI
  refine wp_seq ?_
  refine region_seq ?_
  refine sv (v := .bool false) henv rfl (rn_assign henv rfl) ?_
  clear henv a; intro a henv
  refine wpList_nil ?_
  refine th_n ?_
  refine wp_seq ?_
  refine wp_seq ?_
  refine region_seq ?_
  refine seq_step rfl (op_call henv rfl Tryd.call10 rfl l_works ?_)
  rintro e w51 ⟨rfl, hb⟩
  refine ⟨_, rfl, ?_⟩
  clear henv a; intro a henv
  replace hst := hst.call hb
  clear hb
  refine sv (v := .bool false) henv rfl (rn_un henv rfl rfl) ?_
  clear henv a; intro a henv
  refine wpList_nil ?_
  refine th_n ?_
  refine if_f henv rfl (rfl) ?_
  refine wp_skip ?_
  refine th_n ?_
  refine wp_seq ?_
  refine wp_seq ?_
  refine region_seq ?_
  revert a
  refine mA rfl rfl ?_
  refine sA (v := .int .i64 (n0 : Nat)) rfl (fun _ henv => rn_len henv Tryd.underlying22 rfl) ?_
  refine sA (v := .bool (decide (((n0 : Nat) : Int) > (300 : Int)))) rfl (fun _ henv => rn_bin henv rfl rfl rfl) ?_
  intro a henv
  rw [show (decide (((n0 : Nat) : Int) > (300 : Int))) = true from (decide_eq_true (by omega))] at henv
  revert a
  refine mA rfl rfl ?_
  refine gA (v := .slice A0 n0 c0) rfl rfl rfl rfl (fun _ henv => rn_move henv rfl) ?_
  refine gA (v := .int .i64 (n0 : Nat)) rfl rfl rfl rfl (fun _ henv => rn_len henv Tryd.underlying22 rfl) ?_
  refine gA (v := .bool (decide (((n0 : Nat) : Int) ≤ (4096 : Int)))) rfl rfl rfl rfl (fun _ henv => rn_bin henv rfl rfl rfl) ?_
  intro a henv
  rw [show (decide (((n0 : Nat) : Int) ≤ (4096 : Int))) = false from (decide_eq_false (by omega))] at henv
  refine sv (v := .bool false) henv rfl (rn_pick henv rfl rfl) ?_
  clear henv a; intro a henv
  refine wpList_nil ?_
  refine th_n ?_
  refine if_f henv rfl (rfl) ?_
  refine wp_skip ?_
  refine th_n ?_
  refine wp_seq ?_
  refine region_seq ?_
  refine sv (v := .slice A0 n0 c0) henv rfl (rn_move henv rfl) ?_
  clear henv a; intro a henv
  refine seq_step rfl (op_call henv rfl Tryd.call11 rfl (l_list (hst.pat (k := 0) rfl) hI (by omega)) ?_)
  rintro e w57 ⟨_, rfl, ⟨A52, c53, es54, rfl, hr, hl55, hz56⟩, hb⟩
  refine ⟨_, rfl, ?_⟩
  clear henv a; intro a henv
  replace hst := hst.freshRd hb hr hl55 (ap_N hr.2.1 trivial)
  clear hr
  clear hb
  refine sv (v := .slice A52 n0 c53) henv rfl (rn_assign henv rfl) ?_
  clear henv a; intro a henv
  refine wpList_nil ?_
  refine th_n ?_
  refine wp_seq ?_
  refine region_seq ?_
  revert a
  refine mA rfl rfl ?_
  refine mA rfl rfl ?_
  refine mA rfl rfl ?_
  intro a henv
  refine seq_step rfl (op_call henv rfl Tryd.call12 rfl (sp_parts_big b1 b2 b3 b4 hw) ?_)
  rintro e w58 ⟨rfl, hb⟩
  refine ⟨_, rfl, ?_⟩
  clear henv a; intro a henv
  replace hst := hst.call hb
  clear hb
  revert a
  refine mA rfl rfl ?_
  refine sA (v := .slice none 0 0) rfl (fun _ henv => rn_extract henv rfl rfl) ?_
  refine sA (v := .int .i64 3) rfl (fun _ henv => rn_extract henv rfl rfl) ?_
  refine aA rfl rfl ?_
  refine aA rfl rfl ?_
  intro a henv
  refine wpList_nil ?_
  refine th_n ?_
  refine wp_seq ?_
  refine wp_block ?_
  refine wp_seq ?_
  refine region_seq ?_
  revert a
  refine mA rfl rfl ?_
  refine sA (v := .bool (decide (k < (1 : Int)))) rfl (fun _ henv => rn_bin henv rfl rfl rfl) ?_
  intro a henv
  rw [show (decide (k < (1 : Int))) = false from (decide_eq_false (by omega))] at henv
  revert a
  refine mA rfl rfl ?_
  refine gA (v := .int .i64 k) rfl rfl rfl rfl (fun _ henv => rn_move henv rfl) ?_
  refine gA (v := .bool (decide (k > (8 : Int)))) rfl rfl rfl rfl (fun _ henv => rn_bin henv rfl rfl rfl) ?_
  intro a henv
  rw [show (decide (k > (8 : Int))) = false from (decide_eq_false (by omega))] at henv
  revert a
  refine sA (v := .bool false) rfl (fun _ henv => rn_pick henv rfl rfl) ?_
  refine mA rfl rfl ?_
  refine gA (v := .int .i64 m) rfl rfl rfl rfl (fun _ henv => rn_move henv rfl) ?_
  refine gA (v := .bool (decide (m < (1 : Int)))) rfl rfl rfl rfl (fun _ henv => rn_bin henv rfl rfl rfl) ?_
  intro a henv
  rw [show (decide (m < (1 : Int))) = false from (decide_eq_false (by omega))] at henv
  revert a
  refine sA (v := .bool false) rfl (fun _ henv => rn_pick henv rfl rfl) ?_
  refine mA rfl rfl ?_
  refine gA (v := .int .i64 m) rfl rfl rfl rfl (fun _ henv => rn_move henv rfl) ?_
  refine gA (v := .bool (decide (m > (4096 : Int)))) rfl rfl rfl rfl (fun _ henv => rn_bin henv rfl rfl rfl) ?_
  intro a henv
  rw [show (decide (m > (4096 : Int))) = false from (decide_eq_false (by omega))] at henv
  revert a
  refine sA (v := .bool false) rfl (fun _ henv => rn_pick henv rfl rfl) ?_
  refine aA rfl rfl ?_
  intro a henv
  refine wpList_nil ?_
  refine th_n ?_
  refine if_f henv rfl (rfl) ?_
  refine wp_seq ?_
  refine region_seq ?_
  revert a
  refine mA rfl rfl ?_
  refine sA (v := .int .i64 (n0 : Nat)) rfl (fun _ henv => rn_len henv Tryd.underlying22 rfl) ?_
  refine sA (v := .bool (decide (((n0 : Nat) : Int) > (4096 : Int)))) rfl (fun _ henv => rn_bin henv rfl rfl rfl) ?_
  intro a henv
  rw [show (decide (((n0 : Nat) : Int) > (4096 : Int))) = true from (decide_eq_true (by omega))] at henv
  refine sv (v := .bool true) henv rfl (rn_assign henv rfl) ?_
  clear henv a; intro a henv
  refine wpList_nil ?_
  refine th_n ?_
  refine if_t henv rfl (rfl) ?_
  refine wp_seq ?_
  refine region_seq ?_
  revert a
  refine mA rfl rfl ?_
  refine sA (v := .bool true) rfl (fun _ henv => rn_nilS (A := none) henv Tryd.underlying26 rfl) ?_
  refine mA rfl rfl ?_
  refine gA (v := .int .i64 3) rfl rfl rfl rfl (fun _ henv => rn_move henv rfl) ?_
  refine gA (v := .bool true) rfl rfl rfl rfl (fun _ henv => rn_bin henv rfl rfl rfl) ?_
  refine sA (v := .bool true) rfl (fun _ henv => rn_pick henv rfl rfl) ?_
  refine aA rfl rfl ?_
  intro a henv
  refine wpList_nil ?_
  refine th_n ?_
  refine wp_ret ?_
  refine bl_r (th_r ?_)
  refine leave henv (res1 Tryd.results3 (RV.tmp henv rfl)) ?_
  exact ⟨rfl, hst.below⟩
set_option maxRecDepth 100000 in
set_option maxHeartbeats 8000000 in
theorem parts_short {A0 : Option Addr} {n0 c0 : Nat} {es0 : List Int} {k m : Nat} {w0 : World} (h0 : (pfRow fI FI 1 A0 n0 c0 es0).P w0) (hI : I64 es0) (hw0 : n0 ≤ 300) (g1 : 1 ≤ k) (g2 : k ≤ 8) (f1 : 1 ≤ m) (f2 : m ≤ 4096) (hw : k * m < n0) :
    Calls Tryd.prog 3 #[.slice A0 n0 c0, .int .i64 (k : Nat), .int .i64 (m : Nat)] w0 fun e w' => e = .returned (.bool true) ∧ Below w0.heap.size w0 w' := by
  have hkm := mul_le8 g2 f2
  refine enter Tryd.func3 rfl Tryd.ntmps3 rfl ?_
  intro a henv hst
  have hlen0 := h0.2.1
  have hbig0 := Nat.le_trans h0.1.cap h0.1.big
  unfold maxLen at hbig0
  replace hst := hst.argRow h0
  clear h0
  have hx0 := i64_zk hI
  refine wp_seq ?_
  refine region_seq ?_
  refine sv (v := .bool false) henv rfl (rn_assign henv rfl) ?_
  clear henv a; intro a henv
  refine wpList_nil ?_
  refine th_n ?_
  refine wp_seq ?_
  refine wp_seq ?_
  refine region_seq ?_
  refine seq_step rfl (op_call henv rfl Tryd.call10 rfl l_works ?_)
  rintro e w51 ⟨rfl, hb⟩
  refine ⟨_, rfl, ?_⟩
  clear henv a; intro a henv
  replace hst := hst.call hb
  clear hb
  refine sv (v := .bool false) henv rfl (rn_un henv rfl rfl) ?_
  clear henv a; intro a henv
  refine wpList_nil ?_
  refine th_n ?_
  refine if_f henv rfl (rfl) ?_
  refine wp_skip ?_
  refine th_n ?_
  refine wp_seq ?_
  refine wp_seq ?_
  refine region_seq ?_
  revert a
  refine mA rfl rfl ?_
  refine sA (v := .int .i64 (n0 : Nat)) rfl (fun _ henv => rn_len henv Tryd.underlying22 rfl) ?_
  refine sA (v := .bool (decide (((n0 : Nat) : Int) > (300 : Int)))) rfl (fun _ henv => rn_bin henv rfl rfl rfl) ?_
  intro a henv
  rw [show (decide (((n0 : Nat) : Int) > (300 : Int))) = false from (decide_eq_false (by omega))] at henv
  revert a
  refine mA rfl rfl ?_
  refine kA rfl rfl rfl rfl rfl ?_
  refine kA rfl rfl rfl rfl rfl ?_
  refine kA rfl rfl rfl rfl rfl ?_
  refine sA (v := .bool false) rfl (fun _ henv => rn_pick henv rfl rfl) ?_
  intro a henv
  refine wpList_nil ?_
  refine th_n ?_
  refine if_f henv rfl (rfl) ?_
  refine wp_skip ?_
  refine th_n ?_
  refine wp_seq ?_
  refine region_seq ?_
  refine sv (v := .slice A0 n0 c0) henv rfl (rn_move henv rfl) ?_
  clear henv a; intro a henv
  refine seq_step rfl (op_call henv rfl Tryd.call11 rfl (l_list (hst.pat (k := 0) rfl) hI (by omega)) ?_)
  rintro e w57 ⟨_, rfl, ⟨A52, c53, es54, rfl, hr, hl55, hz56⟩, hb⟩
  refine ⟨_, rfl, ?_⟩
  clear henv a; intro a henv
  replace hst := hst.freshRd hb hr hl55 (ap_N hr.2.1 trivial)
  clear hr
  clear hb
  refine sv (v := .slice A52 n0 c53) henv rfl (rn_assign henv rfl) ?_
  clear henv a; intro a henv
  refine wpList_nil ?_
  refine th_n ?_
  refine wp_seq ?_
  refine region_seq ?_
  revert a
  refine mA rfl rfl ?_
  refine mA rfl rfl ?_
  refine mA rfl rfl ?_
  intro a henv
  refine seq_step rfl (op_call henv rfl Tryd.call12 rfl (sp_parts_short (k := k) (m := m) (hst.pat (k := 0) rfl) (by omega) (by omega) (by omega) (by omega) (by omega) hw) ?_)
  rintro e w58 ⟨rfl, hb⟩
  refine ⟨_, rfl, ?_⟩
  clear henv a; intro a henv
  replace hst := hst.call hb
  clear hb
  revert a
  refine mA rfl rfl ?_
  refine sA (v := .slice none 0 0) rfl (fun _ henv => rn_extract henv rfl rfl) ?_
  refine sA (v := .int .i64 5) rfl (fun _ henv => rn_extract henv rfl rfl) ?_
  refine aA rfl rfl ?_
  refine aA rfl rfl ?_
  intro a henv
  refine wpList_nil ?_
  refine th_n ?_
  refine wp_seq ?_
  refine wp_block ?_
  refine wp_seq ?_
  refine region_seq ?_
  revert a
  refine mA rfl rfl ?_
  refine sA (v := .bool (decide (((k : Nat) : Int) < (1 : Int)))) rfl (fun _ henv => rn_bin henv rfl rfl rfl) ?_
  intro a henv
  rw [show (decide (((k : Nat) : Int) < (1 : Int))) = false from (decide_eq_false (by omega))] at henv
  revert a
  refine mA rfl rfl ?_
  refine gA (v := .int .i64 (k : Nat)) rfl rfl rfl rfl (fun _ henv => rn_move henv rfl) ?_
  refine gA (v := .bool (decide (((k : Nat) : Int) > (8 : Int)))) rfl rfl rfl rfl (fun _ henv => rn_bin henv rfl rfl rfl) ?_
  intro a henv
  rw [show (decide (((k : Nat) : Int) > (8 : Int))) = false from (decide_eq_false (by omega))] at henv
  revert a
  refine sA (v := .bool false) rfl (fun _ henv => rn_pick henv rfl rfl) ?_
  refine mA rfl rfl ?_
  refine gA (v := .int .i64 (m : Nat)) rfl rfl rfl rfl (fun _ henv => rn_move henv rfl) ?_
  refine gA (v := .bool (decide (((m : Nat) : Int) < (1 : Int)))) rfl rfl rfl rfl (fun _ henv => rn_bin henv rfl rfl rfl) ?_
  intro a henv
  rw [show (decide (((m : Nat) : Int) < (1 : Int))) = false from (decide_eq_false (by omega))] at henv
  revert a
  refine sA (v := .bool false) rfl (fun _ henv => rn_pick henv rfl rfl) ?_
  refine mA rfl rfl ?_
  refine gA (v := .int .i64 (m : Nat)) rfl rfl rfl rfl (fun _ henv => rn_move henv rfl) ?_
  refine gA (v := .bool (decide (((m : Nat) : Int) > (4096 : Int)))) rfl rfl rfl rfl (fun _ henv => rn_bin henv rfl rfl rfl) ?_
  intro a henv
  rw [show (decide (((m : Nat) : Int) > (4096 : Int))) = false from (decide_eq_false (by omega))] at henv
  revert a
  refine sA (v := .bool false) rfl (fun _ henv => rn_pick henv rfl rfl) ?_
  refine aA rfl rfl ?_
  intro a henv
  refine wpList_nil ?_
  refine th_n ?_
  refine if_f henv rfl (rfl) ?_
  refine wp_seq ?_
  refine region_seq ?_
  revert a
  refine mA rfl rfl ?_
  refine sA (v := .int .i64 (n0 : Nat)) rfl (fun _ henv => rn_len henv Tryd.underlying22 rfl) ?_
  refine sA (v := .bool (decide (((n0 : Nat) : Int) > (4096 : Int)))) rfl (fun _ henv => rn_bin henv rfl rfl rfl) ?_
  intro a henv
  rw [show (decide (((n0 : Nat) : Int) > (4096 : Int))) = false from (decide_eq_false (by omega))] at henv
  refine sv (v := .bool false) henv rfl (rn_assign henv rfl) ?_
  clear henv a; intro a henv
  refine wpList_nil ?_
  refine th_n ?_
  refine if_f henv rfl (rfl) ?_
  refine wp_seq ?_
  refine region_seq ?_
  revert a
  refine mA rfl rfl ?_
  refine mA rfl rfl ?_
  refine sA (v := .int .i64 (k * m : Nat)) rfl (fun _ henv => rn_mul henv rfl rfl (by rw [IntWalk.i64_in _ (by omega)]; omega)) ?_
  refine mA rfl rfl ?_
  refine sA (v := .int .i64 (n0 : Nat)) rfl (fun _ henv => rn_len henv Tryd.underlying22 rfl) ?_
  refine sA (v := .bool (decide (((k * m : Nat) : Int) < ((n0 : Nat) : Int)))) rfl (fun _ henv => rn_bin henv rfl rfl rfl) ?_
  intro a henv
  rw [show (decide (((k * m : Nat) : Int) < ((n0 : Nat) : Int))) = true from (decide_eq_true (by omega))] at henv
  refine sv (v := .bool true) henv rfl (rn_assign henv rfl) ?_
  clear henv a; intro a henv
  refine wpList_nil ?_
  refine th_n ?_
  refine if_t henv rfl (rfl) ?_
  refine wp_seq ?_
  refine region_seq ?_
  revert a
  refine mA rfl rfl ?_
  refine sA (v := .bool true) rfl (fun _ henv => rn_nilS (A := none) henv Tryd.underlying26 rfl) ?_
  refine mA rfl rfl ?_
  refine gA (v := .int .i64 5) rfl rfl rfl rfl (fun _ henv => rn_move henv rfl) ?_
  refine gA (v := .bool true) rfl rfl rfl rfl (fun _ henv => rn_bin henv rfl rfl rfl) ?_
  refine sA (v := .bool true) rfl (fun _ henv => rn_pick henv rfl rfl) ?_
  refine aA rfl rfl ?_
  intro a henv
  refine wpList_nil ?_
  refine th_n ?_
  refine wp_ret ?_
  refine bl_r (th_r ?_)
  refine leave henv (res1 Tryd.results3 (RV.tmp henv rfl)) ?_
  exact ⟨rfl, hst.below⟩
set_option maxRecDepth 100000 in
set_option maxHeartbeats 8000000 in
theorem parts_ok {A0 : Option Addr} {n0 c0 : Nat} {es0 : List Int} {k m : Nat} {w0 : World} (h0 : (pfRow fI FI 1 A0 n0 c0 es0).P w0) (hI : I64 es0) (hw0 : n0 ≤ 300) (g1 : 1 ≤ k) (g2 : k ≤ 8) (f1 : 1 ≤ m) (f2 : m ≤ 4096) (hw : n0 ≤ k * m) :
    Calls Tryd.prog 3 #[.slice A0 n0 c0, .int .i64 (k : Nat), .int .i64 (m : Nat)] w0 fun e w' => e = .returned (.bool true) ∧ Below w0.heap.size w0 w' := by
  have hkm := mul_le8 g2 f2
  refine enter Tryd.func3 rfl Tryd.ntmps3 rfl ?_
  intro a henv hst
  have hlen0 := h0.2.1
  have hbig0 := Nat.le_trans h0.1.cap h0.1.big
  unfold maxLen at hbig0
  replace hst := hst.argRow h0
  clear h0
  have hx0 := i64_zk hI
  refine wp_seq ?_
  refine region_seq ?_
  refine sv (v := .bool false) henv rfl (rn_assign henv rfl) ?_
  clear henv a; intro a henv
  refine wpList_nil ?_
  refine th_n ?_
  refine wp_seq ?_
  refine wp_seq ?_
  refine region_seq ?_
  refine seq_step rfl (op_call henv rfl Tryd.call10 rfl l_works ?_)
  rintro e w51 ⟨rfl, hb⟩
  refine ⟨_, rfl, ?_⟩
  clear henv a; intro a henv
  replace hst := hst.call hb
  clear hb
  refine sv (v := .bool false) henv rfl (rn_un henv rfl rfl) ?_
  clear henv a; intro a henv
  refine wpList_nil ?_
  refine th_n ?_
  refine if_f henv rfl (rfl) ?_
  refine wp_skip ?_
  refine th_n ?_
  refine wp_seq ?_
  refine wp_seq ?_
  refine region_seq ?_
  revert a
  refine mA rfl rfl ?_
  refine sA (v := .int .i64 (n0 : Nat)) rfl (fun _ henv => rn_len henv Tryd.underlying22 rfl) ?_
  refine sA (v := .bool (decide (((n0 : Nat) : Int) > (300 : Int)))) rfl (fun _ henv => rn_bin henv rfl rfl rfl) ?_
  intro a henv
  rw [show (decide (((n0 : Nat) : Int) > (300 : Int))) = false from (decide_eq_false (by omega))] at henv
  revert a
  refine mA rfl rfl ?_
  refine kA rfl rfl rfl rfl rfl ?_
  refine kA rfl rfl rfl rfl rfl ?_
  refine kA rfl rfl rfl rfl rfl ?_
  refine sA (v := .bool false) rfl (fun _ henv => rn_pick henv rfl rfl) ?_
  intro a henv
  refine wpList_nil ?_
  refine th_n ?_
  refine if_f henv rfl (rfl) ?_
  refine wp_skip ?_
  refine th_n ?_
  refine wp_seq ?_
  refine region_seq ?_
  refine sv (v := .slice A0 n0 c0) henv rfl (rn_move henv rfl) ?_
  clear henv a; intro a henv
  refine seq_step rfl (op_call henv rfl Tryd.call11 rfl (l_list (hst.pat (k := 0) rfl) hI (by omega)) ?_)
  rintro e w57 ⟨_, rfl, ⟨A52, c53, es54, rfl, hr, hl55, hz56⟩, hb⟩
  refine ⟨_, rfl, ?_⟩
  clear henv a; intro a henv
  replace hst := hst.freshRd hb hr hl55 (ap_N hr.2.1 trivial)
  clear hr
  clear hb
  refine sv (v := .slice A52 n0 c53) henv rfl (rn_assign henv rfl) ?_
  clear henv a; intro a henv
  refine wpList_nil ?_
  refine th_n ?_
  refine wp_seq ?_
  refine region_seq ?_
  revert a
  refine mA rfl rfl ?_
  refine mA rfl rfl ?_
  refine mA rfl rfl ?_
  intro a henv
  refine seq_step rfl (op_call henv rfl Tryd.call12 rfl (sp_parts2 (xs := es0) (k := k) (m := m) (hst.pat (k := 0) rfl) hz56 (by omega) (by omega) (by omega) (by omega) (by omega) (by omega) (by omega)) ?_)
  rintro e w58 ⟨Av, cv, vs, rfl, hr, hzv, hb⟩
  refine ⟨_, rfl, ?_⟩
  clear henv a; intro a henv
  replace hst := hst.addPRow hb hr
  clear hr
  have hvl : vs.length = k := map_len hzv (by rw [List.length_map, List.length_range])
  clear hb
  revert a
  refine mA rfl rfl ?_
  refine sA (v := .slice Av k cv) rfl (fun _ henv => rn_extract henv rfl rfl) ?_
  refine sA (v := .int .i64 0) rfl (fun _ henv => rn_extract henv rfl rfl) ?_
  refine aA rfl rfl ?_
  refine aA rfl rfl ?_
  intro a henv
  refine wpList_nil ?_
  refine th_n ?_
  refine wp_seq ?_
  refine wp_block ?_
  refine wp_seq ?_
  refine region_seq ?_
  revert a
  refine mA rfl rfl ?_
  refine sA (v := .bool (decide (((k : Nat) : Int) < (1 : Int)))) rfl (fun _ henv => rn_bin henv rfl rfl rfl) ?_
  intro a henv
  rw [show (decide (((k : Nat) : Int) < (1 : Int))) = false from (decide_eq_false (by omega))] at henv
  revert a
  refine mA rfl rfl ?_
  refine gA (v := .int .i64 (k : Nat)) rfl rfl rfl rfl (fun _ henv => rn_move henv rfl) ?_
  refine gA (v := .bool (decide (((k : Nat) : Int) > (8 : Int)))) rfl rfl rfl rfl (fun _ henv => rn_bin henv rfl rfl rfl) ?_
  intro a henv
  rw [show (decide (((k : Nat) : Int) > (8 : Int))) = false from (decide_eq_false (by omega))] at henv
  revert a
  refine sA (v := .bool false) rfl (fun _ henv => rn_pick henv rfl rfl) ?_
  refine mA rfl rfl ?_
  refine gA (v := .int .i64 (m : Nat)) rfl rfl rfl rfl (fun _ henv => rn_move henv rfl) ?_
  refine gA (v := .bool (decide (((m : Nat) : Int) < (1 : Int)))) rfl rfl rfl rfl (fun _ henv => rn_bin henv rfl rfl rfl) ?_
  intro a henv
  rw [show (decide (((m : Nat) : Int) < (1 : Int))) = false from (decide_eq_false (by omega))] at henv
  revert a
  refine sA (v := .bool false) rfl (fun _ henv => rn_pick henv rfl rfl) ?_
  refine mA rfl rfl ?_
  refine gA (v := .int .i64 (m : Nat)) rfl rfl rfl rfl (fun _ henv => rn_move henv rfl) ?_
  refine gA (v := .bool (decide (((m : Nat) : Int) > (4096 : Int)))) rfl rfl rfl rfl (fun _ henv => rn_bin henv rfl rfl rfl) ?_
  intro a henv
  rw [show (decide (((m : Nat) : Int) > (4096 : Int))) = false from (decide_eq_false (by omega))] at henv
  revert a
  refine sA (v := .bool false) rfl (fun _ henv => rn_pick henv rfl rfl) ?_
  refine aA rfl rfl ?_
  intro a henv
  refine wpList_nil ?_
  refine th_n ?_
  refine if_f henv rfl (rfl) ?_
  refine wp_seq ?_
  refine region_seq ?_
  revert a
  refine mA rfl rfl ?_
  refine sA (v := .int .i64 (n0 : Nat)) rfl (fun _ henv => rn_len henv Tryd.underlying22 rfl) ?_
  refine sA (v := .bool (decide (((n0 : Nat) : Int) > (4096 : Int)))) rfl (fun _ henv => rn_bin henv rfl rfl rfl) ?_
  intro a henv
  rw [show (decide (((n0 : Nat) : Int) > (4096 : Int))) = false from (decide_eq_false (by omega))] at henv
  refine sv (v := .bool false) henv rfl (rn_assign henv rfl) ?_
  clear henv a; intro a henv
  refine wpList_nil ?_
  refine th_n ?_
  refine if_f henv rfl (rfl) ?_
  refine wp_seq ?_
  refine region_seq ?_
  revert a
  refine mA rfl rfl ?_
  refine mA rfl rfl ?_
  refine sA (v := .int .i64 (k * m : Nat)) rfl (fun _ henv => rn_mul henv rfl rfl (by rw [IntWalk.i64_in _ (by omega)]; omega)) ?_
  refine mA rfl rfl ?_
  refine sA (v := .int .i64 (n0 : Nat)) rfl (fun _ henv => rn_len henv Tryd.underlying22 rfl) ?_
  refine sA (v := .bool (decide (((k * m : Nat) : Int) < ((n0 : Nat) : Int)))) rfl (fun _ henv => rn_bin henv rfl rfl rfl) ?_
  intro a henv
  rw [show (decide (((k * m : Nat) : Int) < ((n0 : Nat) : Int))) = false from (decide_eq_false (by omega))] at henv
  refine sv (v := .bool false) henv rfl (rn_assign henv rfl) ?_
  clear henv a; intro a henv
  refine wpList_nil ?_
  refine th_n ?_
  refine if_f henv rfl (rfl) ?_
  refine wp_skip ?_
  refine bl_n (th_n ?_)
  refine wp_seq ?_
  refine wp_seq ?_
  refine region_seq ?_
  revert a
  refine mA rfl rfl ?_
  refine sA (v := .bool false) rfl (fun _ henv => rn_bin henv rfl rfl rfl) ?_
  refine mA rfl rfl ?_
  refine gA (v := .slice Av k cv) rfl rfl rfl rfl (fun _ henv => rn_move henv rfl) ?_
  refine gA (v := .slice A0 n0 c0) rfl rfl rfl rfl (fun _ henv => rn_move henv rfl) ?_
  intro a henv
  refine seq_g rfl henv rfl rfl (op_call henv rfl Tryd.call15 rfl (l_ref (hst.pat (k := 2) rfl) hI (by omega)) ?_)
  rintro e w64 ⟨_, rfl, ⟨A59, c60, es61, rfl, hr, hl62, hz63⟩, hb⟩
  refine ⟨_, rfl, ?_⟩
  clear henv a; intro a henv
  replace hst := hst.freshRd hb hr hl62 (ap_M hr.2.1 ⟨nou_rowS, nou_parts, trivial⟩)
  clear hr
  clear hb
  revert a
  refine gA (v := .int .i64 (k : Nat)) rfl rfl rfl rfl (fun _ henv => rn_move henv rfl) ?_
  refine gA (v := .int .i64 (m : Nat)) rfl rfl rfl rfl (fun _ henv => rn_move henv rfl) ?_
  intro a henv
  refine seq_g rfl henv rfl rfl (op_call henv rfl Tryd.call14 rfl (ref_parts (xs := es0) (k := k) (m := m) (hst.pat (k := 0) rfl) hz63 (by omega) (by omega) (by omega)) ?_)
  rintro e w65 ⟨_, rfl, ⟨Au, cu, us, rfl, hq, hzu⟩, hb⟩
  refine ⟨_, rfl, ?_⟩
  clear henv a; intro a henv
  replace hst := hst.call hb
  clear hb
  refine seq_g rfl henv rfl rfl (op_call henv rfl Tryd.call13 rfl (eq_rows (es0 := vs) (es1 := us) (parts_row (hst.owns (k := 0) rfl) (hst.owns (k := 1) rfl) (hst.pat (k := 1) rfl) hvl) hq (rows_zkv hzv (pts_zc hx0) (by omega)) (rows_zkv hzu (pts_zc hx0) (by omega))) ?_)
  rintro e w66 ⟨rfl, hb⟩
  refine ⟨_, rfl, ?_⟩
  clear henv a; intro a henv
  replace hst := hst.call hb
  clear hb
  rw [show (decide (vs.map lz = us.map lz)) = true from (decide_eq_true (hzv.trans hzu.symm))] at henv
  revert a
  refine gA (v := .bool false) rfl rfl rfl rfl (fun _ henv => rn_un henv rfl rfl) ?_
  refine sA (v := .bool false) rfl (fun _ henv => rn_pick henv rfl rfl) ?_
  intro a henv
  refine wpList_nil ?_
  refine th_n ?_
  refine if_f henv rfl (rfl) ?_
  refine wp_skip ?_
  refine th_n ?_
  refine wp_seq ?_
  refine wp_seq ?_
  refine region_seq ?_
  revert a
  refine mA rfl rfl ?_
  refine sA (v := .int .i64 (k : Nat)) rfl (fun _ henv => rn_len henv Tryd.underlying26 rfl) ?_
  refine mA rfl rfl ?_
  intro a henv
  refine wpList_nil ?_
  refine th_n ?_
  refine wp_block ?_
  refine wp_loop_ghost (fun mz a w => ∃ j : Nat, k - j = mz ∧ Env 113 a [(0, .slice A0 n0 c0), (7, .slice A52 n0 c53), (88, .slice Av k cv), (89, .int .i64 (k : Nat)), (90, .int .i64 (j : Nat))] ∧ St w0 w [rowS notU 24 1 Av k cv (fl fH vs), partsF 39 m (vs.drop j)] [pfRow fN FN 2 A52 n0 c53 es54, pfRow fI FI 1 A0 n0 c0 es0, pfEs FH vs] ∧ j ≤ k) _ ⟨0, rfl, henv.sub ⟨rfl, rfl, rfl, rfl, rfl, trivial⟩, hst.pick [0, 1] [2, 3, 1] (by decide), (Nat.zero_le _)⟩ ?_
  clear henv hst a
  rintro mz a w67 ⟨j, rfl, henv, hst, hj⟩
  refine wp_seq ?_
  refine region_seq ?_
  refine sv (v := .bool (decide (((j : Nat) : Int) < ((k : Nat) : Int)))) henv rfl (rn_bin henv rfl rfl rfl) ?_
  clear henv a; intro a henv
  refine wpList_nil ?_
  refine th_n ?_
  refine wp_seq ?_
  refine if_split henv rfl (fun hc68 => ?_) (fun hc68 => ?_)
  · have hlt : j < k := by have := of_decide_eq_true hc68; omega
    obtain ⟨⟨Ap, np, cp, ep⟩, hep⟩ : ∃ e, vs[j]? = some e := ⟨_, List.getElem?_eq_getElem (by omega)⟩
    rw [drop_at hep] at hst
    obtain ⟨rfl, rfl⟩ := parts_lens (j := 0) (hst.owns (k := 1) rfl) rfl
    replace hst := (hst.pick [1, 0] [0, 1, 2] (by decide)).unmerge
    replace hst : St w0 _ [rowS notU 39 2 Ap m m (fl fN ep), partsF 39 m (vs.drop (j + 1)), rowS notU 24 1 Av k cv (fl fH vs)] [pfRow fN FN 2 A52 n0 c53 es54, pfRow fI FI 1 A0 n0 c0 es0, pfEs FH vs] := hst
    obtain ⟨qs, hql, hst⟩ := hst.rowAll (k := 0) rfl
    replace hst : St w0 _ [rowS notU 39 2 Ap m m (fl fP qs), partsF 39 m (vs.drop (j + 1)), rowS notU 24 1 Av k cv (fl fH vs)] [pfRow fN FN 2 A52 n0 c53 es54, pfRow fI FI 1 A0 n0 c0 es0, pfEs FH vs] := hst
    refine wp_skip ?_
    refine th_n ?_
    refine wp_seq ?_
    refine wp_block ?_
    refine wp_seq ?_
    refine region_seq ?_
    revert a
    refine sA (v := .pointer (some ⟨ab Av, ao Av + j * 1, none⟩)) rfl (fun _ henv => rn_idxR (i := j) henv Tryd.underlying26 (ty__integer_Int.size) rfl rfl (by omega) rfl (rowS_rd (hst.owns (k := 2) rfl))) ?_
    refine sA (v := .slice Ap m m) rfl (fun _ henv => rn_loadE1 (i := j) (j := 0) (e := (Ap, m, m, ep)) henv ty__integer_Int rfl rfl fH_len (by decide) (rowS_rd (hst.owns (k := 2) rfl)) (by omega) hep rfl) ?_
    refine aA rfl rfl ?_
    intro a henv
    refine wpList_nil ?_
    refine th_n ?_
    refine wp_seq ?_
    refine wp_seq ?_
    refine region_seq ?_
    revert a
    refine mA rfl rfl ?_
    refine sA (v := .int .i64 (m : Nat)) rfl (fun _ henv => rn_len henv Tryd.underlying24 rfl) ?_
    refine mA rfl rfl ?_
    intro a henv
    refine wpList_nil ?_
    refine th_n ?_
    refine wp_block ?_
    refine wp_loop_ghost (fun mz a w => ∃ i : Nat, ∃ ps : List PE, m - i = mz ∧ Env 113 a [(0, .slice A0 n0 c0), (7, .slice A52 n0 c53), (88, .slice Av k cv), (89, .int .i64 (k : Nat)), (90, .int .i64 (j : Nat)), (11, .slice Ap m m), (95, .int .i64 (m : Nat)), (96, .int .i64 (i : Nat))] ∧ St w0 w [rowS notU 39 2 Ap m m (fl fP ps), partsF 39 m (vs.drop (j + 1)), rowS notU 24 1 Av k cv (fl fH vs)] [pfRow fN FN 2 A52 n0 c53 es54, pfRow fI FI 1 A0 n0 c0 es0, pfEs FH vs] ∧ i ≤ m ∧ ps.length = m) _ ⟨0, qs, rfl, henv.sub ⟨rfl, rfl, rfl, rfl, rfl, rfl, rfl, rfl, trivial⟩, hst.pick [0, 1, 2] [0, 1, 2] (by decide), (Nat.zero_le _), hql⟩ ?_
    clear henv hst a
    rintro mz a w69 ⟨i, ps, rfl, henv, hst, hi, hpl⟩
    refine wp_seq ?_
    refine region_seq ?_
    refine sv (v := .bool (decide (((i : Nat) : Int) < ((m : Nat) : Int)))) henv rfl (rn_bin henv rfl rfl rfl) ?_
    clear henv a; intro a henv
    refine wpList_nil ?_
    refine th_n ?_
    refine wp_seq ?_
    refine if_split henv rfl (fun hc70 => ?_) (fun hc70 => ?_)
    · have hli := of_decide_eq_true hc70
      refine wp_skip ?_
      refine th_n ?_
      refine wp_seq ?_
      refine wp_block ?_
      refine wp_seq ?_
      refine region_seq ?_
      revert a
      refine mA rfl rfl ?_
      refine aA rfl rfl ?_
      intro a henv
      refine wpList_nil ?_
      refine th_n ?_
      refine region_seq ?_
      revert a
      refine mA rfl rfl ?_
      refine mA rfl rfl ?_
      intro a henv
      refine seq_step rfl (op_call henv rfl Tryd.call17 rfl (of_z (n := (77 : Int)) (by omega) (by omega)) ?_)
      rintro e w74 ⟨_, rfl, ⟨A71, c72, rfl, hz73⟩, hb⟩
      refine ⟨_, rfl, ?_⟩
      clear henv a; intro a henv
      replace hst := (hst.call hb).addZ hz73 ⟨nou_rowS, nou_parts, nou_rowS, trivial⟩
      clear hz73
      clear hb
      refine sv (v := .pointer (some ⟨ab Ap, ao Ap + i * 2, none⟩)) henv rfl (rn_idxR (i := i) henv Tryd.underlying24 (ty_anvil_integer_Int.size) rfl rfl (by omega) rfl (rowS_rd (hst.owns (k := 0) rfl))) ?_
      clear henv a; intro a henv
      refine seq_step rfl (op_storeS (i := i) (e := (.bool (neg 77), .slice A71 (zl 77) c72)) (k := 0) henv hst (ty_anvil_integer_Int.size) rfl rfl rfl rfl fP_len (by omega) hpl rfl rfl rfl ?_)
      clear henv hst a; intro a w75 henv hst
      refine wpList_nil ?_
      refine bl_n (th_n ?_)
      refine region_seq ?_
      revert a
      refine sA (v := .int .i64 (i + 1 : Nat)) rfl (fun _ henv => rn_add henv rfl rfl (by rw [IntWalk.i64_in _ (by omega)]; omega)) ?_
      refine mA rfl rfl ?_
      intro a henv
      refine wpList_nil ?_
      exact th_n ⟨_, (by omega), ⟨i + 1, (ps.set i (.bool (neg 77), .slice A71 (zl 77) c72)), rfl, henv.sub ⟨rfl, rfl, rfl, rfl, rfl, rfl, rfl, rfl, trivial⟩, hst.pick [0, 1, 2] [1, 2, 3] (by decide), (by omega), (by rw [List.length_set]; exact hpl)⟩⟩
    · have hli := of_decide_eq_false hc70
      refine wp_exit ?_
      refine th_x (th_x (bl_x (th_n ?_)))
      refine region_seq ?_
      refine sv (v := .slice Ap m m) henv rfl (rn_move henv rfl) ?_
      clear henv a; intro a henv
      refine seq_step rfl (op_call henv rfl Tryd.call17 rfl (of_z (n := (78 : Int)) (by omega) (by omega)) ?_)
      rintro e w79 ⟨_, rfl, ⟨A76, c77, rfl, hz78⟩, hb⟩
      refine ⟨_, rfl, ?_⟩
      clear henv a; intro a henv
      replace hst := (hst.call hb).addZ hz78 ⟨nou_rowS, nou_parts, nou_rowS, trivial⟩
      clear hz78
      clear hb
      refine seq_step rfl (op_buildSlice (z := 2) (pv := #[(0, .agg #[.bool (neg 78), .slice A76 (zl 78) c77])]) (c := #[.bool (neg 78), .slice A76 (zl 78) c77]) henv hst rfl Tryd.underlying24 (ty_anvil_integer_Int.size) zero_anvil_integer_Int (by decide) (by decide) rfl (by kernel_rfl) ?_)
      clear henv hst a; intro a w81 g80 henv hst
      refine seq_step rfl (op_appendS (k := 1) (j := 0) henv hst rfl Tryd.underlying24 inf_anvil_integer_Int rfl rfl rfl rfl rfl rfl rfl rfl rfl rfl rfl (by unfold maxLen; omega) (by omega) ?_)
      clear henv hst a; intro a w84 g82 c83 henv hst
      rw [show fl fP ps ++ (#[.bool (neg 78), .slice A76 (zl 78) c77] : Array Value).toList = fl fP (ps ++ [(.bool (neg 78), .slice A76 (zl 78) c77)]) from fl_snoc (f := fP) ps (.bool (neg 78), .slice A76 (zl 78) c77)] at hst
      refine wpList_nil ?_
      refine bl_n (th_n ?_)
      refine region_seq ?_
      revert a
      refine sA (v := .int .i64 (j + 1 : Nat)) rfl (fun _ henv => rn_add henv rfl rfl (by rw [IntWalk.i64_in _ (by omega)]; omega)) ?_
      refine mA rfl rfl ?_
      intro a henv
      refine wpList_nil ?_
      exact th_n ⟨_, (by omega), ⟨j + 1, rfl, henv.sub ⟨rfl, rfl, rfl, rfl, rfl, trivial⟩, hst.pick [3, 2] [1, 2, 3] (by decide), (by omega)⟩⟩
  · refine wp_exit ?_
    refine th_x (th_x (bl_x (th_n ?_)))
    refine wp_seq ?_
    refine region_seq ?_
    revert a
    refine mA rfl rfl ?_
    refine mA rfl rfl ?_
    intro a henv
    refine seq_step rfl (op_call henv rfl Tryd.call15 rfl (l_ref (hst.pat (k := 1) rfl) hI (by omega)) ?_)
    rintro e w90 ⟨_, rfl, ⟨A85, c86, es87, rfl, hr, hl88, hz89⟩, hb⟩
    refine ⟨_, rfl, ?_⟩
    clear henv a; intro a henv
    replace hst := hst.freshRd hb hr hl88 (ap_M hr.2.1 ⟨nou_rowS, nou_parts, trivial⟩)
    clear hr
    clear hb
    refine seq_step rfl (op_call henv rfl Tryd.call16 rfl (l_is (xs := es0) (ys := es0) (hst.pat (k := 1) rfl) hz56 (hst.pat (k := 0) rfl) hz89 (hx0.mono (by omega)) (hx0.mono (by omega))) ?_)
    rintro e w91 ⟨rfl, hb⟩
    refine ⟨_, rfl, ?_⟩
    clear henv a; intro a henv
    replace hst := hst.call hb
    clear hb
    rw [show (decide (es0 = es0)) = true from (decide_eq_true rfl)] at henv
    refine sv (v := .bool true) henv rfl (rn_assign henv rfl) ?_
    clear henv a; intro a henv
    refine wpList_nil ?_
    refine th_n ?_
    refine wp_ret ?_
    refine leave henv (res1 Tryd.results3 (RV.tmp henv rfl)) ?_
    exact ⟨rfl, hst.below⟩
theorem parts_law {A0 : Option Addr} {n0 c0 : Nat} {es0 : List Int} {k m : Int} {w0 : World} (h0 : (pfRow fI FI 1 A0 n0 c0 es0).P w0) (hI : I64 es0) (hs : n0 ≤ 1048576) :
    Calls Tryd.prog 3 #[.slice A0 n0 c0, .int .i64 k, .int .i64 m] w0 fun e w' => e = .returned (.bool true) ∧ Below w0.heap.size w0 w' := by
  by_cases a : 300 < n0 ∧ n0 ≤ 4096
  · exact parts_mid h0 hI a
  by_cases b : k < 1 ∨ 8 < k ∨ m < 1 ∨ 4096 < m
  · exact parts_arg h0 hI hs a b
  by_cases c : 4096 < n0
  · exact parts_big h0 hI hs (by omega) (by omega) (by omega) (by omega) c
  obtain ⟨k, rfl⟩ := Int.eq_ofNat_of_zero_le (show 0 ≤ k by omega)
  obtain ⟨m, rfl⟩ := Int.eq_ofNat_of_zero_le (show 0 ≤ m by omega)
  rcases Nat.lt_or_ge (k * m) n0 with d | d
  · exact parts_short h0 hI (by omega) (by omega) (by omega) (by omega) (by omega) d
  · exact parts_ok h0 hI (by omega) (by omega) (by omega) (by omega) (by omega) d
end Go.Proofs.YtoojllfijfjmoaaDoor.W
