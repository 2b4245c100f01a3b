/- RatioBack: the law's walk. Printed by pv/gen_qback.py. No condition. -/
import Derived.Test.YtegglooojlheoaaDoorM50
import Derived.Test.YtegglooojlheoaaDoorM15

namespace Go.Proofs.YtegglooojlheoaaDoor.W
open Go.RowKit Anv Go.Lib
theorem textQ_inj {x y : Rat} (h : textQ x = textQ y) : x = y := by
  rcases cut_cases (textQ y) 47 with hs | ⟨a, b, e, ha⟩
  · obtain ⟨h1, h2⟩ := textQ_whole h hs
    obtain ⟨h3, h4⟩ := textQ_whole rfl hs
    rw [h2, h4, rz_eq h1 h3]
  · obtain ⟨h1, h2⟩ := textQ_parts (h.trans e) ha
    obtain ⟨h3, h4⟩ := textQ_parts e ha
    exact q_ext (textZ_inj (h1.symm.trans h3)) (textZ_inj (h2.symm.trans h4))
theorem q_read_ok {s : List UInt8} {r : Rat} {w0 : World} (hr : textQ r = s) (hl : s.length ≤ 50000) :
    Calls Tryd.prog 91 #[.string ⟨s.toArray⟩] w0 fun e w' => ∃ v, e = .returned (.tuple #[v, .agg #[.int .i64 0, .int .i64 0]]) ∧ QAt w' v r ∧ Below w0.heap.size w0 w' := by
  refine (q_read hl).mono fun e w' ⟨hp, hb⟩ => ?_
  rcases hp with ⟨x, v, h1, h2, h3⟩ | ⟨p, q, v, _, h1, _⟩
  · obtain rfl := textQ_inj (h1.trans hr.symm)
    exact ⟨v, h2, h3, hb⟩
  · exact absurd hr (h1 r)
theorem q_read_bad {s : List UInt8} {w0 : World} (hr : ∀ r, textQ r ≠ s) (hl : s.length ≤ 50000) :
    Calls Tryd.prog 91 #[.string ⟨s.toArray⟩] w0 fun e w' => ∃ (p q : Int) (v : Value), p ≠ 0 ∧ e = .returned (.tuple #[v, .agg #[.int .i64 p, .int .i64 q]]) ∧ QAt w' v 0 ∧ Below w0.heap.size w0 w' := by
  refine (q_read hl).mono fun e w' ⟨hp, hb⟩ => ?_
  rcases hp with ⟨x, v, h1, _⟩ | ⟨p, q, v, h0, _, h2, h3⟩
  · exact absurd h1 (hr x)
  · exact ⟨p, q, v, h0, h2, h3, hb⟩
theorem text_zl (z : Int) : zl z ≤ (textZ z).length / 9 + 1 := rz_zl9 (rz_text z)
theorem qs_text {r : Rat} {u : List UInt8} (hr : textQ r = u) (hu : u.length ≤ 800) : Qs 400 r := by
  have h1 := text_zl (qn r)
  have h2 := text_zl (qd r)
  have e := q_self r
  unfold textQ at hr
  split at hr
  · rename_i h0
    have h3 : zl (qd r) ≤ 400 := by
      rw [← ql_qd, h0]
      exact Nat.le_trans (show zl (0 + 1) ≤ 1 from nl_le_of_lt (by decide)) (by decide)
    rw [← e]
    exact qs_make (by rw [hr] at h1; omega) h3 (qd_ne r)
  · have h3 := congrArg List.length hr
    rw [List.length_append, List.length_cons] at h3
    rw [← e]
    exact qs_make (by omega) (by omega) (qd_ne r)
theorem text_le {x : Rat} (h : Qs 400 x) : (textQ x).length ≤ 50000 := by
  have h1 := textZ_bd (qn x)
  have h2 := textZ_bd (qd x)
  have h3 := h.n
  have h4 := h.d
  unfold textQ
  split
  · omega
  · rw [List.length_append, List.length_cons]; omega
theorem div_tm {t : Int} (h : t ≠ 0) (x : Rat) : Rat.divInt (qn x * t) (qd x * t) = x := by
  rw [Rat.divInt_mul_right h, q_self]
theorem gcd_one0 (x : Rat) : ((((Int.gcd (qn x) (qd x) : Nat) : Int) - 1).sign != 0) = false := by
  have h : Int.gcd (qn x) (qd x) = 1 := by
    show Nat.gcd x.num.natAbs ((x.den : Int).natAbs) = 1
    rw [Int.natAbs_natCast]
    exact x.reduced
  rw [h]
  rfl
theorem zl_i64 {t : Int} (h1 : -9223372036854775808 ≤ t) (h2 : t ≤ 9223372036854775807) : zl t ≤ 2 := nl_le_of_lt (by show t.natAbs < _; omega)
set_option maxRecDepth 100000 in
set_option maxHeartbeats 16000000 in
theorem qback_long {s t u : List UInt8} {x : Rat} {o : Bool} {tm : Int} {w0 : World} (f1 : AlAs s t x o) (hl : Lg (s, t)) :
    Calls Tryd.prog 14 #[.agg #[.string ⟨s.toArray⟩, .string ⟨t.toArray⟩], .int .i64 tm, .string ⟨u.toArray⟩] w0 fun e w' => e = .returned (.bool true) ∧ Below w0.heap.size w0 w' := by
  refine enter Tryd.func14 rfl Tryd.ntmps14 rfl ?_
  intro a henv hst
  refine wp_seq ?_
  refine region_seq ?_
  refine seq_step rfl (op_box (c := #[.string ⟨s.toArray⟩, .string ⟨t.toArray⟩]) henv hst rfl rfl rfl ?_)
  clear henv hst a; intro a w52 g51 henv hst
  refine sv (v := .bool false) henv rfl (rn_assign henv rfl) ?_
  clear henv a; intro a henv
  refine wpList_nil ?_
  refine th_n ?_
  refine wp_seq ?_
  refine wp_seq ?_
  refine region_seq ?_
  refine seq_step rfl (op_call henv rfl Tryd.call55 rfl (qworks) ?_)
  rintro e w53 ⟨rfl, hb⟩
  refine ⟨_, rfl, ?_⟩
  clear henv a; intro a henv
  replace hst := hst.call hb
  clear hb
  refine sv (v := .bool false) henv rfl (rn_un henv rfl rfl) ?_
  clear henv a; intro a henv
  refine wpList_nil ?_
  refine th_n ?_
  refine if_f henv rfl (rfl) ?_
  refine wp_skip ?_
  refine th_n ?_
  refine wp_seq ?_
  refine region_seq ?_
  refine sv (v := .agg #[.string ⟨s.toArray⟩, .string ⟨t.toArray⟩]) henv rfl (rn_load0 henv ty_anvil_anvillaw03_Frac rfl (hst.oat (k := 0) rfl) rfl) ?_
  clear henv a; intro a henv
  refine seq_step rfl (op_call henv rfl Tryd.call87 rfl (f1 _) ?_)
  rintro e w60 ⟨_, rfl, ⟨A54, c55, B56, d57, rfl, hz58, hz59⟩, hb⟩
  refine ⟨_, rfl, ?_⟩
  clear henv a; intro a henv
  replace hst := ((hst.call hb).addZ hz58 ⟨nou_bk rfl, trivial⟩).addZ hz59 ⟨nou_bk rfl, trivial⟩
  clear hz58 hz59
  clear hb
  revert a
  refine mA rfl rfl ?_
  refine sA (v := .agg #[.bool (neg (qn x)), .slice A54 (zl (qn x)) c55, .bool (neg (ql x)), .slice B56 (zl (ql x)) d57]) rfl (fun _ henv => rn_extract henv rfl rfl) ?_
  refine sA (v := .bool o) rfl (fun _ henv => rn_extract henv rfl rfl) ?_
  intro a henv
  refine seq_step rfl (op_alloc (c := #[.bool (neg (qn 0)), .slice none (zl (qn 0)) 0, .bool (neg (ql 0)), .slice none (zl (ql 0)) 0]) henv hst rfl zero_anvil_ratio_Rat qcells ?_)
  clear henv hst a; intro a w62 g61 henv hst
  refine seq_step rfl (op_store (k := 0) (c' := #[.bool (neg (qn x)), .slice A54 (zl (qn x)) c55, .bool (neg (ql x)), .slice B56 (zl (ql x)) d57]) henv hst (ty_anvil_ratio_Rat.size) rfl rfl rfl rfl (by simp) rfl rfl ?_)
  clear henv hst a; intro a w63 henv hst
  refine sv (v := .bool o) henv rfl (rn_assign henv rfl) ?_
  clear henv a; intro a henv
  refine wpList_nil ?_
  refine th_n ?_
  refine wp_seq ?_
  refine wp_seq ?_
  refine region_seq ?_
  refine sv (v := .agg #[.string ⟨s.toArray⟩, .string ⟨t.toArray⟩]) henv rfl (rn_load0 henv ty_anvil_anvillaw03_Frac rfl (hst.oat (k := 1) rfl) rfl) ?_
  clear henv a; intro a henv
  refine seq_step rfl (op_buildSlice (z := 2) (pv := #[(0, .agg #[.string ⟨s.toArray⟩, .string ⟨t.toArray⟩])]) (c := #[.string ⟨s.toArray⟩, .string ⟨t.toArray⟩]) henv hst rfl Tryd.underlying103 (ty_anvil_anvillaw03_Frac.size) zero_anvil_anvillaw03_Frac (by decide) (by decide) rfl (by kernel_rfl) ?_)
  clear henv hst a; intro a w65 g64 henv hst
  replace hst := hst.giveBk (f := fF) (F := FF) (k := 0) (n := 1) (es := [(s, t)]) rfl rfl fF_len rfl (by decide) (esT_P (fun _ => rfl) _ _) (fun _ _ _ _ => esT_foot (fun _ => rfl))
  refine seq_step rfl (op_call henv rfl Tryd.call68 rfl (qlong_yes (hst.pat (k := 0) rfl) (by exact ⟨_, List.mem_cons_self .., hl⟩)) ?_)
  rintro e w66 ⟨rfl, hb⟩
  refine ⟨_, rfl, ?_⟩
  clear henv a; intro a henv
  replace hst := hst.call hb
  clear hb
  revert a
  refine mA rfl rfl ?_
  refine kA rfl rfl rfl rfl rfl ?_
  refine kA rfl rfl rfl rfl rfl ?_
  refine kA rfl rfl rfl rfl rfl ?_
  refine sA (v := .bool true) rfl (fun _ henv => rn_pick henv rfl rfl) ?_
  intro a henv
  refine wpList_nil ?_
  refine th_n ?_
  refine if_t henv rfl (rfl) ?_
  refine wp_seq ?_
  refine region_seq ?_
  refine sv (v := .bool true) henv rfl (rn_assign henv rfl) ?_
  clear henv a; intro a henv
  refine wpList_nil ?_
  refine th_n ?_
  refine wp_ret ?_
  refine th_r ?_
  refine leave henv (res1 Tryd.results14 (RV.tmp henv rfl)) ?_
  exact ⟨rfl, hst.below⟩
set_option maxRecDepth 100000 in
set_option maxHeartbeats 16000000 in
theorem qback_len {s t u : List UInt8} {x : Rat} {o : Bool} {tm : Int} {w0 : World} (f1 : AlAs s t x o) (hl : ¬ Lg (s, t)) (hu : 800 < u.length) :
    Calls Tryd.prog 14 #[.agg #[.string ⟨s.toArray⟩, .string ⟨t.toArray⟩], .int .i64 tm, .string ⟨u.toArray⟩] w0 fun e w' => e = .returned (.bool true) ∧ Below w0.heap.size w0 w' := by
  refine enter Tryd.func14 rfl Tryd.ntmps14 rfl ?_
  intro a henv hst
  refine wp_seq ?_
  refine region_seq ?_
  refine seq_step rfl (op_box (c := #[.string ⟨s.toArray⟩, .string ⟨t.toArray⟩]) henv hst rfl rfl rfl ?_)
  clear henv hst a; intro a w52 g51 henv hst
  refine sv (v := .bool false) henv rfl (rn_assign henv rfl) ?_
  clear henv a; intro a henv
  refine wpList_nil ?_
  refine th_n ?_
  refine wp_seq ?_
  refine wp_seq ?_
  refine region_seq ?_
  refine seq_step rfl (op_call henv rfl Tryd.call55 rfl (qworks) ?_)
  rintro e w53 ⟨rfl, hb⟩
  refine ⟨_, rfl, ?_⟩
  clear henv a; intro a henv
  replace hst := hst.call hb
  clear hb
  refine sv (v := .bool false) henv rfl (rn_un henv rfl rfl) ?_
  clear henv a; intro a henv
  refine wpList_nil ?_
  refine th_n ?_
  refine if_f henv rfl (rfl) ?_
  refine wp_skip ?_
  refine th_n ?_
  refine wp_seq ?_
  refine region_seq ?_
  refine sv (v := .agg #[.string ⟨s.toArray⟩, .string ⟨t.toArray⟩]) henv rfl (rn_load0 henv ty_anvil_anvillaw03_Frac rfl (hst.oat (k := 0) rfl) rfl) ?_
  clear henv a; intro a henv
  refine seq_step rfl (op_call henv rfl Tryd.call87 rfl (f1 _) ?_)
  rintro e w60 ⟨_, rfl, ⟨A54, c55, B56, d57, rfl, hz58, hz59⟩, hb⟩
  refine ⟨_, rfl, ?_⟩
  clear henv a; intro a henv
  replace hst := ((hst.call hb).addZ hz58 ⟨nou_bk rfl, trivial⟩).addZ hz59 ⟨nou_bk rfl, trivial⟩
  clear hz58 hz59
  clear hb
  revert a
  refine mA rfl rfl ?_
  refine sA (v := .agg #[.bool (neg (qn x)), .slice A54 (zl (qn x)) c55, .bool (neg (ql x)), .slice B56 (zl (ql x)) d57]) rfl (fun _ henv => rn_extract henv rfl rfl) ?_
  refine sA (v := .bool o) rfl (fun _ henv => rn_extract henv rfl rfl) ?_
  intro a henv
  refine seq_step rfl (op_alloc (c := #[.bool (neg (qn 0)), .slice none (zl (qn 0)) 0, .bool (neg (ql 0)), .slice none (zl (ql 0)) 0]) henv hst rfl zero_anvil_ratio_Rat qcells ?_)
  clear henv hst a; intro a w62 g61 henv hst
  refine seq_step rfl (op_store (k := 0) (c' := #[.bool (neg (qn x)), .slice A54 (zl (qn x)) c55, .bool (neg (ql x)), .slice B56 (zl (ql x)) d57]) henv hst (ty_anvil_ratio_Rat.size) rfl rfl rfl rfl (by simp) rfl rfl ?_)
  clear henv hst a; intro a w63 henv hst
  refine sv (v := .bool o) henv rfl (rn_assign henv rfl) ?_
  clear henv a; intro a henv
  refine wpList_nil ?_
  refine th_n ?_
  refine wp_seq ?_
  refine wp_seq ?_
  refine region_seq ?_
  refine sv (v := .agg #[.string ⟨s.toArray⟩, .string ⟨t.toArray⟩]) henv rfl (rn_load0 henv ty_anvil_anvillaw03_Frac rfl (hst.oat (k := 1) rfl) rfl) ?_
  clear henv a; intro a henv
  refine seq_step rfl (op_buildSlice (z := 2) (pv := #[(0, .agg #[.string ⟨s.toArray⟩, .string ⟨t.toArray⟩])]) (c := #[.string ⟨s.toArray⟩, .string ⟨t.toArray⟩]) henv hst rfl Tryd.underlying103 (ty_anvil_anvillaw03_Frac.size) zero_anvil_anvillaw03_Frac (by decide) (by decide) rfl (by kernel_rfl) ?_)
  clear henv hst a; intro a w65 g64 henv hst
  replace hst := hst.giveBk (f := fF) (F := FF) (k := 0) (n := 1) (es := [(s, t)]) rfl rfl fF_len rfl (by decide) (esT_P (fun _ => rfl) _ _) (fun _ _ _ _ => esT_foot (fun _ => rfl))
  refine seq_step rfl (op_call henv rfl Tryd.call68 rfl (qlong_no (hst.pat (k := 0) rfl) (by decide) (by intro e he; simp at he; subst he; exact hl)) ?_)
  rintro e w66 ⟨rfl, hb⟩
  refine ⟨_, rfl, ?_⟩
  clear henv a; intro a henv
  replace hst := hst.call hb
  clear hb
  revert a
  refine mA rfl rfl ?_
  refine gA (v := .string ⟨u.toArray⟩) rfl rfl rfl rfl (fun _ henv => rn_move henv rfl) ?_
  refine gA (v := .int .i64 (u.length : Nat)) rfl rfl rfl rfl (fun _ henv => rn_lenS henv Tryd.underlying9 rfl) ?_
  refine gA (v := .bool (decide (((u.length : Nat) : Int) > (800 : Int)))) rfl rfl rfl rfl (fun _ henv => rn_bin henv rfl rfl rfl) ?_
  intro a henv
  rw [show (decide (((u.length : Nat) : Int) > (800 : Int))) = true from (decide_eq_true (by omega))] at henv
  refine sv (v := .bool true) henv rfl (rn_pick henv rfl rfl) ?_
  clear henv a; intro a henv
  refine wpList_nil ?_
  refine th_n ?_
  refine if_t henv rfl (rfl) ?_
  refine wp_seq ?_
  refine region_seq ?_
  refine sv (v := .bool true) henv rfl (rn_assign henv rfl) ?_
  clear henv a; intro a henv
  refine wpList_nil ?_
  refine th_n ?_
  refine wp_ret ?_
  refine th_r ?_
  refine leave henv (res1 Tryd.results14 (RV.tmp henv rfl)) ?_
  exact ⟨rfl, hst.below⟩
set_option maxRecDepth 100000 in
set_option maxHeartbeats 16000000 in
theorem qback_no1 {s t u : List UInt8} {x : Rat} {r : Rat} {tm : Int} {w0 : World} (f1 : AlAs s t x false) (hl : ¬ Lg (s, t)) (hu : u.length ≤ 800) (hr : textQ r = u) :
    Calls Tryd.prog 14 #[.agg #[.string ⟨s.toArray⟩, .string ⟨t.toArray⟩], .int .i64 tm, .string ⟨u.toArray⟩] w0 fun e w' => e = .returned (.bool true) ∧ Below w0.heap.size w0 w' := by
  have sr : Qs 400 r := qs_text hr hu
  refine enter Tryd.func14 rfl Tryd.ntmps14 rfl ?_
  intro a henv hst
  refine wp_seq ?_
  refine region_seq ?_
  refine seq_step rfl (op_box (c := #[.string ⟨s.toArray⟩, .string ⟨t.toArray⟩]) henv hst rfl rfl rfl ?_)
  clear henv hst a; intro a w52 g51 henv hst
  refine sv (v := .bool false) henv rfl (rn_assign henv rfl) ?_
  clear henv a; intro a henv
  refine wpList_nil ?_
  refine th_n ?_
  refine wp_seq ?_
  refine wp_seq ?_
  refine region_seq ?_
  refine seq_step rfl (op_call henv rfl Tryd.call55 rfl (qworks) ?_)
  rintro e w53 ⟨rfl, hb⟩
  refine ⟨_, rfl, ?_⟩
  clear henv a; intro a henv
  replace hst := hst.call hb
  clear hb
  refine sv (v := .bool false) henv rfl (rn_un henv rfl rfl) ?_
  clear henv a; intro a henv
  refine wpList_nil ?_
  refine th_n ?_
  refine if_f henv rfl (rfl) ?_
  refine wp_skip ?_
  refine th_n ?_
  refine wp_seq ?_
  refine region_seq ?_
  refine sv (v := .agg #[.string ⟨s.toArray⟩, .string ⟨t.toArray⟩]) henv rfl (rn_load0 henv ty_anvil_anvillaw03_Frac rfl (hst.oat (k := 0) rfl) rfl) ?_
  clear henv a; intro a henv
  refine seq_step rfl (op_call henv rfl Tryd.call87 rfl (f1 _) ?_)
  rintro e w60 ⟨_, rfl, ⟨A54, c55, B56, d57, rfl, hz58, hz59⟩, hb⟩
  refine ⟨_, rfl, ?_⟩
  clear henv a; intro a henv
  replace hst := ((hst.call hb).addZ hz58 ⟨nou_bk rfl, trivial⟩).addZ hz59 ⟨nou_bk rfl, trivial⟩
  clear hz58 hz59
  clear hb
  revert a
  refine mA rfl rfl ?_
  refine sA (v := .agg #[.bool (neg (qn x)), .slice A54 (zl (qn x)) c55, .bool (neg (ql x)), .slice B56 (zl (ql x)) d57]) rfl (fun _ henv => rn_extract henv rfl rfl) ?_
  refine sA (v := .bool false) rfl (fun _ henv => rn_extract henv rfl rfl) ?_
  intro a henv
  refine seq_step rfl (op_alloc (c := #[.bool (neg (qn 0)), .slice none (zl (qn 0)) 0, .bool (neg (ql 0)), .slice none (zl (ql 0)) 0]) henv hst rfl zero_anvil_ratio_Rat qcells ?_)
  clear henv hst a; intro a w62 g61 henv hst
  refine seq_step rfl (op_store (k := 0) (c' := #[.bool (neg (qn x)), .slice A54 (zl (qn x)) c55, .bool (neg (ql x)), .slice B56 (zl (ql x)) d57]) henv hst (ty_anvil_ratio_Rat.size) rfl rfl rfl rfl (by simp) rfl rfl ?_)
  clear henv hst a; intro a w63 henv hst
  refine sv (v := .bool false) henv rfl (rn_assign henv rfl) ?_
  clear henv a; intro a henv
  refine wpList_nil ?_
  refine th_n ?_
  refine wp_seq ?_
  refine wp_seq ?_
  refine region_seq ?_
  refine sv (v := .agg #[.string ⟨s.toArray⟩, .string ⟨t.toArray⟩]) henv rfl (rn_load0 henv ty_anvil_anvillaw03_Frac rfl (hst.oat (k := 1) rfl) rfl) ?_
  clear henv a; intro a henv
  refine seq_step rfl (op_buildSlice (z := 2) (pv := #[(0, .agg #[.string ⟨s.toArray⟩, .string ⟨t.toArray⟩])]) (c := #[.string ⟨s.toArray⟩, .string ⟨t.toArray⟩]) henv hst rfl Tryd.underlying103 (ty_anvil_anvillaw03_Frac.size) zero_anvil_anvillaw03_Frac (by decide) (by decide) rfl (by kernel_rfl) ?_)
  clear henv hst a; intro a w65 g64 henv hst
  replace hst := hst.giveBk (f := fF) (F := FF) (k := 0) (n := 1) (es := [(s, t)]) rfl rfl fF_len rfl (by decide) (esT_P (fun _ => rfl) _ _) (fun _ _ _ _ => esT_foot (fun _ => rfl))
  refine seq_step rfl (op_call henv rfl Tryd.call68 rfl (qlong_no (hst.pat (k := 0) rfl) (by decide) (by intro e he; simp at he; subst he; exact hl)) ?_)
  rintro e w66 ⟨rfl, hb⟩
  refine ⟨_, rfl, ?_⟩
  clear henv a; intro a henv
  replace hst := hst.call hb
  clear hb
  revert a
  refine mA rfl rfl ?_
  refine gA (v := .string ⟨u.toArray⟩) rfl rfl rfl rfl (fun _ henv => rn_move henv rfl) ?_
  refine gA (v := .int .i64 (u.length : Nat)) rfl rfl rfl rfl (fun _ henv => rn_lenS henv Tryd.underlying9 rfl) ?_
  refine gA (v := .bool (decide (((u.length : Nat) : Int) > (800 : Int)))) rfl rfl rfl rfl (fun _ henv => rn_bin henv rfl rfl rfl) ?_
  intro a henv
  rw [show (decide (((u.length : Nat) : Int) > (800 : Int))) = false from (decide_eq_false (by omega))] at henv
  refine sv (v := .bool false) henv rfl (rn_pick henv rfl rfl) ?_
  clear henv a; intro a henv
  refine wpList_nil ?_
  refine th_n ?_
  refine if_f henv rfl (rfl) ?_
  refine wp_skip ?_
  refine th_n ?_
  refine wp_seq ?_
  refine wp_seq ?_
  refine region_seq ?_
  refine sv (v := .bool false) henv rfl (rn_move henv rfl) ?_
  clear henv a; intro a henv
  refine wpList_nil ?_
  refine th_n ?_
  refine if_f henv rfl (rfl) ?_
  refine wp_skip ?_
  refine th_n ?_
  refine wp_seq ?_
  refine region_seq ?_
  refine sv (v := .string ⟨u.toArray⟩) henv rfl (rn_move henv rfl) ?_
  clear henv a; intro a henv
  refine seq_step rfl (op_call henv rfl Tryd.call91 rfl (q_read_ok hr (by omega)) ?_)
  rintro e w73 ⟨_, rfl, ⟨A67, c68, B69, d70, rfl, hz71, hz72⟩, hb⟩
  refine ⟨_, rfl, ?_⟩
  clear henv a; intro a henv
  replace hst := ((hst.call hb).addZ hz71 ⟨nou_bk rfl, nou_bk rfl, trivial⟩).addZ hz72 ⟨nou_bk rfl, nou_bk rfl, trivial⟩
  clear hz71 hz72
  clear hb
  revert a
  refine mA rfl rfl ?_
  refine sA (v := .agg #[.bool (neg (qn r)), .slice A67 (zl (qn r)) c68, .bool (neg (ql r)), .slice B69 (zl (ql r)) d70]) rfl (fun _ henv => rn_extract henv rfl rfl) ?_
  refine sA (v := .agg #[.int .i64 0, .int .i64 0]) rfl (fun _ henv => rn_extract henv rfl rfl) ?_
  intro a henv
  refine seq_step rfl (op_alloc (c := #[.bool (neg (qn 0)), .slice none (zl (qn 0)) 0, .bool (neg (ql 0)), .slice none (zl (ql 0)) 0]) henv hst rfl zero_anvil_ratio_Rat qcells ?_)
  clear henv hst a; intro a w75 g74 henv hst
  refine seq_step rfl (op_alloc (c := #[.int .i64 0, .int .i64 0]) henv hst rfl zero_anvil_api_Spot rfl ?_)
  clear henv hst a; intro a w77 g76 henv hst
  refine seq_step rfl (op_store (k := 1) (c' := #[.bool (neg (qn r)), .slice A67 (zl (qn r)) c68, .bool (neg (ql r)), .slice B69 (zl (ql r)) d70]) henv hst (ty_anvil_ratio_Rat.size) rfl rfl rfl rfl (by simp) rfl rfl ?_)
  clear henv hst a; intro a w78 henv hst
  refine seq_step rfl (op_store (k := 0) (c' := #[.int .i64 0, .int .i64 0]) henv hst (ty_anvil_api_Spot.size) rfl rfl rfl rfl (by simp) rfl rfl ?_)
  clear henv hst a; intro a w79 henv hst
  refine wpList_nil ?_
  refine th_n ?_
  refine wp_seq ?_
  refine region_seq ?_
  revert a
  refine sA (v := .agg #[.int .i64 0, .int .i64 0]) rfl (fun _ henv => rn_load0 henv ty_anvil_api_Spot rfl (hst.oat (k := 0) rfl) rfl) ?_
  refine sA (v := .agg #[.int .i64 0, .int .i64 0]) rfl (fun _ henv => rn_spot0) ?_
  refine sA (v := .bool (!decide ([(0 : Int), (0 : Int)] = [(0 : Int), (0 : Int)]))) rfl (fun _ henv => rn_neqI [(0 : Int), (0 : Int)] [(0 : Int), (0 : Int)] henv spotI rfl rfl rfl rfl) ?_
  intro a henv
  rw [show (!decide ([(0 : Int), (0 : Int)] = [(0 : Int), (0 : Int)])) = false from (by decide)] at henv
  revert a
  refine mA rfl rfl ?_
  refine gA (v := .agg #[.bool (neg (qn r)), .slice A67 (zl (qn r)) c68, .bool (neg (ql r)), .slice B69 (zl (ql r)) d70]) rfl rfl rfl rfl (fun _ henv => rn_load0 henv ty_anvil_ratio_Rat rfl (hst.oat (k := 1) rfl) rfl) ?_
  intro a henv
  refine seq_g rfl henv rfl rfl (op_call henv rfl Tryd.call92 rfl (text_q (x := r) (show ZIn _ A67 c68 (qn r) from hst.pat (k := 1) rfl) (show ZIn _ B69 d70 (ql r) from hst.pat (k := 0) rfl) sr (by omega)) ?_)
  rintro e w80 ⟨rfl, hb⟩
  refine ⟨_, rfl, ?_⟩
  clear henv a; intro a henv
  replace hst := hst.call hb
  clear hb
  revert a
  refine gA (v := .string ⟨u.toArray⟩) rfl rfl rfl rfl (fun _ henv => rn_move henv rfl) ?_
  refine gA (v := .bool (decide ((textQ r) = u))) rfl rfl rfl rfl (fun _ henv => rn_eqls (s := (textQ r)) (t := u) henv rfl rfl) ?_
  intro a henv
  rw [show (decide ((textQ r) = u)) = true from (decide_eq_true hr)] at henv
  revert a
  refine sA (v := .bool true) rfl (fun _ henv => rn_pick henv rfl rfl) ?_
  refine aA rfl rfl ?_
  intro a henv
  refine wpList_nil ?_
  refine th_n ?_
  refine wp_ret ?_
  refine leave henv (res1 Tryd.results14 (RV.tmp henv rfl)) ?_
  exact ⟨rfl, hst.below⟩
set_option maxRecDepth 100000 in
set_option maxHeartbeats 16000000 in
theorem qback_ok11 {s t u : List UInt8} {x : Rat} {r : Rat} {tm : Int} {w0 : World} (hb1 : -9223372036854775808 ≤ tm) (hb2 : tm ≤ 9223372036854775807) (f1 : AlAs s t x true) (hl : ¬ Lg (s, t)) (sx : Qs 400 x) (hu : u.length ≤ 800) (ht0 : tm = 0) (hr : textQ r = u) :
    Calls Tryd.prog 14 #[.agg #[.string ⟨s.toArray⟩, .string ⟨t.toArray⟩], .int .i64 tm, .string ⟨u.toArray⟩] w0 fun e w' => e = .returned (.bool true) ∧ Below w0.heap.size w0 w' := by
  have sr : Qs 400 r := qs_text hr hu
  have hnx := sx.n
  have hdx := sx.d
  have htx := text_le sx
  have htz := zl_i64 hb1 hb2
  refine enter Tryd.func14 rfl Tryd.ntmps14 rfl ?_
  intro a henv hst
  refine wp_seq ?_
  refine region_seq ?_
  refine seq_step rfl (op_box (c := #[.string ⟨s.toArray⟩, .string ⟨t.toArray⟩]) henv hst rfl rfl rfl ?_)
  clear henv hst a; intro a w52 g51 henv hst
  refine sv (v := .bool false) henv rfl (rn_assign henv rfl) ?_
  clear henv a; intro a henv
  refine wpList_nil ?_
  refine th_n ?_
  refine wp_seq ?_
  refine wp_seq ?_
  refine region_seq ?_
  refine seq_step rfl (op_call henv rfl Tryd.call55 rfl (qworks) ?_)
  rintro e w53 ⟨rfl, hb⟩
  refine ⟨_, rfl, ?_⟩
  clear henv a; intro a henv
  replace hst := hst.call hb
  clear hb
  refine sv (v := .bool false) henv rfl (rn_un henv rfl rfl) ?_
  clear henv a; intro a henv
  refine wpList_nil ?_
  refine th_n ?_
  refine if_f henv rfl (rfl) ?_
  refine wp_skip ?_
  refine th_n ?_
  refine wp_seq ?_
  refine region_seq ?_
  refine sv (v := .agg #[.string ⟨s.toArray⟩, .string ⟨t.toArray⟩]) henv rfl (rn_load0 henv ty_anvil_anvillaw03_Frac rfl (hst.oat (k := 0) rfl) rfl) ?_
  clear henv a; intro a henv
  refine seq_step rfl (op_call henv rfl Tryd.call87 rfl (f1 _) ?_)
  rintro e w60 ⟨_, rfl, ⟨A54, c55, B56, d57, rfl, hz58, hz59⟩, hb⟩
  refine ⟨_, rfl, ?_⟩
  clear henv a; intro a henv
  replace hst := ((hst.call hb).addZ hz58 ⟨nou_bk rfl, trivial⟩).addZ hz59 ⟨nou_bk rfl, trivial⟩
  clear hz58 hz59
  clear hb
  revert a
  refine mA rfl rfl ?_
  refine sA (v := .agg #[.bool (neg (qn x)), .slice A54 (zl (qn x)) c55, .bool (neg (ql x)), .slice B56 (zl (ql x)) d57]) rfl (fun _ henv => rn_extract henv rfl rfl) ?_
  refine sA (v := .bool true) rfl (fun _ henv => rn_extract henv rfl rfl) ?_
  intro a henv
  refine seq_step rfl (op_alloc (c := #[.bool (neg (qn 0)), .slice none (zl (qn 0)) 0, .bool (neg (ql 0)), .slice none (zl (ql 0)) 0]) henv hst rfl zero_anvil_ratio_Rat qcells ?_)
  clear henv hst a; intro a w62 g61 henv hst
  refine seq_step rfl (op_store (k := 0) (c' := #[.bool (neg (qn x)), .slice A54 (zl (qn x)) c55, .bool (neg (ql x)), .slice B56 (zl (ql x)) d57]) henv hst (ty_anvil_ratio_Rat.size) rfl rfl rfl rfl (by simp) rfl rfl ?_)
  clear henv hst a; intro a w63 henv hst
  refine sv (v := .bool true) henv rfl (rn_assign henv rfl) ?_
  clear henv a; intro a henv
  refine wpList_nil ?_
  refine th_n ?_
  refine wp_seq ?_
  refine wp_seq ?_
  refine region_seq ?_
  refine sv (v := .agg #[.string ⟨s.toArray⟩, .string ⟨t.toArray⟩]) henv rfl (rn_load0 henv ty_anvil_anvillaw03_Frac rfl (hst.oat (k := 1) rfl) rfl) ?_
  clear henv a; intro a henv
  refine seq_step rfl (op_buildSlice (z := 2) (pv := #[(0, .agg #[.string ⟨s.toArray⟩, .string ⟨t.toArray⟩])]) (c := #[.string ⟨s.toArray⟩, .string ⟨t.toArray⟩]) henv hst rfl Tryd.underlying103 (ty_anvil_anvillaw03_Frac.size) zero_anvil_anvillaw03_Frac (by decide) (by decide) rfl (by kernel_rfl) ?_)
  clear henv hst a; intro a w65 g64 henv hst
  replace hst := hst.giveBk (f := fF) (F := FF) (k := 0) (n := 1) (es := [(s, t)]) rfl rfl fF_len rfl (by decide) (esT_P (fun _ => rfl) _ _) (fun _ _ _ _ => esT_foot (fun _ => rfl))
  refine seq_step rfl (op_call henv rfl Tryd.call68 rfl (qlong_no (hst.pat (k := 0) rfl) (by decide) (by intro e he; simp at he; subst he; exact hl)) ?_)
  rintro e w66 ⟨rfl, hb⟩
  refine ⟨_, rfl, ?_⟩
  clear henv a; intro a henv
  replace hst := hst.call hb
  clear hb
  revert a
  refine mA rfl rfl ?_
  refine gA (v := .string ⟨u.toArray⟩) rfl rfl rfl rfl (fun _ henv => rn_move henv rfl) ?_
  refine gA (v := .int .i64 (u.length : Nat)) rfl rfl rfl rfl (fun _ henv => rn_lenS henv Tryd.underlying9 rfl) ?_
  refine gA (v := .bool (decide (((u.length : Nat) : Int) > (800 : Int)))) rfl rfl rfl rfl (fun _ henv => rn_bin henv rfl rfl rfl) ?_
  intro a henv
  rw [show (decide (((u.length : Nat) : Int) > (800 : Int))) = false from (decide_eq_false (by omega))] at henv
  refine sv (v := .bool false) henv rfl (rn_pick henv rfl rfl) ?_
  clear henv a; intro a henv
  refine wpList_nil ?_
  refine th_n ?_
  refine if_f henv rfl (rfl) ?_
  refine wp_skip ?_
  refine th_n ?_
  refine wp_seq ?_
  refine wp_seq ?_
  refine region_seq ?_
  refine sv (v := .bool true) henv rfl (rn_move henv rfl) ?_
  clear henv a; intro a henv
  refine wpList_nil ?_
  refine th_n ?_
  refine if_t henv rfl (rfl) ?_
  refine wp_seq ?_
  refine cut (fun a w => ∃ A68 : Option Addr, ∃ c69 : Nat, ∃ A73 : Option Addr, ∃ c74 : Nat, ∃ g78 : Nat, ∃ g80 : Nat, Env 128 a [(0, .agg #[.string ⟨s.toArray⟩, .string ⟨t.toArray⟩]), (1, .int .i64 tm), (2, .string ⟨u.toArray⟩), (3, .pointer (some ⟨g51, 0, none⟩)), (6, .bool false), (18, .bool true), (19, .bool false), (21, .agg #[.string ⟨s.toArray⟩, .string ⟨t.toArray⟩]), (22, .tuple #[.agg #[.bool (neg (qn x)), .slice A54 (zl (qn x)) c55, .bool (neg (ql x)), .slice B56 (zl (ql x)) d57], .bool true]), (20, .tuple #[.agg #[.bool (neg (qn x)), .slice A54 (zl (qn x)) c55, .bool (neg (ql x)), .slice B56 (zl (ql x)) d57], .bool true]), (23, .agg #[.bool (neg (qn x)), .slice A54 (zl (qn x)) c55, .bool (neg (ql x)), .slice B56 (zl (ql x)) d57]), (24, .bool true), (7, .pointer (some ⟨g61, 0, none⟩)), (8, .bool true), (25, .agg #[.string ⟨s.toArray⟩, .string ⟨t.toArray⟩]), (26, .slice (some ⟨g64, 0, none⟩) 1 1), (27, .bool false), (28, .bool false), (29, .string ⟨u.toArray⟩), (30, .int .i64 (u.length : Nat)), (31, .bool false), (32, .bool false), (33, .bool true), (9, .pointer (some ⟨g78, 0, none⟩)), (10, .pointer (some ⟨g80, 0, none⟩))] ∧ St w0 w [bk g80 #[.bool (neg (qd x)), .slice A73 (zl (qd x)) c74] 36, bk g78 #[.bool (neg (qn x)), .slice A68 (zl (qn x)) c69] 36, bk g61 #[.bool (neg (qn x)), .slice A54 (zl (qn x)) c55, .bool (neg (ql x)), .slice B56 (zl (ql x)) d57] 91, bk g51 #[.string ⟨s.toArray⟩, .string ⟨t.toArray⟩] 89] [pfZ A73 c74 (qd x), pfZ A68 c69 (qn x), pfRow fF FF 2 (some ⟨g64, 0, none⟩) 1 1 ([(s, t)]), pfRd 2 (some ⟨g64, 0, none⟩) 1 1 (fl fF [(s, t)]), pfZ B56 d57 (ql x), pfZ A54 c55 (qn x)]) ?_ ?_
  · refine region_any (n := 8) (Sk [bk g61 #[.bool (neg (qn x)), .slice A54 (zl (qn x)) c55, .bool (neg (ql x)), .slice B56 (zl (ql x)) d57] 91, bk g51 #[.string ⟨s.toArray⟩, .string ⟨t.toArray⟩] 89] [pfRow fF FF 2 (some ⟨g64, 0, none⟩) 1 1 ([(s, t)]), pfRd 2 (some ⟨g64, 0, none⟩) 1 1 (fl fF [(s, t)]), pfZ B56 d57 (ql x), pfZ A54 c55 (qn x)] [6, 7] []) mixed rfl henv hst ?_
    clear henv hst; intro w67 henv hst
    refine tL (i := 0) 0 0 [1, 3, 6, 7] rfl (by kernel_rfl) (fun _ _ _ h => h) henv rfl ty_anvil_ratio_Rat rfl hst rfl rfl rfl ?_
    clear henv a; intro a henv
    refine tL (i := 2) 0 0 [3, 6, 7] rfl (by kernel_rfl) (fun _ _ _ h => h) henv rfl ty_anvil_ratio_Rat rfl hst rfl rfl rfl ?_
    clear henv a; intro a henv
    refine sAny_all (rs := [1, 4, 5]) (by kernel_rfl) (by simp) ?_
    simp only [List.forall_mem_cons, List.not_mem_nil, false_implies, implies_true, and_true]
    refine ⟨?_, ?_, ?_⟩
    · have hs71 := sx.n
      refine ⟨_, rfl, rfl, op_call henv rfl Tryd.call88 rfl (num_q (x := x) (show ZIn _ A54 c55 (qn x) from hst.pat (k := 3) rfl) (show ZIn _ B56 d57 (ql x) from hst.pat (k := 2) rfl)) ?_⟩
      rintro e w72 ⟨_, rfl, ⟨A68, c69, rfl, hz70⟩, hb⟩
      refine ⟨_, rfl, ?_⟩
      clear henv a; intro a henv
      replace hst := (hst.call hb).addZ hz70 ⟨nou_bk rfl, nou_bk rfl, trivial⟩
      clear hz70
      clear hb
      refine ⟨.inr ⟨hst.kn.pick [0, 1] (rg 1 4), .inr (hst.kn.pick [] [])⟩, ?_⟩
      refine sAny_all (rs := [3, 4, 5]) (by kernel_rfl) (by simp) ?_
      simp only [List.forall_mem_cons, List.not_mem_nil, false_implies, implies_true, and_true]
      refine ⟨?_, ?_, ?_⟩
      · have hs76 := sx.d
        refine ⟨_, rfl, rfl, op_call henv rfl Tryd.call89 rfl (den_q (x := x) (show ZIn _ A54 c55 (qn x) from hst.pat (k := 4) rfl) (show ZIn _ B56 d57 (ql x) from hst.pat (k := 3) rfl) sx (by omega)) ?_⟩
        rintro e w77 ⟨_, rfl, ⟨A73, c74, rfl, hz75⟩, hb⟩
        refine ⟨_, rfl, ?_⟩
        clear henv a; intro a henv
        replace hst := (hst.call hb).addZ hz75 ⟨nou_bk rfl, nou_bk rfl, trivial⟩
        clear hz75
        clear hb
        refine ⟨.inr ⟨hst.kn.pick [0, 1] (rg 2 4), .inr (hst.kn.pick [] [])⟩, ?_⟩
        refine sAny_all (rs := [4, 5]) (by kernel_rfl) (by simp) ?_
        simp only [List.forall_mem_cons, List.not_mem_nil, false_implies, implies_true, and_true]
        refine ⟨?_, ?_⟩
        · refine ⟨_, rfl, rfl, op_alloc (c := #[.bool (neg 0), .slice none (zl 0) 0]) henv hst rfl zero_anvil_integer_Int zcells ?_⟩
          clear henv hst a; intro a w79 g78 henv hst
          refine ⟨.inr ⟨hst.kn.pick [1, 2] (rg 2 4), .inr (hst.kn.pick [] [])⟩, ?_⟩
          refine sAny_one (i := 5) (by kernel_rfl) rfl rfl (op_alloc (c := #[.bool (neg 0), .slice none (zl 0) 0]) henv hst rfl zero_anvil_integer_Int zcells ?_)
          clear henv hst a; intro a w81 g80 henv hst
          refine ⟨.inr ⟨hst.kn.pick [2, 3] (rg 2 4), .inr (hst.kn.pick [] [])⟩, ?_⟩
          refine sAny_one (i := 6) (by kernel_rfl) rfl rfl (op_store (k := 1) (c' := #[.bool (neg (qn x)), .slice A68 (zl (qn x)) c69]) henv hst (ty_anvil_integer_Int.size) rfl rfl rfl rfl (by simp) rfl rfl ?_)
          clear henv hst a; intro a w82 henv hst
          refine ⟨.inr ⟨hst.kn.pick [2, 3] (rg 2 4), .inl rfl⟩, ?_⟩
          refine sAny_one (i := 7) (by kernel_rfl) rfl rfl (op_store (k := 0) (c' := #[.bool (neg (qd x)), .slice A73 (zl (qd x)) c74]) henv hst (ty_anvil_integer_Int.size) rfl rfl rfl rfl (by simp) rfl rfl ?_)
          clear henv hst a; intro a w83 henv hst
          refine ⟨.inr ⟨hst.kn.pick [2, 3] (rg 2 4), .inl rfl⟩, ?_⟩
          refine sAny_done (by kernel_rfl) ?_ _
          exact th_n ⟨A68, c69, A73, c74, g78, g80, henv.sub ⟨rfl, rfl, rfl, rfl, rfl, rfl, rfl, rfl, rfl, rfl, rfl, rfl, rfl, rfl, rfl, rfl, rfl, rfl, rfl, rfl, rfl, rfl, rfl, rfl, rfl, trivial⟩, hst.pick [0, 1, 2, 3] [0, 1, 2, 3, 4, 5] (by decide)⟩
        · refine ⟨_, rfl, rfl, op_alloc (c := #[.bool (neg 0), .slice none (zl 0) 0]) henv hst rfl zero_anvil_integer_Int zcells ?_⟩
          clear henv hst a; intro a w85 g84 henv hst
          refine ⟨.inr ⟨hst.kn.pick [1, 2] (rg 2 4), .inr (hst.kn.pick [] [])⟩, ?_⟩
          refine sAny_one (i := 4) (by kernel_rfl) rfl rfl (op_alloc (c := #[.bool (neg 0), .slice none (zl 0) 0]) henv hst rfl zero_anvil_integer_Int zcells ?_)
          clear henv hst a; intro a w87 g86 henv hst
          refine ⟨.inr ⟨hst.kn.pick [2, 3] (rg 2 4), .inr (hst.kn.pick [] [])⟩, ?_⟩
          refine sAny_one (i := 6) (by kernel_rfl) rfl rfl (op_store (k := 0) (c' := #[.bool (neg (qn x)), .slice A68 (zl (qn x)) c69]) henv hst (ty_anvil_integer_Int.size) rfl rfl rfl rfl (by simp) rfl rfl ?_)
          clear henv hst a; intro a w88 henv hst
          refine ⟨.inr ⟨hst.kn.pick [2, 3] (rg 2 4), .inl rfl⟩, ?_⟩
          refine sAny_one (i := 7) (by kernel_rfl) rfl rfl (op_store (k := 1) (c' := #[.bool (neg (qd x)), .slice A73 (zl (qd x)) c74]) henv hst (ty_anvil_integer_Int.size) rfl rfl rfl rfl (by simp) rfl rfl ?_)
          clear henv hst a; intro a w89 henv hst
          refine ⟨.inr ⟨hst.kn.pick [2, 3] (rg 2 4), .inl rfl⟩, ?_⟩
          refine sAny_done (by kernel_rfl) ?_ _
          exact th_n ⟨A68, c69, A73, c74, g86, g84, henv.sub ⟨rfl, rfl, rfl, rfl, rfl, rfl, rfl, rfl, rfl, rfl, rfl, rfl, rfl, rfl, rfl, rfl, rfl, rfl, rfl, rfl, rfl, rfl, rfl, rfl, rfl, trivial⟩, hst.pick [1, 0, 2, 3] [0, 1, 2, 3, 4, 5] (by decide)⟩
      · refine ⟨_, rfl, rfl, op_alloc (c := #[.bool (neg 0), .slice none (zl 0) 0]) henv hst rfl zero_anvil_integer_Int zcells ?_⟩
        clear henv hst a; intro a w91 g90 henv hst
        refine ⟨.inr ⟨hst.kn.pick [1, 2] (rg 1 4), .inr (hst.kn.pick [] [])⟩, ?_⟩
        refine sAny_all (rs := [3, 5]) (by kernel_rfl) (by simp) ?_
        simp only [List.forall_mem_cons, List.not_mem_nil, false_implies, implies_true, and_true]
        refine ⟨?_, ?_⟩
        · have hs95 := sx.d
          refine ⟨_, rfl, rfl, op_call henv rfl Tryd.call89 rfl (den_q (x := x) (show ZIn _ A54 c55 (qn x) from hst.pat (k := 4) rfl) (show ZIn _ B56 d57 (ql x) from hst.pat (k := 3) rfl) sx (by omega)) ?_⟩
          rintro e w96 ⟨_, rfl, ⟨A92, c93, rfl, hz94⟩, hb⟩
          refine ⟨_, rfl, ?_⟩
          clear henv a; intro a henv
          replace hst := (hst.call hb).addZ hz94 ⟨nou_bk rfl, nou_bk rfl, nou_bk rfl, trivial⟩
          clear hz94
          clear hb
          refine ⟨.inr ⟨hst.kn.pick [1, 2] (rg 2 4), .inr (hst.kn.pick [] [])⟩, ?_⟩
          refine sAny_one (i := 5) (by kernel_rfl) rfl rfl (op_alloc (c := #[.bool (neg 0), .slice none (zl 0) 0]) henv hst rfl zero_anvil_integer_Int zcells ?_)
          clear henv hst a; intro a w98 g97 henv hst
          refine ⟨.inr ⟨hst.kn.pick [2, 3] (rg 2 4), .inr (hst.kn.pick [] [])⟩, ?_⟩
          refine sAny_one (i := 6) (by kernel_rfl) rfl rfl (op_store (k := 1) (c' := #[.bool (neg (qn x)), .slice A68 (zl (qn x)) c69]) henv hst (ty_anvil_integer_Int.size) rfl rfl rfl rfl (by simp) rfl rfl ?_)
          clear henv hst a; intro a w99 henv hst
          refine ⟨.inr ⟨hst.kn.pick [2, 3] (rg 2 4), .inl rfl⟩, ?_⟩
          refine sAny_one (i := 7) (by kernel_rfl) rfl rfl (op_store (k := 0) (c' := #[.bool (neg (qd x)), .slice A92 (zl (qd x)) c93]) henv hst (ty_anvil_integer_Int.size) rfl rfl rfl rfl (by simp) rfl rfl ?_)
          clear henv hst a; intro a w100 henv hst
          refine ⟨.inr ⟨hst.kn.pick [2, 3] (rg 2 4), .inl rfl⟩, ?_⟩
          refine sAny_done (by kernel_rfl) ?_ _
          exact th_n ⟨A68, c69, A92, c93, g90, g97, henv.sub ⟨rfl, rfl, rfl, rfl, rfl, rfl, rfl, rfl, rfl, rfl, rfl, rfl, rfl, rfl, rfl, rfl, rfl, rfl, rfl, rfl, rfl, rfl, rfl, rfl, rfl, trivial⟩, hst.pick [0, 1, 2, 3] [0, 1, 2, 3, 4, 5] (by decide)⟩
        · refine ⟨_, rfl, rfl, op_alloc (c := #[.bool (neg 0), .slice none (zl 0) 0]) henv hst rfl zero_anvil_integer_Int zcells ?_⟩
          clear henv hst a; intro a w102 g101 henv hst
          refine ⟨.inr ⟨hst.kn.pick [2, 3] (rg 1 4), .inr (hst.kn.pick [] [])⟩, ?_⟩
          have hs106 := sx.d
          refine sAny_one (i := 3) (by kernel_rfl) rfl rfl (op_call henv rfl Tryd.call89 rfl (den_q (x := x) (show ZIn _ A54 c55 (qn x) from hst.pat (k := 4) rfl) (show ZIn _ B56 d57 (ql x) from hst.pat (k := 3) rfl) sx (by omega)) ?_)
          rintro e w107 ⟨_, rfl, ⟨A103, c104, rfl, hz105⟩, hb⟩
          refine ⟨_, rfl, ?_⟩
          clear henv a; intro a henv
          replace hst := (hst.call hb).addZ hz105 ⟨nou_bk rfl, nou_bk rfl, nou_bk rfl, nou_bk rfl, trivial⟩
          clear hz105
          clear hb
          refine ⟨.inr ⟨hst.kn.pick [2, 3] (rg 2 4), .inr (hst.kn.pick [] [])⟩, ?_⟩
          refine sAny_one (i := 6) (by kernel_rfl) rfl rfl (op_store (k := 1) (c' := #[.bool (neg (qn x)), .slice A68 (zl (qn x)) c69]) henv hst (ty_anvil_integer_Int.size) rfl rfl rfl rfl (by simp) rfl rfl ?_)
          clear henv hst a; intro a w108 henv hst
          refine ⟨.inr ⟨hst.kn.pick [2, 3] (rg 2 4), .inl rfl⟩, ?_⟩
          refine sAny_one (i := 7) (by kernel_rfl) rfl rfl (op_store (k := 0) (c' := #[.bool (neg (qd x)), .slice A103 (zl (qd x)) c104]) henv hst (ty_anvil_integer_Int.size) rfl rfl rfl rfl (by simp) rfl rfl ?_)
          clear henv hst a; intro a w109 henv hst
          refine ⟨.inr ⟨hst.kn.pick [2, 3] (rg 2 4), .inl rfl⟩, ?_⟩
          refine sAny_done (by kernel_rfl) ?_ _
          exact th_n ⟨A68, c69, A103, c104, g90, g101, henv.sub ⟨rfl, rfl, rfl, rfl, rfl, rfl, rfl, rfl, rfl, rfl, rfl, rfl, rfl, rfl, rfl, rfl, rfl, rfl, rfl, rfl, rfl, rfl, rfl, rfl, rfl, trivial⟩, hst.pick [0, 1, 2, 3] [0, 1, 2, 3, 4, 5] (by decide)⟩
      · refine ⟨_, rfl, rfl, op_alloc (c := #[.bool (neg 0), .slice none (zl 0) 0]) henv hst rfl zero_anvil_integer_Int zcells ?_⟩
        clear henv hst a; intro a w111 g110 henv hst
        refine ⟨.inr ⟨hst.kn.pick [1, 2] (rg 1 4), .inr (hst.kn.pick [] [])⟩, ?_⟩
        refine sAny_all (rs := [3, 4]) (by kernel_rfl) (by simp) ?_
        simp only [List.forall_mem_cons, List.not_mem_nil, false_implies, implies_true, and_true]
        refine ⟨?_, ?_⟩
        · have hs115 := sx.d
          refine ⟨_, rfl, rfl, op_call henv rfl Tryd.call89 rfl (den_q (x := x) (show ZIn _ A54 c55 (qn x) from hst.pat (k := 4) rfl) (show ZIn _ B56 d57 (ql x) from hst.pat (k := 3) rfl) sx (by omega)) ?_⟩
          rintro e w116 ⟨_, rfl, ⟨A112, c113, rfl, hz114⟩, hb⟩
          refine ⟨_, rfl, ?_⟩
          clear henv a; intro a henv
          replace hst := (hst.call hb).addZ hz114 ⟨nou_bk rfl, nou_bk rfl, nou_bk rfl, trivial⟩
          clear hz114
          clear hb
          refine ⟨.inr ⟨hst.kn.pick [1, 2] (rg 2 4), .inr (hst.kn.pick [] [])⟩, ?_⟩
          refine sAny_one (i := 4) (by kernel_rfl) rfl rfl (op_alloc (c := #[.bool (neg 0), .slice none (zl 0) 0]) henv hst rfl zero_anvil_integer_Int zcells ?_)
          clear henv hst a; intro a w118 g117 henv hst
          refine ⟨.inr ⟨hst.kn.pick [2, 3] (rg 2 4), .inr (hst.kn.pick [] [])⟩, ?_⟩
          refine sAny_one (i := 6) (by kernel_rfl) rfl rfl (op_store (k := 0) (c' := #[.bool (neg (qn x)), .slice A68 (zl (qn x)) c69]) henv hst (ty_anvil_integer_Int.size) rfl rfl rfl rfl (by simp) rfl rfl ?_)
          clear henv hst a; intro a w119 henv hst
          refine ⟨.inr ⟨hst.kn.pick [2, 3] (rg 2 4), .inl rfl⟩, ?_⟩
          refine sAny_one (i := 7) (by kernel_rfl) rfl rfl (op_store (k := 1) (c' := #[.bool (neg (qd x)), .slice A112 (zl (qd x)) c113]) henv hst (ty_anvil_integer_Int.size) rfl rfl rfl rfl (by simp) rfl rfl ?_)
          clear henv hst a; intro a w120 henv hst
          refine ⟨.inr ⟨hst.kn.pick [2, 3] (rg 2 4), .inl rfl⟩, ?_⟩
          refine sAny_done (by kernel_rfl) ?_ _
          exact th_n ⟨A68, c69, A112, c113, g117, g110, henv.sub ⟨rfl, rfl, rfl, rfl, rfl, rfl, rfl, rfl, rfl, rfl, rfl, rfl, rfl, rfl, rfl, rfl, rfl, rfl, rfl, rfl, rfl, rfl, rfl, rfl, rfl, trivial⟩, hst.pick [1, 0, 2, 3] [0, 1, 2, 3, 4, 5] (by decide)⟩
        · refine ⟨_, rfl, rfl, op_alloc (c := #[.bool (neg 0), .slice none (zl 0) 0]) henv hst rfl zero_anvil_integer_Int zcells ?_⟩
          clear henv hst a; intro a w122 g121 henv hst
          refine ⟨.inr ⟨hst.kn.pick [2, 3] (rg 1 4), .inr (hst.kn.pick [] [])⟩, ?_⟩
          have hs126 := sx.d
          refine sAny_one (i := 3) (by kernel_rfl) rfl rfl (op_call henv rfl Tryd.call89 rfl (den_q (x := x) (show ZIn _ A54 c55 (qn x) from hst.pat (k := 4) rfl) (show ZIn _ B56 d57 (ql x) from hst.pat (k := 3) rfl) sx (by omega)) ?_)
          rintro e w127 ⟨_, rfl, ⟨A123, c124, rfl, hz125⟩, hb⟩
          refine ⟨_, rfl, ?_⟩
          clear henv a; intro a henv
          replace hst := (hst.call hb).addZ hz125 ⟨nou_bk rfl, nou_bk rfl, nou_bk rfl, nou_bk rfl, trivial⟩
          clear hz125
          clear hb
          refine ⟨.inr ⟨hst.kn.pick [2, 3] (rg 2 4), .inr (hst.kn.pick [] [])⟩, ?_⟩
          refine sAny_one (i := 6) (by kernel_rfl) rfl rfl (op_store (k := 0) (c' := #[.bool (neg (qn x)), .slice A68 (zl (qn x)) c69]) henv hst (ty_anvil_integer_Int.size) rfl rfl rfl rfl (by simp) rfl rfl ?_)
          clear henv hst a; intro a w128 henv hst
          refine ⟨.inr ⟨hst.kn.pick [2, 3] (rg 2 4), .inl rfl⟩, ?_⟩
          refine sAny_one (i := 7) (by kernel_rfl) rfl rfl (op_store (k := 1) (c' := #[.bool (neg (qd x)), .slice A123 (zl (qd x)) c124]) henv hst (ty_anvil_integer_Int.size) rfl rfl rfl rfl (by simp) rfl rfl ?_)
          clear henv hst a; intro a w129 henv hst
          refine ⟨.inr ⟨hst.kn.pick [2, 3] (rg 2 4), .inl rfl⟩, ?_⟩
          refine sAny_done (by kernel_rfl) ?_ _
          exact th_n ⟨A68, c69, A123, c124, g121, g110, henv.sub ⟨rfl, rfl, rfl, rfl, rfl, rfl, rfl, rfl, rfl, rfl, rfl, rfl, rfl, rfl, rfl, rfl, rfl, rfl, rfl, rfl, rfl, rfl, rfl, rfl, rfl, trivial⟩, hst.pick [1, 0, 2, 3] [0, 1, 2, 3, 4, 5] (by decide)⟩
    · refine ⟨_, rfl, rfl, op_alloc (c := #[.bool (neg 0), .slice none (zl 0) 0]) henv hst rfl zero_anvil_integer_Int zcells ?_⟩
      clear henv hst a; intro a w131 g130 henv hst
      refine ⟨.inr ⟨hst.kn.pick [1, 2] (rg 0 4), .inr (hst.kn.pick [] [])⟩, ?_⟩
      refine sAny_all (rs := [1, 5]) (by kernel_rfl) (by simp) ?_
      simp only [List.forall_mem_cons, List.not_mem_nil, false_implies, implies_true, and_true]
      refine ⟨?_, ?_⟩
      · have hs135 := sx.n
        refine ⟨_, rfl, rfl, op_call henv rfl Tryd.call88 rfl (num_q (x := x) (show ZIn _ A54 c55 (qn x) from hst.pat (k := 3) rfl) (show ZIn _ B56 d57 (ql x) from hst.pat (k := 2) rfl)) ?_⟩
        rintro e w136 ⟨_, rfl, ⟨A132, c133, rfl, hz134⟩, hb⟩
        refine ⟨_, rfl, ?_⟩
        clear henv a; intro a henv
        replace hst := (hst.call hb).addZ hz134 ⟨nou_bk rfl, nou_bk rfl, nou_bk rfl, trivial⟩
        clear hz134
        clear hb
        refine ⟨.inr ⟨hst.kn.pick [1, 2] (rg 1 4), .inr (hst.kn.pick [] [])⟩, ?_⟩
        refine sAny_all (rs := [3, 5]) (by kernel_rfl) (by simp) ?_
        simp only [List.forall_mem_cons, List.not_mem_nil, false_implies, implies_true, and_true]
        refine ⟨?_, ?_⟩
        · have hs140 := sx.d
          refine ⟨_, rfl, rfl, op_call henv rfl Tryd.call89 rfl (den_q (x := x) (show ZIn _ A54 c55 (qn x) from hst.pat (k := 4) rfl) (show ZIn _ B56 d57 (ql x) from hst.pat (k := 3) rfl) sx (by omega)) ?_⟩
          rintro e w141 ⟨_, rfl, ⟨A137, c138, rfl, hz139⟩, hb⟩
          refine ⟨_, rfl, ?_⟩
          clear henv a; intro a henv
          replace hst := (hst.call hb).addZ hz139 ⟨nou_bk rfl, nou_bk rfl, nou_bk rfl, trivial⟩
          clear hz139
          clear hb
          refine ⟨.inr ⟨hst.kn.pick [1, 2] (rg 2 4), .inr (hst.kn.pick [] [])⟩, ?_⟩
          refine sAny_one (i := 5) (by kernel_rfl) rfl rfl (op_alloc (c := #[.bool (neg 0), .slice none (zl 0) 0]) henv hst rfl zero_anvil_integer_Int zcells ?_)
          clear henv hst a; intro a w143 g142 henv hst
          refine ⟨.inr ⟨hst.kn.pick [2, 3] (rg 2 4), .inr (hst.kn.pick [] [])⟩, ?_⟩
          refine sAny_one (i := 6) (by kernel_rfl) rfl rfl (op_store (k := 1) (c' := #[.bool (neg (qn x)), .slice A132 (zl (qn x)) c133]) henv hst (ty_anvil_integer_Int.size) rfl rfl rfl rfl (by simp) rfl rfl ?_)
          clear henv hst a; intro a w144 henv hst
          refine ⟨.inr ⟨hst.kn.pick [2, 3] (rg 2 4), .inl rfl⟩, ?_⟩
          refine sAny_one (i := 7) (by kernel_rfl) rfl rfl (op_store (k := 0) (c' := #[.bool (neg (qd x)), .slice A137 (zl (qd x)) c138]) henv hst (ty_anvil_integer_Int.size) rfl rfl rfl rfl (by simp) rfl rfl ?_)
          clear henv hst a; intro a w145 henv hst
          refine ⟨.inr ⟨hst.kn.pick [2, 3] (rg 2 4), .inl rfl⟩, ?_⟩
          refine sAny_done (by kernel_rfl) ?_ _
          exact th_n ⟨A132, c133, A137, c138, g130, g142, henv.sub ⟨rfl, rfl, rfl, rfl, rfl, rfl, rfl, rfl, rfl, rfl, rfl, rfl, rfl, rfl, rfl, rfl, rfl, rfl, rfl, rfl, rfl, rfl, rfl, rfl, rfl, trivial⟩, hst.pick [0, 1, 2, 3] [0, 1, 2, 3, 4, 5] (by decide)⟩
        · refine ⟨_, rfl, rfl, op_alloc (c := #[.bool (neg 0), .slice none (zl 0) 0]) henv hst rfl zero_anvil_integer_Int zcells ?_⟩
          clear henv hst a; intro a w147 g146 henv hst
          refine ⟨.inr ⟨hst.kn.pick [2, 3] (rg 1 4), .inr (hst.kn.pick [] [])⟩, ?_⟩
          have hs151 := sx.d
          refine sAny_one (i := 3) (by kernel_rfl) rfl rfl (op_call henv rfl Tryd.call89 rfl (den_q (x := x) (show ZIn _ A54 c55 (qn x) from hst.pat (k := 4) rfl) (show ZIn _ B56 d57 (ql x) from hst.pat (k := 3) rfl) sx (by omega)) ?_)
          rintro e w152 ⟨_, rfl, ⟨A148, c149, rfl, hz150⟩, hb⟩
          refine ⟨_, rfl, ?_⟩
          clear henv a; intro a henv
          replace hst := (hst.call hb).addZ hz150 ⟨nou_bk rfl, nou_bk rfl, nou_bk rfl, nou_bk rfl, trivial⟩
          clear hz150
          clear hb
          refine ⟨.inr ⟨hst.kn.pick [2, 3] (rg 2 4), .inr (hst.kn.pick [] [])⟩, ?_⟩
          refine sAny_one (i := 6) (by kernel_rfl) rfl rfl (op_store (k := 1) (c' := #[.bool (neg (qn x)), .slice A132 (zl (qn x)) c133]) henv hst (ty_anvil_integer_Int.size) rfl rfl rfl rfl (by simp) rfl rfl ?_)
          clear henv hst a; intro a w153 henv hst
          refine ⟨.inr ⟨hst.kn.pick [2, 3] (rg 2 4), .inl rfl⟩, ?_⟩
          refine sAny_one (i := 7) (by kernel_rfl) rfl rfl (op_store (k := 0) (c' := #[.bool (neg (qd x)), .slice A148 (zl (qd x)) c149]) henv hst (ty_anvil_integer_Int.size) rfl rfl rfl rfl (by simp) rfl rfl ?_)
          clear henv hst a; intro a w154 henv hst
          refine ⟨.inr ⟨hst.kn.pick [2, 3] (rg 2 4), .inl rfl⟩, ?_⟩
          refine sAny_done (by kernel_rfl) ?_ _
          exact th_n ⟨A132, c133, A148, c149, g130, g146, henv.sub ⟨rfl, rfl, rfl, rfl, rfl, rfl, rfl, rfl, rfl, rfl, rfl, rfl, rfl, rfl, rfl, rfl, rfl, rfl, rfl, rfl, rfl, rfl, rfl, rfl, rfl, trivial⟩, hst.pick [0, 1, 2, 3] [0, 1, 2, 3, 4, 5] (by decide)⟩
      · refine ⟨_, rfl, rfl, op_alloc (c := #[.bool (neg 0), .slice none (zl 0) 0]) henv hst rfl zero_anvil_integer_Int zcells ?_⟩
        clear henv hst a; intro a w156 g155 henv hst
        refine ⟨.inr ⟨hst.kn.pick [2, 3] (rg 0 4), .inr (hst.kn.pick [] [])⟩, ?_⟩
        have hs160 := sx.n
        refine sAny_one (i := 1) (by kernel_rfl) rfl rfl (op_call henv rfl Tryd.call88 rfl (num_q (x := x) (show ZIn _ A54 c55 (qn x) from hst.pat (k := 3) rfl) (show ZIn _ B56 d57 (ql x) from hst.pat (k := 2) rfl)) ?_)
        rintro e w161 ⟨_, rfl, ⟨A157, c158, rfl, hz159⟩, hb⟩
        refine ⟨_, rfl, ?_⟩
        clear henv a; intro a henv
        replace hst := (hst.call hb).addZ hz159 ⟨nou_bk rfl, nou_bk rfl, nou_bk rfl, nou_bk rfl, trivial⟩
        clear hz159
        clear hb
        refine ⟨.inr ⟨hst.kn.pick [2, 3] (rg 1 4), .inr (hst.kn.pick [] [])⟩, ?_⟩
        have hs165 := sx.d
        refine sAny_one (i := 3) (by kernel_rfl) rfl rfl (op_call henv rfl Tryd.call89 rfl (den_q (x := x) (show ZIn _ A54 c55 (qn x) from hst.pat (k := 4) rfl) (show ZIn _ B56 d57 (ql x) from hst.pat (k := 3) rfl) sx (by omega)) ?_)
        rintro e w166 ⟨_, rfl, ⟨A162, c163, rfl, hz164⟩, hb⟩
        refine ⟨_, rfl, ?_⟩
        clear henv a; intro a henv
        replace hst := (hst.call hb).addZ hz164 ⟨nou_bk rfl, nou_bk rfl, nou_bk rfl, nou_bk rfl, trivial⟩
        clear hz164
        clear hb
        refine ⟨.inr ⟨hst.kn.pick [2, 3] (rg 2 4), .inr (hst.kn.pick [] [])⟩, ?_⟩
        refine sAny_one (i := 6) (by kernel_rfl) rfl rfl (op_store (k := 1) (c' := #[.bool (neg (qn x)), .slice A157 (zl (qn x)) c158]) henv hst (ty_anvil_integer_Int.size) rfl rfl rfl rfl (by simp) rfl rfl ?_)
        clear henv hst a; intro a w167 henv hst
        refine ⟨.inr ⟨hst.kn.pick [2, 3] (rg 2 4), .inl rfl⟩, ?_⟩
        refine sAny_one (i := 7) (by kernel_rfl) rfl rfl (op_store (k := 0) (c' := #[.bool (neg (qd x)), .slice A162 (zl (qd x)) c163]) henv hst (ty_anvil_integer_Int.size) rfl rfl rfl rfl (by simp) rfl rfl ?_)
        clear henv hst a; intro a w168 henv hst
        refine ⟨.inr ⟨hst.kn.pick [2, 3] (rg 2 4), .inl rfl⟩, ?_⟩
        refine sAny_done (by kernel_rfl) ?_ _
        exact th_n ⟨A157, c158, A162, c163, g130, g155, henv.sub ⟨rfl, rfl, rfl, rfl, rfl, rfl, rfl, rfl, rfl, rfl, rfl, rfl, rfl, rfl, rfl, rfl, rfl, rfl, rfl, rfl, rfl, rfl, rfl, rfl, rfl, trivial⟩, hst.pick [0, 1, 2, 3] [0, 1, 2, 3, 4, 5] (by decide)⟩
    · refine ⟨_, rfl, rfl, op_alloc (c := #[.bool (neg 0), .slice none (zl 0) 0]) henv hst rfl zero_anvil_integer_Int zcells ?_⟩
      clear henv hst a; intro a w170 g169 henv hst
      refine ⟨.inr ⟨hst.kn.pick [1, 2] (rg 0 4), .inr (hst.kn.pick [] [])⟩, ?_⟩
      refine sAny_all (rs := [1, 4]) (by kernel_rfl) (by simp) ?_
      simp only [List.forall_mem_cons, List.not_mem_nil, false_implies, implies_true, and_true]
      refine ⟨?_, ?_⟩
      · have hs174 := sx.n
        refine ⟨_, rfl, rfl, op_call henv rfl Tryd.call88 rfl (num_q (x := x) (show ZIn _ A54 c55 (qn x) from hst.pat (k := 3) rfl) (show ZIn _ B56 d57 (ql x) from hst.pat (k := 2) rfl)) ?_⟩
        rintro e w175 ⟨_, rfl, ⟨A171, c172, rfl, hz173⟩, hb⟩
        refine ⟨_, rfl, ?_⟩
        clear henv a; intro a henv
        replace hst := (hst.call hb).addZ hz173 ⟨nou_bk rfl, nou_bk rfl, nou_bk rfl, trivial⟩
        clear hz173
        clear hb
        refine ⟨.inr ⟨hst.kn.pick [1, 2] (rg 1 4), .inr (hst.kn.pick [] [])⟩, ?_⟩
        refine sAny_all (rs := [3, 4]) (by kernel_rfl) (by simp) ?_
        simp only [List.forall_mem_cons, List.not_mem_nil, false_implies, implies_true, and_true]
        refine ⟨?_, ?_⟩
        · have hs179 := sx.d
          refine ⟨_, rfl, rfl, op_call henv rfl Tryd.call89 rfl (den_q (x := x) (show ZIn _ A54 c55 (qn x) from hst.pat (k := 4) rfl) (show ZIn _ B56 d57 (ql x) from hst.pat (k := 3) rfl) sx (by omega)) ?_⟩
          rintro e w180 ⟨_, rfl, ⟨A176, c177, rfl, hz178⟩, hb⟩
          refine ⟨_, rfl, ?_⟩
          clear henv a; intro a henv
          replace hst := (hst.call hb).addZ hz178 ⟨nou_bk rfl, nou_bk rfl, nou_bk rfl, trivial⟩
          clear hz178
          clear hb
          refine ⟨.inr ⟨hst.kn.pick [1, 2] (rg 2 4), .inr (hst.kn.pick [] [])⟩, ?_⟩
          refine sAny_one (i := 4) (by kernel_rfl) rfl rfl (op_alloc (c := #[.bool (neg 0), .slice none (zl 0) 0]) henv hst rfl zero_anvil_integer_Int zcells ?_)
          clear henv hst a; intro a w182 g181 henv hst
          refine ⟨.inr ⟨hst.kn.pick [2, 3] (rg 2 4), .inr (hst.kn.pick [] [])⟩, ?_⟩
          refine sAny_one (i := 6) (by kernel_rfl) rfl rfl (op_store (k := 0) (c' := #[.bool (neg (qn x)), .slice A171 (zl (qn x)) c172]) henv hst (ty_anvil_integer_Int.size) rfl rfl rfl rfl (by simp) rfl rfl ?_)
          clear henv hst a; intro a w183 henv hst
          refine ⟨.inr ⟨hst.kn.pick [2, 3] (rg 2 4), .inl rfl⟩, ?_⟩
          refine sAny_one (i := 7) (by kernel_rfl) rfl rfl (op_store (k := 1) (c' := #[.bool (neg (qd x)), .slice A176 (zl (qd x)) c177]) henv hst (ty_anvil_integer_Int.size) rfl rfl rfl rfl (by simp) rfl rfl ?_)
          clear henv hst a; intro a w184 henv hst
          refine ⟨.inr ⟨hst.kn.pick [2, 3] (rg 2 4), .inl rfl⟩, ?_⟩
          refine sAny_done (by kernel_rfl) ?_ _
          exact th_n ⟨A171, c172, A176, c177, g181, g169, henv.sub ⟨rfl, rfl, rfl, rfl, rfl, rfl, rfl, rfl, rfl, rfl, rfl, rfl, rfl, rfl, rfl, rfl, rfl, rfl, rfl, rfl, rfl, rfl, rfl, rfl, rfl, trivial⟩, hst.pick [1, 0, 2, 3] [0, 1, 2, 3, 4, 5] (by decide)⟩
        · refine ⟨_, rfl, rfl, op_alloc (c := #[.bool (neg 0), .slice none (zl 0) 0]) henv hst rfl zero_anvil_integer_Int zcells ?_⟩
          clear henv hst a; intro a w186 g185 henv hst
          refine ⟨.inr ⟨hst.kn.pick [2, 3] (rg 1 4), .inr (hst.kn.pick [] [])⟩, ?_⟩
          have hs190 := sx.d
          refine sAny_one (i := 3) (by kernel_rfl) rfl rfl (op_call henv rfl Tryd.call89 rfl (den_q (x := x) (show ZIn _ A54 c55 (qn x) from hst.pat (k := 4) rfl) (show ZIn _ B56 d57 (ql x) from hst.pat (k := 3) rfl) sx (by omega)) ?_)
          rintro e w191 ⟨_, rfl, ⟨A187, c188, rfl, hz189⟩, hb⟩
          refine ⟨_, rfl, ?_⟩
          clear henv a; intro a henv
          replace hst := (hst.call hb).addZ hz189 ⟨nou_bk rfl, nou_bk rfl, nou_bk rfl, nou_bk rfl, trivial⟩
          clear hz189
          clear hb
          refine ⟨.inr ⟨hst.kn.pick [2, 3] (rg 2 4), .inr (hst.kn.pick [] [])⟩, ?_⟩
          refine sAny_one (i := 6) (by kernel_rfl) rfl rfl (op_store (k := 0) (c' := #[.bool (neg (qn x)), .slice A171 (zl (qn x)) c172]) henv hst (ty_anvil_integer_Int.size) rfl rfl rfl rfl (by simp) rfl rfl ?_)
          clear henv hst a; intro a w192 henv hst
          refine ⟨.inr ⟨hst.kn.pick [2, 3] (rg 2 4), .inl rfl⟩, ?_⟩
          refine sAny_one (i := 7) (by kernel_rfl) rfl rfl (op_store (k := 1) (c' := #[.bool (neg (qd x)), .slice A187 (zl (qd x)) c188]) henv hst (ty_anvil_integer_Int.size) rfl rfl rfl rfl (by simp) rfl rfl ?_)
          clear henv hst a; intro a w193 henv hst
          refine ⟨.inr ⟨hst.kn.pick [2, 3] (rg 2 4), .inl rfl⟩, ?_⟩
          refine sAny_done (by kernel_rfl) ?_ _
          exact th_n ⟨A171, c172, A187, c188, g185, g169, henv.sub ⟨rfl, rfl, rfl, rfl, rfl, rfl, rfl, rfl, rfl, rfl, rfl, rfl, rfl, rfl, rfl, rfl, rfl, rfl, rfl, rfl, rfl, rfl, rfl, rfl, rfl, trivial⟩, hst.pick [1, 0, 2, 3] [0, 1, 2, 3, 4, 5] (by decide)⟩
      · refine ⟨_, rfl, rfl, op_alloc (c := #[.bool (neg 0), .slice none (zl 0) 0]) henv hst rfl zero_anvil_integer_Int zcells ?_⟩
        clear henv hst a; intro a w195 g194 henv hst
        refine ⟨.inr ⟨hst.kn.pick [2, 3] (rg 0 4), .inr (hst.kn.pick [] [])⟩, ?_⟩
        have hs199 := sx.n
        refine sAny_one (i := 1) (by kernel_rfl) rfl rfl (op_call henv rfl Tryd.call88 rfl (num_q (x := x) (show ZIn _ A54 c55 (qn x) from hst.pat (k := 3) rfl) (show ZIn _ B56 d57 (ql x) from hst.pat (k := 2) rfl)) ?_)
        rintro e w200 ⟨_, rfl, ⟨A196, c197, rfl, hz198⟩, hb⟩
        refine ⟨_, rfl, ?_⟩
        clear henv a; intro a henv
        replace hst := (hst.call hb).addZ hz198 ⟨nou_bk rfl, nou_bk rfl, nou_bk rfl, nou_bk rfl, trivial⟩
        clear hz198
        clear hb
        refine ⟨.inr ⟨hst.kn.pick [2, 3] (rg 1 4), .inr (hst.kn.pick [] [])⟩, ?_⟩
        have hs204 := sx.d
        refine sAny_one (i := 3) (by kernel_rfl) rfl rfl (op_call henv rfl Tryd.call89 rfl (den_q (x := x) (show ZIn _ A54 c55 (qn x) from hst.pat (k := 4) rfl) (show ZIn _ B56 d57 (ql x) from hst.pat (k := 3) rfl) sx (by omega)) ?_)
        rintro e w205 ⟨_, rfl, ⟨A201, c202, rfl, hz203⟩, hb⟩
        refine ⟨_, rfl, ?_⟩
        clear henv a; intro a henv
        replace hst := (hst.call hb).addZ hz203 ⟨nou_bk rfl, nou_bk rfl, nou_bk rfl, nou_bk rfl, trivial⟩
        clear hz203
        clear hb
        refine ⟨.inr ⟨hst.kn.pick [2, 3] (rg 2 4), .inr (hst.kn.pick [] [])⟩, ?_⟩
        refine sAny_one (i := 6) (by kernel_rfl) rfl rfl (op_store (k := 0) (c' := #[.bool (neg (qn x)), .slice A196 (zl (qn x)) c197]) henv hst (ty_anvil_integer_Int.size) rfl rfl rfl rfl (by simp) rfl rfl ?_)
        clear henv hst a; intro a w206 henv hst
        refine ⟨.inr ⟨hst.kn.pick [2, 3] (rg 2 4), .inl rfl⟩, ?_⟩
        refine sAny_one (i := 7) (by kernel_rfl) rfl rfl (op_store (k := 1) (c' := #[.bool (neg (qd x)), .slice A201 (zl (qd x)) c202]) henv hst (ty_anvil_integer_Int.size) rfl rfl rfl rfl (by simp) rfl rfl ?_)
        clear henv hst a; intro a w207 henv hst
        refine ⟨.inr ⟨hst.kn.pick [2, 3] (rg 2 4), .inl rfl⟩, ?_⟩
        refine sAny_done (by kernel_rfl) ?_ _
        exact th_n ⟨A196, c197, A201, c202, g194, g169, henv.sub ⟨rfl, rfl, rfl, rfl, rfl, rfl, rfl, rfl, rfl, rfl, rfl, rfl, rfl, rfl, rfl, rfl, rfl, rfl, rfl, rfl, rfl, rfl, rfl, rfl, rfl, trivial⟩, hst.pick [1, 0, 2, 3] [0, 1, 2, 3, 4, 5] (by decide)⟩
  clear henv hst a
  rintro a w208 ⟨A68, c69, A73, c74, g78, g80, henv, hst⟩
  refine wp_seq ?_
  refine region_seq ?_
  revert a
  refine sA (v := .agg #[.bool (neg (qn x)), .slice A68 (zl (qn x)) c69]) rfl (fun _ henv => rn_load0 henv ty_anvil_integer_Int rfl (hst.oat (k := 1) rfl) rfl) ?_
  refine sA (v := .agg #[.bool (neg (qd x)), .slice A73 (zl (qd x)) c74]) rfl (fun _ henv => rn_load0 henv ty_anvil_integer_Int rfl (hst.oat (k := 0) rfl) rfl) ?_
  intro a henv
  refine seq_step rfl (op_call henv rfl Tryd.call90 rfl (make_qr (p := (qn x)) (q := (qd x)) (r := x) (show ZIn _ A68 c69 (qn x) from hst.pat (k := 1) rfl) (show ZIn _ A73 c74 (qd x) from hst.pat (k := 0) rfl) (by omega) (by omega) (qd_ne x) (q_self x)) ?_)
  rintro e w215 ⟨_, rfl, ⟨A209, c210, B211, d212, rfl, hz213, hz214⟩, hb⟩
  refine ⟨_, rfl, ?_⟩
  clear henv a; intro a henv
  replace hst := ((hst.call hb).addZ hz213 ⟨nou_bk rfl, nou_bk rfl, nou_bk rfl, nou_bk rfl, trivial⟩).addZ hz214 ⟨nou_bk rfl, nou_bk rfl, nou_bk rfl, nou_bk rfl, trivial⟩
  clear hz213 hz214
  clear hb
  revert a
  refine mA rfl rfl ?_
  refine sA (v := .agg #[.bool (neg (qn x)), .slice A209 (zl (qn x)) c210, .bool (neg (ql x)), .slice B211 (zl (ql x)) d212]) rfl (fun _ henv => rn_extract henv rfl rfl) ?_
  refine sA (v := .int .i64 0) rfl (fun _ henv => rn_extract henv rfl rfl) ?_
  intro a henv
  refine seq_step rfl (op_alloc (c := #[.bool (neg (qn 0)), .slice none (zl (qn 0)) 0, .bool (neg (ql 0)), .slice none (zl (ql 0)) 0]) henv hst rfl zero_anvil_ratio_Rat qcells ?_)
  clear henv hst a; intro a w217 g216 henv hst
  refine seq_step rfl (op_store (k := 0) (c' := #[.bool (neg (qn x)), .slice A209 (zl (qn x)) c210, .bool (neg (ql x)), .slice B211 (zl (ql x)) d212]) henv hst (ty_anvil_ratio_Rat.size) rfl rfl rfl rfl (by simp) rfl rfl ?_)
  clear henv hst a; intro a w218 henv hst
  refine sv (v := .int .i64 0) henv rfl (rn_assign henv rfl) ?_
  clear henv a; intro a henv
  refine wpList_nil ?_
  refine th_n ?_
  refine wp_seq ?_
  refine region_seq ?_
  refine sv (v := .agg #[.bool (neg (qn x)), .slice A54 (zl (qn x)) c55, .bool (neg (ql x)), .slice B56 (zl (ql x)) d57]) henv rfl (rn_load0 henv ty_anvil_ratio_Rat rfl (hst.oat (k := 3) rfl) rfl) ?_
  clear henv a; intro a henv
  refine seq_step rfl (op_call henv rfl Tryd.call92 rfl (text_q (x := x) (show ZIn _ A54 c55 (qn x) from hst.pat (k := 7) rfl) (show ZIn _ B56 d57 (ql x) from hst.pat (k := 6) rfl) sx (by omega)) ?_)
  rintro e w219 ⟨rfl, hb⟩
  refine ⟨_, rfl, ?_⟩
  clear henv a; intro a henv
  replace hst := hst.call hb
  clear hb
  refine seq_step rfl (op_call henv rfl Tryd.call91 rfl (q_read_ok (r := x) rfl htx) ?_)
  rintro e w226 ⟨_, rfl, ⟨A220, c221, B222, d223, rfl, hz224, hz225⟩, hb⟩
  refine ⟨_, rfl, ?_⟩
  clear henv a; intro a henv
  replace hst := ((hst.call hb).addZ hz224 ⟨nou_bk rfl, nou_bk rfl, nou_bk rfl, nou_bk rfl, nou_bk rfl, trivial⟩).addZ hz225 ⟨nou_bk rfl, nou_bk rfl, nou_bk rfl, nou_bk rfl, nou_bk rfl, trivial⟩
  clear hz224 hz225
  clear hb
  revert a
  refine mA rfl rfl ?_
  refine sA (v := .agg #[.bool (neg (qn x)), .slice A220 (zl (qn x)) c221, .bool (neg (ql x)), .slice B222 (zl (ql x)) d223]) rfl (fun _ henv => rn_extract henv rfl rfl) ?_
  refine sA (v := .agg #[.int .i64 0, .int .i64 0]) rfl (fun _ henv => rn_extract henv rfl rfl) ?_
  intro a henv
  refine seq_step rfl (op_alloc (c := #[.bool (neg (qn 0)), .slice none (zl (qn 0)) 0, .bool (neg (ql 0)), .slice none (zl (ql 0)) 0]) henv hst rfl zero_anvil_ratio_Rat qcells ?_)
  clear henv hst a; intro a w228 g227 henv hst
  refine seq_step rfl (op_alloc (c := #[.int .i64 0, .int .i64 0]) henv hst rfl zero_anvil_api_Spot rfl ?_)
  clear henv hst a; intro a w230 g229 henv hst
  refine seq_step rfl (op_store (k := 1) (c' := #[.bool (neg (qn x)), .slice A220 (zl (qn x)) c221, .bool (neg (ql x)), .slice B222 (zl (ql x)) d223]) henv hst (ty_anvil_ratio_Rat.size) rfl rfl rfl rfl (by simp) rfl rfl ?_)
  clear henv hst a; intro a w231 henv hst
  refine seq_step rfl (op_store (k := 0) (c' := #[.int .i64 0, .int .i64 0]) henv hst (ty_anvil_api_Spot.size) rfl rfl rfl rfl (by simp) rfl rfl ?_)
  clear henv hst a; intro a w232 henv hst
  refine wpList_nil ?_
  refine th_n ?_
  refine wp_seq ?_
  refine wp_seq ?_
  refine region_seq ?_
  refine sv (v := .agg #[.bool (neg (qd x)), .slice A73 (zl (qd x)) c74]) henv rfl (rn_load0 henv ty_anvil_integer_Int rfl (hst.oat (k := 3) rfl) rfl) ?_
  clear henv a; intro a henv
  refine seq_step rfl (op_call henv rfl Tryd.call31 rfl (sign_z (z := (qd x))) ?_)
  rintro e w233 ⟨rfl, hb⟩
  refine ⟨_, rfl, ?_⟩
  clear henv a; intro a henv
  replace hst := hst.call hb
  clear hb
  refine sv (v := .bool (decide ((qd x).sign ≤ (0 : Int)))) henv rfl (rn_bin henv rfl rfl rfl) ?_
  clear henv a; intro a henv
  rw [show (decide ((qd x).sign ≤ (0 : Int))) = false from (decide_eq_false (by have := Int.sign_eq_one_of_pos (qd_pos x); omega))] at henv
  revert a
  refine mA rfl rfl ?_
  refine gA (v := .agg #[.bool (neg (qn x)), .slice A68 (zl (qn x)) c69]) rfl rfl rfl rfl (fun _ henv => rn_load0 henv ty_anvil_integer_Int rfl (hst.oat (k := 4) rfl) rfl) ?_
  refine gA (v := .agg #[.bool (neg (qd x)), .slice A73 (zl (qd x)) c74]) rfl rfl rfl rfl (fun _ henv => rn_load0 henv ty_anvil_integer_Int rfl (hst.oat (k := 3) rfl) rfl) ?_
  intro a henv
  have hs234 := gcd_zq (qn x) (qd x)
  refine seq_g rfl henv rfl rfl (op_call henv rfl Tryd.call93 rfl (gcd_z (x := (qn x)) (y := (qd x)) (show ZIn _ A68 c69 (qn x) from hst.pat (k := 5) rfl) (show ZIn _ A73 c74 (qd x) from hst.pat (k := 4) rfl) (by omega) (by omega)) ?_)
  rintro e w238 ⟨_, rfl, ⟨A235, c236, rfl, hz237⟩, hb⟩
  refine ⟨_, rfl, ?_⟩
  clear henv a; intro a henv
  replace hst := (hst.call hb).addZ hz237 ⟨nou_bk rfl, nou_bk rfl, nou_bk rfl, nou_bk rfl, nou_bk rfl, nou_bk rfl, nou_bk rfl, trivial⟩
  clear hz237
  clear hb
  refine seq_g rfl henv rfl rfl (op_call henv rfl Tryd.call43 rfl (of_z (n := (1 : Int)) (by omega) (by omega)) ?_)
  rintro e w242 ⟨_, rfl, ⟨A239, c240, rfl, hz241⟩, hb⟩
  refine ⟨_, rfl, ?_⟩
  clear henv a; intro a henv
  replace hst := (hst.call hb).addZ hz241 ⟨nou_bk rfl, nou_bk rfl, nou_bk rfl, nou_bk rfl, nou_bk rfl, nou_bk rfl, nou_bk rfl, trivial⟩
  clear hz241
  clear hb
  refine seq_g rfl henv rfl rfl (op_call henv rfl Tryd.call42 rfl (cmp_z (x := ((Int.gcd (qn x) (qd x) : Nat) : Int)) (y := 1) (show ZIn _ A235 c236 ((Int.gcd (qn x) (qd x) : Nat) : Int) from hst.pat (k := 1) rfl) (show ZIn _ A239 c240 1 from hst.pat (k := 0) rfl)) ?_)
  rintro e w243 ⟨rfl, hb⟩
  refine ⟨_, rfl, ?_⟩
  clear henv a; intro a henv
  replace hst := hst.call hb
  clear hb
  refine seq_g rfl henv rfl rfl (op_val (v := .bool ((((Int.gcd (qn x) (qd x) : Nat) : Int) - 1).sign != (0 : Int))) henv rfl (rn_bin henv rfl rfl rfl) ?_)
  clear henv a; intro a henv
  rw [show ((((Int.gcd (qn x) (qd x) : Nat) : Int) - 1).sign != (0 : Int)) = false from (gcd_one0 x)] at henv
  revert a
  refine sA (v := .bool false) rfl (fun _ henv => rn_pick henv rfl rfl) ?_
  refine mA rfl rfl ?_
  refine gA (v := .int .i64 0) rfl rfl rfl rfl (fun _ henv => rn_move henv rfl) ?_
  refine gA (v := .bool false) rfl rfl rfl rfl (fun _ henv => rn_bin henv rfl rfl rfl) ?_
  refine sA (v := .bool false) rfl (fun _ henv => rn_pick henv rfl rfl) ?_
  refine mA rfl rfl ?_
  refine gA (v := .agg #[.bool (neg (qn x)), .slice A54 (zl (qn x)) c55, .bool (neg (ql x)), .slice B56 (zl (ql x)) d57]) rfl rfl rfl rfl (fun _ henv => rn_load0 henv ty_anvil_ratio_Rat rfl (hst.oat (k := 5) rfl) rfl) ?_
  refine gA (v := .agg #[.bool (neg (qn x)), .slice A209 (zl (qn x)) c210, .bool (neg (ql x)), .slice B211 (zl (ql x)) d212]) rfl rfl rfl rfl (fun _ henv => rn_load0 henv ty_anvil_ratio_Rat rfl (hst.oat (k := 2) rfl) rfl) ?_
  intro a henv
  refine seq_g rfl henv rfl rfl (op_call henv rfl Tryd.call57 rfl (same_q (x := x) (y := x) (show ZIn _ A54 c55 (qn x) from hst.pat (k := 11) rfl) (show ZIn _ B56 d57 (ql x) from hst.pat (k := 10) rfl) (show ZIn _ A209 c210 (qn x) from hst.pat (k := 5) rfl) (show ZIn _ B211 d212 (ql x) from hst.pat (k := 4) rfl) sx sx (by omega)) ?_)
  rintro e w244 ⟨rfl, hb⟩
  refine ⟨_, rfl, ?_⟩
  clear henv a; intro a henv
  replace hst := hst.call hb
  clear hb
  rw [show (decide (x = x)) = true from (decide_eq_true rfl)] at henv
  revert a
  refine gA (v := .bool false) rfl rfl rfl rfl (fun _ henv => rn_un henv rfl rfl) ?_
  refine sA (v := .bool false) rfl (fun _ henv => rn_pick henv rfl rfl) ?_
  refine mA rfl rfl ?_
  refine gA (v := .agg #[.int .i64 0, .int .i64 0]) rfl rfl rfl rfl (fun _ henv => rn_load0 henv ty_anvil_api_Spot rfl (hst.oat (k := 0) rfl) rfl) ?_
  refine gA (v := .agg #[.int .i64 0, .int .i64 0]) rfl rfl rfl rfl (fun _ henv => rn_spot0) ?_
  refine gA (v := .bool (!decide ([(0 : Int), (0 : Int)] = [(0 : Int), (0 : Int)]))) rfl rfl rfl rfl (fun _ henv => rn_neqI [(0 : Int), (0 : Int)] [(0 : Int), (0 : Int)] henv spotI rfl rfl rfl rfl) ?_
  intro a henv
  rw [show (!decide ([(0 : Int), (0 : Int)] = [(0 : Int), (0 : Int)])) = false from (by decide)] at henv
  revert a
  refine sA (v := .bool false) rfl (fun _ henv => rn_pick henv rfl rfl) ?_
  refine mA rfl rfl ?_
  refine gA (v := .agg #[.bool (neg (qn x)), .slice A54 (zl (qn x)) c55, .bool (neg (ql x)), .slice B56 (zl (ql x)) d57]) rfl rfl rfl rfl (fun _ henv => rn_load0 henv ty_anvil_ratio_Rat rfl (hst.oat (k := 5) rfl) rfl) ?_
  refine gA (v := .agg #[.bool (neg (qn x)), .slice A220 (zl (qn x)) c221, .bool (neg (ql x)), .slice B222 (zl (ql x)) d223]) rfl rfl rfl rfl (fun _ henv => rn_load0 henv ty_anvil_ratio_Rat rfl (hst.oat (k := 1) rfl) rfl) ?_
  intro a henv
  refine seq_g rfl henv rfl rfl (op_call henv rfl Tryd.call57 rfl (same_q (x := x) (y := x) (show ZIn _ A54 c55 (qn x) from hst.pat (k := 11) rfl) (show ZIn _ B56 d57 (ql x) from hst.pat (k := 10) rfl) (show ZIn _ A220 c221 (qn x) from hst.pat (k := 3) rfl) (show ZIn _ B222 d223 (ql x) from hst.pat (k := 2) rfl) sx sx (by omega)) ?_)
  rintro e w245 ⟨rfl, hb⟩
  refine ⟨_, rfl, ?_⟩
  clear henv a; intro a henv
  replace hst := hst.call hb
  clear hb
  rw [show (decide (x = x)) = true from (decide_eq_true rfl)] at henv
  revert a
  refine gA (v := .bool false) rfl rfl rfl rfl (fun _ henv => rn_un henv rfl rfl) ?_
  refine sA (v := .bool false) rfl (fun _ henv => rn_pick henv rfl rfl) ?_
  intro a henv
  refine wpList_nil ?_
  refine th_n ?_
  refine if_f henv rfl (rfl) ?_
  refine wp_skip ?_
  refine th_n ?_
  refine wp_seq ?_
  refine cut (fun a w => ∃ A247 : Option Addr, ∃ c248 : Nat, ∃ A252 : Option Addr, ∃ c253 : Nat, ∃ A256 : Option Addr, ∃ c257 : Nat, ∃ A261 : Option Addr, ∃ c262 : Nat, ∃ g266 : Nat, Env 128 a [(0, .agg #[.string ⟨s.toArray⟩, .string ⟨t.toArray⟩]), (1, .int .i64 tm), (2, .string ⟨u.toArray⟩), (3, .pointer (some ⟨g51, 0, none⟩)), (6, .bool false), (18, .bool true), (19, .bool false), (21, .agg #[.string ⟨s.toArray⟩, .string ⟨t.toArray⟩]), (22, .tuple #[.agg #[.bool (neg (qn x)), .slice A54 (zl (qn x)) c55, .bool (neg (ql x)), .slice B56 (zl (ql x)) d57], .bool true]), (20, .tuple #[.agg #[.bool (neg (qn x)), .slice A54 (zl (qn x)) c55, .bool (neg (ql x)), .slice B56 (zl (ql x)) d57], .bool true]), (23, .agg #[.bool (neg (qn x)), .slice A54 (zl (qn x)) c55, .bool (neg (ql x)), .slice B56 (zl (ql x)) d57]), (24, .bool true), (7, .pointer (some ⟨g61, 0, none⟩)), (8, .bool true), (25, .agg #[.string ⟨s.toArray⟩, .string ⟨t.toArray⟩]), (26, .slice (some ⟨g64, 0, none⟩) 1 1), (27, .bool false), (28, .bool false), (29, .string ⟨u.toArray⟩), (30, .int .i64 (u.length : Nat)), (31, .bool false), (32, .bool false), (33, .bool true), (9, .pointer (some ⟨g78, 0, none⟩)), (10, .pointer (some ⟨g80, 0, none⟩)), (39, .agg #[.bool (neg (qn x)), .slice A68 (zl (qn x)) c69]), (40, .agg #[.bool (neg (qd x)), .slice A73 (zl (qd x)) c74]), (41, .tuple #[.agg #[.bool (neg (qn x)), .slice A209 (zl (qn x)) c210, .bool (neg (ql x)), .slice B211 (zl (ql x)) d212], .int .i64 0]), (38, .tuple #[.agg #[.bool (neg (qn x)), .slice A209 (zl (qn x)) c210, .bool (neg (ql x)), .slice B211 (zl (ql x)) d212], .int .i64 0]), (42, .agg #[.bool (neg (qn x)), .slice A209 (zl (qn x)) c210, .bool (neg (ql x)), .slice B211 (zl (ql x)) d212]), (43, .int .i64 0), (11, .pointer (some ⟨g216, 0, none⟩)), (12, .int .i64 2), (45, .agg #[.bool (neg (qn x)), .slice A54 (zl (qn x)) c55, .bool (neg (ql x)), .slice B56 (zl (ql x)) d57]), (46, .string ⟨(textQ x).toArray⟩), (47, .tuple #[.agg #[.bool (neg (qn x)), .slice A220 (zl (qn x)) c221, .bool (neg (ql x)), .slice B222 (zl (ql x)) d223], .agg #[.int .i64 0, .int .i64 0]]), (44, .tuple #[.agg #[.bool (neg (qn x)), .slice A220 (zl (qn x)) c221, .bool (neg (ql x)), .slice B222 (zl (ql x)) d223], .agg #[.int .i64 0, .int .i64 0]]), (48, .agg #[.bool (neg (qn x)), .slice A220 (zl (qn x)) c221, .bool (neg (ql x)), .slice B222 (zl (ql x)) d223]), (49, .agg #[.int .i64 0, .int .i64 0]), (13, .pointer (some ⟨g227, 0, none⟩)), (14, .pointer (some ⟨g229, 0, none⟩)), (50, .agg #[.bool (neg (qd x)), .slice A73 (zl (qd x)) c74]), (51, .int .i64 ((qd x).sign)), (52, .bool false), (53, .bool false), (54, .agg #[.bool (neg (qn x)), .slice A68 (zl (qn x)) c69]), (55, .agg #[.bool (neg (qd x)), .slice A73 (zl (qd x)) c74]), (56, .agg #[.bool (neg ((Int.gcd (qn x) (qd x) : Nat) : Int)), .slice A235 (zl ((Int.gcd (qn x) (qd x) : Nat) : Int)) c236]), (57, .agg #[.bool (neg 1), .slice A239 (zl 1) c240]), (58, .int .i64 ((((Int.gcd (qn x) (qd x) : Nat) : Int) - 1).sign)), (59, .bool false), (60, .bool false), (61, .bool false), (62, .int .i64 0), (63, .bool false), (64, .bool false), (65, .bool false), (66, .agg #[.bool (neg (qn x)), .slice A54 (zl (qn x)) c55, .bool (neg (ql x)), .slice B56 (zl (ql x)) d57]), (67, .agg #[.bool (neg (qn x)), .slice A209 (zl (qn x)) c210, .bool (neg (ql x)), .slice B211 (zl (ql x)) d212]), (68, .bool true), (69, .bool false), (70, .bool false), (71, .bool false), (72, .agg #[.int .i64 0, .int .i64 0]), (73, .agg #[.int .i64 0, .int .i64 0]), (74, .bool false), (75, .bool false), (76, .bool false), (77, .agg #[.bool (neg (qn x)), .slice A54 (zl (qn x)) c55, .bool (neg (ql x)), .slice B56 (zl (ql x)) d57]), (78, .agg #[.bool (neg (qn x)), .slice A220 (zl (qn x)) c221, .bool (neg (ql x)), .slice B222 (zl (ql x)) d223]), (79, .bool true), (80, .bool false), (81, .bool false), (15, .pointer (some ⟨g266, 0, none⟩))] ∧ St w0 w [bk g266 #[.bool (neg (qn 0)), .slice none (zl (qn 0)) 0, .bool (neg (ql 0)), .slice none (zl (ql 0)) 0] 91, bk g229 #[.int .i64 0, .int .i64 0] 79, bk g227 #[.bool (neg (qn x)), .slice A220 (zl (qn x)) c221, .bool (neg (ql x)), .slice B222 (zl (ql x)) d223] 91, bk g216 #[.bool (neg (qn x)), .slice A209 (zl (qn x)) c210, .bool (neg (ql x)), .slice B211 (zl (ql x)) d212] 91, bk g80 #[.bool (neg (qd x)), .slice A73 (zl (qd x)) c74] 36, bk g78 #[.bool (neg (qn x)), .slice A68 (zl (qn x)) c69] 36, bk g61 #[.bool (neg (qn x)), .slice A54 (zl (qn x)) c55, .bool (neg (ql x)), .slice B56 (zl (ql x)) d57] 91, bk g51 #[.string ⟨s.toArray⟩, .string ⟨t.toArray⟩] 89] [pfZ none 0 (ql 0), pfZ none 0 (qn 0), pfZ A261 c262 ((qd x) * tm), pfZ A256 c257 tm, pfZ A252 c253 ((qn x) * tm), pfZ A247 c248 tm, pfZ A239 c240 1, pfZ A235 c236 ((Int.gcd (qn x) (qd x) : Nat) : Int), pfZ B222 d223 (ql x), pfZ A220 c221 (qn x), pfZ B211 d212 (ql x), pfZ A209 c210 (qn x), pfZ A73 c74 (qd x), pfZ A68 c69 (qn x), pfRow fF FF 2 (some ⟨g64, 0, none⟩) 1 1 ([(s, t)]), pfRd 2 (some ⟨g64, 0, none⟩) 1 1 (fl fF [(s, t)]), pfZ B56 d57 (ql x), pfZ A54 c55 (qn x)]) ?_ ?_
  · refine region_any (n := 15) (Sk [bk g229 #[.int .i64 0, .int .i64 0] 79, bk g227 #[.bool (neg (qn x)), .slice A220 (zl (qn x)) c221, .bool (neg (ql x)), .slice B222 (zl (ql x)) d223] 91, bk g216 #[.bool (neg (qn x)), .slice A209 (zl (qn x)) c210, .bool (neg (ql x)), .slice B211 (zl (ql x)) d212] 91, bk g80 #[.bool (neg (qd x)), .slice A73 (zl (qd x)) c74] 36, bk g78 #[.bool (neg (qn x)), .slice A68 (zl (qn x)) c69] 36, bk g61 #[.bool (neg (qn x)), .slice A54 (zl (qn x)) c55, .bool (neg (ql x)), .slice B56 (zl (ql x)) d57] 91, bk g51 #[.string ⟨s.toArray⟩, .string ⟨t.toArray⟩] 89] [pfZ A239 c240 1, pfZ A235 c236 ((Int.gcd (qn x) (qd x) : Nat) : Int), pfZ B222 d223 (ql x), pfZ A220 c221 (qn x), pfZ B211 d212 (ql x), pfZ A209 c210 (qn x), pfZ A73 c74 (qd x), pfZ A68 c69 (qn x), pfRow fF FF 2 (some ⟨g64, 0, none⟩) 1 1 ([(s, t)]), pfRd 2 (some ⟨g64, 0, none⟩) 1 1 (fl fF [(s, t)]), pfZ B56 d57 (ql x), pfZ A54 c55 (qn x)] [13] []) mixed rfl henv hst ?_
    clear henv hst; intro w246 henv hst
    refine tL (i := 0) 4 4 [3, 6, 7, 8, 9, 10, 11, 13, 14] rfl (by kernel_rfl) (fun _ _ _ h => h) henv rfl ty_anvil_integer_Int rfl hst rfl rfl rfl ?_
    clear henv a; intro a henv
    refine tM (i := 1) [2, 3, 6, 7, 8, 9, 10, 11, 13, 14] rfl (by kernel_rfl) (fun _ _ _ h => h) henv rfl rfl ?_
    clear henv a; intro a henv
    refine tL (i := 4) 3 3 [7, 8, 9, 10, 11, 13, 14] rfl (by kernel_rfl) (fun _ _ _ h => h) henv rfl ty_anvil_integer_Int rfl hst rfl rfl rfl ?_
    clear henv a; intro a henv
    refine tM (i := 5) [6, 7, 8, 9, 10, 11, 13, 14] rfl (by kernel_rfl) (fun _ _ _ h => h) henv rfl rfl ?_
    clear henv a; intro a henv
    refine sAny_all (rs := [2, 12]) (by kernel_rfl) (by simp) ?_
    simp only [List.forall_mem_cons, List.not_mem_nil, false_implies, implies_true, and_true]
    refine ⟨?_, ?_⟩
    · refine ⟨_, rfl, rfl, op_call henv rfl Tryd.call43 rfl (of_z (n := tm) (by omega) (by omega)) ?_⟩
      rintro e w250 ⟨_, rfl, ⟨A247, c248, rfl, hz249⟩, hb⟩
      refine ⟨_, rfl, ?_⟩
      clear henv a; intro a henv
      replace hst := (hst.call hb).addZ hz249 ⟨nou_bk rfl, nou_bk rfl, nou_bk rfl, nou_bk rfl, nou_bk rfl, nou_bk rfl, nou_bk rfl, trivial⟩
      clear hz249
      clear hb
      refine ⟨.inr ⟨hst.kn.pick (rg 0 7) (rg 1 12), .inr (hst.kn.pick [] [])⟩, ?_⟩
      refine sAny_all (rs := [3, 12]) (by kernel_rfl) (by simp) ?_
      simp only [List.forall_mem_cons, List.not_mem_nil, false_implies, implies_true, and_true]
      refine ⟨?_, ?_⟩
      · have hs251 := zl_mul (qn x) tm
        refine ⟨_, rfl, rfl, op_call henv rfl Tryd.call84 rfl (mul_z (x := (qn x)) (y := tm) (show ZIn _ A68 c69 (qn x) from hst.pat (k := 8) rfl) (show ZIn _ A247 c248 tm from hst.pat (k := 0) rfl) (by omega) (by omega)) ?_⟩
        rintro e w255 ⟨_, rfl, ⟨A252, c253, rfl, hz254⟩, hb⟩
        refine ⟨_, rfl, ?_⟩
        clear henv a; intro a henv
        replace hst := (hst.call hb).addZ hz254 ⟨nou_bk rfl, nou_bk rfl, nou_bk rfl, nou_bk rfl, nou_bk rfl, nou_bk rfl, nou_bk rfl, trivial⟩
        clear hz254
        clear hb
        refine ⟨.inr ⟨hst.kn.pick (rg 0 7) (rg 2 12), .inr (hst.kn.pick [] [])⟩, ?_⟩
        refine sAny_all (rs := [6, 12]) (by kernel_rfl) (by simp) ?_
        simp only [List.forall_mem_cons, List.not_mem_nil, false_implies, implies_true, and_true]
        refine ⟨?_, ?_⟩
        · refine ⟨_, rfl, rfl, op_call henv rfl Tryd.call43 rfl (of_z (n := tm) (by omega) (by omega)) ?_⟩
          rintro e w259 ⟨_, rfl, ⟨A256, c257, rfl, hz258⟩, hb⟩
          refine ⟨_, rfl, ?_⟩
          clear henv a; intro a henv
          replace hst := (hst.call hb).addZ hz258 ⟨nou_bk rfl, nou_bk rfl, nou_bk rfl, nou_bk rfl, nou_bk rfl, nou_bk rfl, nou_bk rfl, trivial⟩
          clear hz258
          clear hb
          refine ⟨.inr ⟨hst.kn.pick (rg 0 7) (rg 3 12), .inr (hst.kn.pick [] [])⟩, ?_⟩
          refine sAny_all (rs := [7, 12]) (by kernel_rfl) (by simp) ?_
          simp only [List.forall_mem_cons, List.not_mem_nil, false_implies, implies_true, and_true]
          refine ⟨?_, ?_⟩
          · have hs260 := zl_mul (qd x) tm
            refine ⟨_, rfl, rfl, op_call henv rfl Tryd.call84 rfl (mul_z (x := (qd x)) (y := tm) (show ZIn _ A73 c74 (qd x) from hst.pat (k := 9) rfl) (show ZIn _ A256 c257 tm from hst.pat (k := 0) rfl) (by omega) (by omega)) ?_⟩
            rintro e w264 ⟨_, rfl, ⟨A261, c262, rfl, hz263⟩, hb⟩
            refine ⟨_, rfl, ?_⟩
            clear henv a; intro a henv
            replace hst := (hst.call hb).addZ hz263 ⟨nou_bk rfl, nou_bk rfl, nou_bk rfl, nou_bk rfl, nou_bk rfl, nou_bk rfl, nou_bk rfl, trivial⟩
            clear hz263
            clear hb
            refine ⟨.inr ⟨hst.kn.pick (rg 0 7) (rg 4 12), .inr (hst.kn.pick [] [])⟩, ?_⟩
            refine sAny_all (rs := [8, 12]) (by kernel_rfl) (by simp) ?_
            simp only [List.forall_mem_cons, List.not_mem_nil, false_implies, implies_true, and_true]
            refine ⟨?_, ?_⟩
            · refine ⟨_, rfl, rfl, op_call henv rfl Tryd.call90 rfl (make_z0 (p := (qn x) * tm) (q := (qd x) * tm) (show ZIn _ A252 c253 ((qn x) * tm) from hst.pat (k := 2) rfl) (show ZIn _ A261 c262 ((qd x) * tm) from hst.pat (k := 0) rfl) (by rw [ht0]; exact Int.mul_zero _)) ?_⟩
              rintro e w265 ⟨rfl, hb⟩
              refine ⟨_, rfl, ?_⟩
              clear henv a; intro a henv
              replace hst := hst.call hb
              replace hst := (hst.addZ (show ZIn _ none 0 (qn 0) from zin_none _) ⟨nou_bk rfl, nou_bk rfl, nou_bk rfl, nou_bk rfl, nou_bk rfl, nou_bk rfl, nou_bk rfl, trivial⟩).addZ (show ZIn _ none 0 (ql 0) from zin_none _) ⟨nou_bk rfl, nou_bk rfl, nou_bk rfl, nou_bk rfl, nou_bk rfl, nou_bk rfl, nou_bk rfl, trivial⟩
              clear hb
              refine ⟨.inr ⟨hst.kn.pick (rg 0 7) (rg 6 12), .inr (hst.kn.pick [] [])⟩, ?_⟩
              refine tM (i := 9) [10, 11, 13, 14] rfl (by kernel_rfl) (fun _ _ _ h => h) henv rfl rfl ?_
              clear henv a; intro a henv
              refine tA (i := 10) [13, 14] (v := .agg #[.bool (neg (qn 0)), .slice none (zl (qn 0)) 0, .bool (neg (ql 0)), .slice none (zl (ql 0)) 0]) rfl (by kernel_rfl) (fun _ _ _ h => h) henv rfl (fun _ => rn_extract henv rfl rfl) ?_
              clear henv a; intro a henv
              refine tA (i := 11) [14] (v := .int .i64 2) rfl (by kernel_rfl) (fun _ _ _ h => h) henv rfl (fun _ => rn_extract henv rfl rfl) ?_
              clear henv a; intro a henv
              refine sAny_one (i := 12) (by kernel_rfl) rfl rfl (op_alloc (c := #[.bool (neg (qn 0)), .slice none (zl (qn 0)) 0, .bool (neg (ql 0)), .slice none (zl (ql 0)) 0]) henv hst rfl zero_anvil_ratio_Rat qcells ?_)
              clear henv hst a; intro a w267 g266 henv hst
              refine ⟨.inr ⟨hst.kn.pick (rg 1 7) (rg 6 12), .inr (hst.kn.pick [] [])⟩, ?_⟩
              refine sAny_one (i := 13) (by kernel_rfl) rfl rfl (op_store (k := 0) (c' := #[.bool (neg (qn 0)), .slice none (zl (qn 0)) 0, .bool (neg (ql 0)), .slice none (zl (ql 0)) 0]) henv hst (ty_anvil_ratio_Rat.size) rfl rfl rfl rfl (by simp) rfl rfl ?_)
              clear henv hst a; intro a w268 henv hst
              refine ⟨.inr ⟨hst.kn.pick (rg 1 7) (rg 6 12), .inl rfl⟩, ?_⟩
              refine tA (i := 14) [] (v := .int .i64 2) rfl (by kernel_rfl) (fun _ _ _ h => h) henv rfl (fun _ => rn_assign henv rfl) ?_
              clear henv a; intro a henv
              refine sAny_done (by kernel_rfl) ?_ _
              exact th_n ⟨A247, c248, A252, c253, A256, c257, A261, c262, g266, henv.sub ⟨rfl, rfl, rfl, rfl, rfl, rfl, rfl, rfl, rfl, rfl, rfl, rfl, rfl, rfl, rfl, rfl, rfl, rfl, rfl, rfl, rfl, rfl, rfl, rfl, rfl, rfl, rfl, rfl, rfl, rfl, rfl, rfl, rfl, rfl, rfl, rfl, rfl, rfl, rfl, rfl, rfl, rfl, rfl, rfl, rfl, rfl, rfl, rfl, rfl, rfl, rfl, rfl, rfl, rfl, rfl, rfl, rfl, rfl, rfl, rfl, rfl, rfl, rfl, rfl, rfl, rfl, rfl, rfl, rfl, rfl, rfl, rfl, rfl, rfl, trivial⟩, hst.pick [0, 1, 2, 3, 4, 5, 6, 7] [0, 1, 2, 3, 4, 5, 6, 7, 8, 9, 10, 11, 12, 13, 14, 15, 16, 17] (by decide)⟩
            · refine ⟨_, rfl, rfl, op_alloc (c := #[.bool (neg (qn 0)), .slice none (zl (qn 0)) 0, .bool (neg (ql 0)), .slice none (zl (ql 0)) 0]) henv hst rfl zero_anvil_ratio_Rat qcells ?_⟩
              clear henv hst a; intro a w270 g269 henv hst
              refine ⟨.inr ⟨hst.kn.pick (rg 1 7) (rg 4 12), .inr (hst.kn.pick [] [])⟩, ?_⟩
              refine sAny_one (i := 8) (by kernel_rfl) rfl rfl (op_call henv rfl Tryd.call90 rfl (make_z0 (p := (qn x) * tm) (q := (qd x) * tm) (show ZIn _ A252 c253 ((qn x) * tm) from hst.pat (k := 2) rfl) (show ZIn _ A261 c262 ((qd x) * tm) from hst.pat (k := 0) rfl) (by rw [ht0]; exact Int.mul_zero _)) ?_)
              rintro e w271 ⟨rfl, hb⟩
              refine ⟨_, rfl, ?_⟩
              clear henv a; intro a henv
              replace hst := hst.call hb
              replace hst := (hst.addZ (show ZIn _ none 0 (qn 0) from zin_none _) ⟨nou_bk rfl, nou_bk rfl, nou_bk rfl, nou_bk rfl, nou_bk rfl, nou_bk rfl, nou_bk rfl, nou_bk rfl, trivial⟩).addZ (show ZIn _ none 0 (ql 0) from zin_none _) ⟨nou_bk rfl, nou_bk rfl, nou_bk rfl, nou_bk rfl, nou_bk rfl, nou_bk rfl, nou_bk rfl, nou_bk rfl, trivial⟩
              clear hb
              refine ⟨.inr ⟨hst.kn.pick (rg 1 7) (rg 6 12), .inr (hst.kn.pick [] [])⟩, ?_⟩
              refine tM (i := 9) [10, 11, 13, 14] rfl (by kernel_rfl) (fun _ _ _ h => h) henv rfl rfl ?_
              clear henv a; intro a henv
              refine tA (i := 10) [13, 14] (v := .agg #[.bool (neg (qn 0)), .slice none (zl (qn 0)) 0, .bool (neg (ql 0)), .slice none (zl (ql 0)) 0]) rfl (by kernel_rfl) (fun _ _ _ h => h) henv rfl (fun _ => rn_extract henv rfl rfl) ?_
              clear henv a; intro a henv
              refine tA (i := 11) [14] (v := .int .i64 2) rfl (by kernel_rfl) (fun _ _ _ h => h) henv rfl (fun _ => rn_extract henv rfl rfl) ?_
              clear henv a; intro a henv
              refine sAny_one (i := 13) (by kernel_rfl) rfl rfl (op_store (k := 0) (c' := #[.bool (neg (qn 0)), .slice none (zl (qn 0)) 0, .bool (neg (ql 0)), .slice none (zl (ql 0)) 0]) henv hst (ty_anvil_ratio_Rat.size) rfl rfl rfl rfl (by simp) rfl rfl ?_)
              clear henv hst a; intro a w272 henv hst
              refine ⟨.inr ⟨hst.kn.pick (rg 1 7) (rg 6 12), .inl rfl⟩, ?_⟩
              refine tA (i := 14) [] (v := .int .i64 2) rfl (by kernel_rfl) (fun _ _ _ h => h) henv rfl (fun _ => rn_assign henv rfl) ?_
              clear henv a; intro a henv
              refine sAny_done (by kernel_rfl) ?_ _
              exact th_n ⟨A247, c248, A252, c253, A256, c257, A261, c262, g269, henv.sub ⟨rfl, rfl, rfl, rfl, rfl, rfl, rfl, rfl, rfl, rfl, rfl, rfl, rfl, rfl, rfl, rfl, rfl, rfl, rfl, rfl, rfl, rfl, rfl, rfl, rfl, rfl, rfl, rfl, rfl, rfl, rfl, rfl, rfl, rfl, rfl, rfl, rfl, rfl, rfl, rfl, rfl, rfl, rfl, rfl, rfl, rfl, rfl, rfl, rfl, rfl, rfl, rfl, rfl, rfl, rfl, rfl, rfl, rfl, rfl, rfl, rfl, rfl, rfl, rfl, rfl, rfl, rfl, rfl, rfl, rfl, rfl, rfl, rfl, rfl, trivial⟩, hst.pick [0, 1, 2, 3, 4, 5, 6, 7] [0, 1, 2, 3, 4, 5, 6, 7, 8, 9, 10, 11, 12, 13, 14, 15, 16, 17] (by decide)⟩
          · refine ⟨_, rfl, rfl, op_alloc (c := #[.bool (neg (qn 0)), .slice none (zl (qn 0)) 0, .bool (neg (ql 0)), .slice none (zl (ql 0)) 0]) henv hst rfl zero_anvil_ratio_Rat qcells ?_⟩
            clear henv hst a; intro a w274 g273 henv hst
            refine ⟨.inr ⟨hst.kn.pick (rg 1 7) (rg 3 12), .inr (hst.kn.pick [] [])⟩, ?_⟩
            have hs275 := zl_mul (qd x) tm
            refine sAny_one (i := 7) (by kernel_rfl) rfl rfl (op_call henv rfl Tryd.call84 rfl (mul_z (x := (qd x)) (y := tm) (show ZIn _ A73 c74 (qd x) from hst.pat (k := 9) rfl) (show ZIn _ A256 c257 tm from hst.pat (k := 0) rfl) (by omega) (by omega)) ?_)
            rintro e w279 ⟨_, rfl, ⟨A276, c277, rfl, hz278⟩, hb⟩
            refine ⟨_, rfl, ?_⟩
            clear henv a; intro a henv
            replace hst := (hst.call hb).addZ hz278 ⟨nou_bk rfl, nou_bk rfl, nou_bk rfl, nou_bk rfl, nou_bk rfl, nou_bk rfl, nou_bk rfl, nou_bk rfl, trivial⟩
            clear hz278
            clear hb
            refine ⟨.inr ⟨hst.kn.pick (rg 1 7) (rg 4 12), .inr (hst.kn.pick [] [])⟩, ?_⟩
            refine sAny_one (i := 8) (by kernel_rfl) rfl rfl (op_call henv rfl Tryd.call90 rfl (make_z0 (p := (qn x) * tm) (q := (qd x) * tm) (show ZIn _ A252 c253 ((qn x) * tm) from hst.pat (k := 2) rfl) (show ZIn _ A276 c277 ((qd x) * tm) from hst.pat (k := 0) rfl) (by rw [ht0]; exact Int.mul_zero _)) ?_)
            rintro e w280 ⟨rfl, hb⟩
            refine ⟨_, rfl, ?_⟩
            clear henv a; intro a henv
            replace hst := hst.call hb
            replace hst := (hst.addZ (show ZIn _ none 0 (qn 0) from zin_none _) ⟨nou_bk rfl, nou_bk rfl, nou_bk rfl, nou_bk rfl, nou_bk rfl, nou_bk rfl, nou_bk rfl, nou_bk rfl, trivial⟩).addZ (show ZIn _ none 0 (ql 0) from zin_none _) ⟨nou_bk rfl, nou_bk rfl, nou_bk rfl, nou_bk rfl, nou_bk rfl, nou_bk rfl, nou_bk rfl, nou_bk rfl, trivial⟩
            clear hb
            refine ⟨.inr ⟨hst.kn.pick (rg 1 7) (rg 6 12), .inr (hst.kn.pick [] [])⟩, ?_⟩
            refine tM (i := 9) [10, 11, 13, 14] rfl (by kernel_rfl) (fun _ _ _ h => h) henv rfl rfl ?_
            clear henv a; intro a henv
            refine tA (i := 10) [13, 14] (v := .agg #[.bool (neg (qn 0)), .slice none (zl (qn 0)) 0, .bool (neg (ql 0)), .slice none (zl (ql 0)) 0]) rfl (by kernel_rfl) (fun _ _ _ h => h) henv rfl (fun _ => rn_extract henv rfl rfl) ?_
            clear henv a; intro a henv
            refine tA (i := 11) [14] (v := .int .i64 2) rfl (by kernel_rfl) (fun _ _ _ h => h) henv rfl (fun _ => rn_extract henv rfl rfl) ?_
            clear henv a; intro a henv
            refine sAny_one (i := 13) (by kernel_rfl) rfl rfl (op_store (k := 0) (c' := #[.bool (neg (qn 0)), .slice none (zl (qn 0)) 0, .bool (neg (ql 0)), .slice none (zl (ql 0)) 0]) henv hst (ty_anvil_ratio_Rat.size) rfl rfl rfl rfl (by simp) rfl rfl ?_)
            clear henv hst a; intro a w281 henv hst
            refine ⟨.inr ⟨hst.kn.pick (rg 1 7) (rg 6 12), .inl rfl⟩, ?_⟩
            refine tA (i := 14) [] (v := .int .i64 2) rfl (by kernel_rfl) (fun _ _ _ h => h) henv rfl (fun _ => rn_assign henv rfl) ?_
            clear henv a; intro a henv
            refine sAny_done (by kernel_rfl) ?_ _
            exact th_n ⟨A247, c248, A252, c253, A256, c257, A276, c277, g273, henv.sub ⟨rfl, rfl, rfl, rfl, rfl, rfl, rfl, rfl, rfl, rfl, rfl, rfl, rfl, rfl, rfl, rfl, rfl, rfl, rfl, rfl, rfl, rfl, rfl, rfl, rfl, rfl, rfl, rfl, rfl, rfl, rfl, rfl, rfl, rfl, rfl, rfl, rfl, rfl, rfl, rfl, rfl, rfl, rfl, rfl, rfl, rfl, rfl, rfl, rfl, rfl, rfl, rfl, rfl, rfl, rfl, rfl, rfl, rfl, rfl, rfl, rfl, rfl, rfl, rfl, rfl, rfl, rfl, rfl, rfl, rfl, rfl, rfl, rfl, rfl, trivial⟩, hst.pick [0, 1, 2, 3, 4, 5, 6, 7] [0, 1, 2, 3, 4, 5, 6, 7, 8, 9, 10, 11, 12, 13, 14, 15, 16, 17] (by decide)⟩
        · refine ⟨_, rfl, rfl, op_alloc (c := #[.bool (neg (qn 0)), .slice none (zl (qn 0)) 0, .bool (neg (ql 0)), .slice none (zl (ql 0)) 0]) henv hst rfl zero_anvil_ratio_Rat qcells ?_⟩
          clear henv hst a; intro a w283 g282 henv hst
          refine ⟨.inr ⟨hst.kn.pick (rg 1 7) (rg 2 12), .inr (hst.kn.pick [] [])⟩, ?_⟩
          refine sAny_one (i := 6) (by kernel_rfl) rfl rfl (op_call henv rfl Tryd.call43 rfl (of_z (n := tm) (by omega) (by omega)) ?_)
          rintro e w287 ⟨_, rfl, ⟨A284, c285, rfl, hz286⟩, hb⟩
          refine ⟨_, rfl, ?_⟩
          clear henv a; intro a henv
          replace hst := (hst.call hb).addZ hz286 ⟨nou_bk rfl, nou_bk rfl, nou_bk rfl, nou_bk rfl, nou_bk rfl, nou_bk rfl, nou_bk rfl, nou_bk rfl, trivial⟩
          clear hz286
          clear hb
          refine ⟨.inr ⟨hst.kn.pick (rg 1 7) (rg 3 12), .inr (hst.kn.pick [] [])⟩, ?_⟩
          have hs288 := zl_mul (qd x) tm
          refine sAny_one (i := 7) (by kernel_rfl) rfl rfl (op_call henv rfl Tryd.call84 rfl (mul_z (x := (qd x)) (y := tm) (show ZIn _ A73 c74 (qd x) from hst.pat (k := 9) rfl) (show ZIn _ A284 c285 tm from hst.pat (k := 0) rfl) (by omega) (by omega)) ?_)
          rintro e w292 ⟨_, rfl, ⟨A289, c290, rfl, hz291⟩, hb⟩
          refine ⟨_, rfl, ?_⟩
          clear henv a; intro a henv
          replace hst := (hst.call hb).addZ hz291 ⟨nou_bk rfl, nou_bk rfl, nou_bk rfl, nou_bk rfl, nou_bk rfl, nou_bk rfl, nou_bk rfl, nou_bk rfl, trivial⟩
          clear hz291
          clear hb
          refine ⟨.inr ⟨hst.kn.pick (rg 1 7) (rg 4 12), .inr (hst.kn.pick [] [])⟩, ?_⟩
          refine sAny_one (i := 8) (by kernel_rfl) rfl rfl (op_call henv rfl Tryd.call90 rfl (make_z0 (p := (qn x) * tm) (q := (qd x) * tm) (show ZIn _ A252 c253 ((qn x) * tm) from hst.pat (k := 2) rfl) (show ZIn _ A289 c290 ((qd x) * tm) from hst.pat (k := 0) rfl) (by rw [ht0]; exact Int.mul_zero _)) ?_)
          rintro e w293 ⟨rfl, hb⟩
          refine ⟨_, rfl, ?_⟩
          clear henv a; intro a henv
          replace hst := hst.call hb
          replace hst := (hst.addZ (show ZIn _ none 0 (qn 0) from zin_none _) ⟨nou_bk rfl, nou_bk rfl, nou_bk rfl, nou_bk rfl, nou_bk rfl, nou_bk rfl, nou_bk rfl, nou_bk rfl, trivial⟩).addZ (show ZIn _ none 0 (ql 0) from zin_none _) ⟨nou_bk rfl, nou_bk rfl, nou_bk rfl, nou_bk rfl, nou_bk rfl, nou_bk rfl, nou_bk rfl, nou_bk rfl, trivial⟩
          clear hb
          refine ⟨.inr ⟨hst.kn.pick (rg 1 7) (rg 6 12), .inr (hst.kn.pick [] [])⟩, ?_⟩
          refine tM (i := 9) [10, 11, 13, 14] rfl (by kernel_rfl) (fun _ _ _ h => h) henv rfl rfl ?_
          clear henv a; intro a henv
          refine tA (i := 10) [13, 14] (v := .agg #[.bool (neg (qn 0)), .slice none (zl (qn 0)) 0, .bool (neg (ql 0)), .slice none (zl (ql 0)) 0]) rfl (by kernel_rfl) (fun _ _ _ h => h) henv rfl (fun _ => rn_extract henv rfl rfl) ?_
          clear henv a; intro a henv
          refine tA (i := 11) [14] (v := .int .i64 2) rfl (by kernel_rfl) (fun _ _ _ h => h) henv rfl (fun _ => rn_extract henv rfl rfl) ?_
          clear henv a; intro a henv
          refine sAny_one (i := 13) (by kernel_rfl) rfl rfl (op_store (k := 0) (c' := #[.bool (neg (qn 0)), .slice none (zl (qn 0)) 0, .bool (neg (ql 0)), .slice none (zl (ql 0)) 0]) henv hst (ty_anvil_ratio_Rat.size) rfl rfl rfl rfl (by simp) rfl rfl ?_)
          clear henv hst a; intro a w294 henv hst
          refine ⟨.inr ⟨hst.kn.pick (rg 1 7) (rg 6 12), .inl rfl⟩, ?_⟩
          refine tA (i := 14) [] (v := .int .i64 2) rfl (by kernel_rfl) (fun _ _ _ h => h) henv rfl (fun _ => rn_assign henv rfl) ?_
          clear henv a; intro a henv
          refine sAny_done (by kernel_rfl) ?_ _
          exact th_n ⟨A247, c248, A252, c253, A284, c285, A289, c290, g282, henv.sub ⟨rfl, rfl, rfl, rfl, rfl, rfl, rfl, rfl, rfl, rfl, rfl, rfl, rfl, rfl, rfl, rfl, rfl, rfl, rfl, rfl, rfl, rfl, rfl, rfl, rfl, rfl, rfl, rfl, rfl, rfl, rfl, rfl, rfl, rfl, rfl, rfl, rfl, rfl, rfl, rfl, rfl, rfl, rfl, rfl, rfl, rfl, rfl, rfl, rfl, rfl, rfl, rfl, rfl, rfl, rfl, rfl, rfl, rfl, rfl, rfl, rfl, rfl, rfl, rfl, rfl, rfl, rfl, rfl, rfl, rfl, rfl, rfl, rfl, rfl, trivial⟩, hst.pick [0, 1, 2, 3, 4, 5, 6, 7] [0, 1, 2, 3, 4, 5, 6, 7, 8, 9, 10, 11, 12, 13, 14, 15, 16, 17] (by decide)⟩
      · refine ⟨_, rfl, rfl, op_alloc (c := #[.bool (neg (qn 0)), .slice none (zl (qn 0)) 0, .bool (neg (ql 0)), .slice none (zl (ql 0)) 0]) henv hst rfl zero_anvil_ratio_Rat qcells ?_⟩
        clear henv hst a; intro a w296 g295 henv hst
        refine ⟨.inr ⟨hst.kn.pick (rg 1 7) (rg 1 12), .inr (hst.kn.pick [] [])⟩, ?_⟩
        have hs297 := zl_mul (qn x) tm
        refine sAny_one (i := 3) (by kernel_rfl) rfl rfl (op_call henv rfl Tryd.call84 rfl (mul_z (x := (qn x)) (y := tm) (show ZIn _ A68 c69 (qn x) from hst.pat (k := 8) rfl) (show ZIn _ A247 c248 tm from hst.pat (k := 0) rfl) (by omega) (by omega)) ?_)
        rintro e w301 ⟨_, rfl, ⟨A298, c299, rfl, hz300⟩, hb⟩
        refine ⟨_, rfl, ?_⟩
        clear henv a; intro a henv
        replace hst := (hst.call hb).addZ hz300 ⟨nou_bk rfl, nou_bk rfl, nou_bk rfl, nou_bk rfl, nou_bk rfl, nou_bk rfl, nou_bk rfl, nou_bk rfl, trivial⟩
        clear hz300
        clear hb
        refine ⟨.inr ⟨hst.kn.pick (rg 1 7) (rg 2 12), .inr (hst.kn.pick [] [])⟩, ?_⟩
        refine sAny_one (i := 6) (by kernel_rfl) rfl rfl (op_call henv rfl Tryd.call43 rfl (of_z (n := tm) (by omega) (by omega)) ?_)
        rintro e w305 ⟨_, rfl, ⟨A302, c303, rfl, hz304⟩, hb⟩
        refine ⟨_, rfl, ?_⟩
        clear henv a; intro a henv
        replace hst := (hst.call hb).addZ hz304 ⟨nou_bk rfl, nou_bk rfl, nou_bk rfl, nou_bk rfl, nou_bk rfl, nou_bk rfl, nou_bk rfl, nou_bk rfl, trivial⟩
        clear hz304
        clear hb
        refine ⟨.inr ⟨hst.kn.pick (rg 1 7) (rg 3 12), .inr (hst.kn.pick [] [])⟩, ?_⟩
        have hs306 := zl_mul (qd x) tm
        refine sAny_one (i := 7) (by kernel_rfl) rfl rfl (op_call henv rfl Tryd.call84 rfl (mul_z (x := (qd x)) (y := tm) (show ZIn _ A73 c74 (qd x) from hst.pat (k := 9) rfl) (show ZIn _ A302 c303 tm from hst.pat (k := 0) rfl) (by omega) (by omega)) ?_)
        rintro e w310 ⟨_, rfl, ⟨A307, c308, rfl, hz309⟩, hb⟩
        refine ⟨_, rfl, ?_⟩
        clear henv a; intro a henv
        replace hst := (hst.call hb).addZ hz309 ⟨nou_bk rfl, nou_bk rfl, nou_bk rfl, nou_bk rfl, nou_bk rfl, nou_bk rfl, nou_bk rfl, nou_bk rfl, trivial⟩
        clear hz309
        clear hb
        refine ⟨.inr ⟨hst.kn.pick (rg 1 7) (rg 4 12), .inr (hst.kn.pick [] [])⟩, ?_⟩
        refine sAny_one (i := 8) (by kernel_rfl) rfl rfl (op_call henv rfl Tryd.call90 rfl (make_z0 (p := (qn x) * tm) (q := (qd x) * tm) (show ZIn _ A298 c299 ((qn x) * tm) from hst.pat (k := 2) rfl) (show ZIn _ A307 c308 ((qd x) * tm) from hst.pat (k := 0) rfl) (by rw [ht0]; exact Int.mul_zero _)) ?_)
        rintro e w311 ⟨rfl, hb⟩
        refine ⟨_, rfl, ?_⟩
        clear henv a; intro a henv
        replace hst := hst.call hb
        replace hst := (hst.addZ (show ZIn _ none 0 (qn 0) from zin_none _) ⟨nou_bk rfl, nou_bk rfl, nou_bk rfl, nou_bk rfl, nou_bk rfl, nou_bk rfl, nou_bk rfl, nou_bk rfl, trivial⟩).addZ (show ZIn _ none 0 (ql 0) from zin_none _) ⟨nou_bk rfl, nou_bk rfl, nou_bk rfl, nou_bk rfl, nou_bk rfl, nou_bk rfl, nou_bk rfl, nou_bk rfl, trivial⟩
        clear hb
        refine ⟨.inr ⟨hst.kn.pick (rg 1 7) (rg 6 12), .inr (hst.kn.pick [] [])⟩, ?_⟩
        refine tM (i := 9) [10, 11, 13, 14] rfl (by kernel_rfl) (fun _ _ _ h => h) henv rfl rfl ?_
        clear henv a; intro a henv
        refine tA (i := 10) [13, 14] (v := .agg #[.bool (neg (qn 0)), .slice none (zl (qn 0)) 0, .bool (neg (ql 0)), .slice none (zl (ql 0)) 0]) rfl (by kernel_rfl) (fun _ _ _ h => h) henv rfl (fun _ => rn_extract henv rfl rfl) ?_
        clear henv a; intro a henv
        refine tA (i := 11) [14] (v := .int .i64 2) rfl (by kernel_rfl) (fun _ _ _ h => h) henv rfl (fun _ => rn_extract henv rfl rfl) ?_
        clear henv a; intro a henv
        refine sAny_one (i := 13) (by kernel_rfl) rfl rfl (op_store (k := 0) (c' := #[.bool (neg (qn 0)), .slice none (zl (qn 0)) 0, .bool (neg (ql 0)), .slice none (zl (ql 0)) 0]) henv hst (ty_anvil_ratio_Rat.size) rfl rfl rfl rfl (by simp) rfl rfl ?_)
        clear henv hst a; intro a w312 henv hst
        refine ⟨.inr ⟨hst.kn.pick (rg 1 7) (rg 6 12), .inl rfl⟩, ?_⟩
        refine tA (i := 14) [] (v := .int .i64 2) rfl (by kernel_rfl) (fun _ _ _ h => h) henv rfl (fun _ => rn_assign henv rfl) ?_
        clear henv a; intro a henv
        refine sAny_done (by kernel_rfl) ?_ _
        exact th_n ⟨A247, c248, A298, c299, A302, c303, A307, c308, g295, henv.sub ⟨rfl, rfl, rfl, rfl, rfl, rfl, rfl, rfl, rfl, rfl, rfl, rfl, rfl, rfl, rfl, rfl, rfl, rfl, rfl, rfl, rfl, rfl, rfl, rfl, rfl, rfl, rfl, rfl, rfl, rfl, rfl, rfl, rfl, rfl, rfl, rfl, rfl, rfl, rfl, rfl, rfl, rfl, rfl, rfl, rfl, rfl, rfl, rfl, rfl, rfl, rfl, rfl, rfl, rfl, rfl, rfl, rfl, rfl, rfl, rfl, rfl, rfl, rfl, rfl, rfl, rfl, rfl, rfl, rfl, rfl, rfl, rfl, rfl, rfl, trivial⟩, hst.pick [0, 1, 2, 3, 4, 5, 6, 7] [0, 1, 2, 3, 4, 5, 6, 7, 8, 9, 10, 11, 12, 13, 14, 15, 16, 17] (by decide)⟩
    · refine ⟨_, rfl, rfl, op_alloc (c := #[.bool (neg (qn 0)), .slice none (zl (qn 0)) 0, .bool (neg (ql 0)), .slice none (zl (ql 0)) 0]) henv hst rfl zero_anvil_ratio_Rat qcells ?_⟩
      clear henv hst a; intro a w314 g313 henv hst
      refine ⟨.inr ⟨hst.kn.pick (rg 1 7) (rg 0 12), .inr (hst.kn.pick [] [])⟩, ?_⟩
      refine sAny_one (i := 2) (by kernel_rfl) rfl rfl (op_call henv rfl Tryd.call43 rfl (of_z (n := tm) (by omega) (by omega)) ?_)
      rintro e w318 ⟨_, rfl, ⟨A315, c316, rfl, hz317⟩, hb⟩
      refine ⟨_, rfl, ?_⟩
      clear henv a; intro a henv
      replace hst := (hst.call hb).addZ hz317 ⟨nou_bk rfl, nou_bk rfl, nou_bk rfl, nou_bk rfl, nou_bk rfl, nou_bk rfl, nou_bk rfl, nou_bk rfl, trivial⟩
      clear hz317
      clear hb
      refine ⟨.inr ⟨hst.kn.pick (rg 1 7) (rg 1 12), .inr (hst.kn.pick [] [])⟩, ?_⟩
      have hs319 := zl_mul (qn x) tm
      refine sAny_one (i := 3) (by kernel_rfl) rfl rfl (op_call henv rfl Tryd.call84 rfl (mul_z (x := (qn x)) (y := tm) (show ZIn _ A68 c69 (qn x) from hst.pat (k := 8) rfl) (show ZIn _ A315 c316 tm from hst.pat (k := 0) rfl) (by omega) (by omega)) ?_)
      rintro e w323 ⟨_, rfl, ⟨A320, c321, rfl, hz322⟩, hb⟩
      refine ⟨_, rfl, ?_⟩
      clear henv a; intro a henv
      replace hst := (hst.call hb).addZ hz322 ⟨nou_bk rfl, nou_bk rfl, nou_bk rfl, nou_bk rfl, nou_bk rfl, nou_bk rfl, nou_bk rfl, nou_bk rfl, trivial⟩
      clear hz322
      clear hb
      refine ⟨.inr ⟨hst.kn.pick (rg 1 7) (rg 2 12), .inr (hst.kn.pick [] [])⟩, ?_⟩
      refine sAny_one (i := 6) (by kernel_rfl) rfl rfl (op_call henv rfl Tryd.call43 rfl (of_z (n := tm) (by omega) (by omega)) ?_)
      rintro e w327 ⟨_, rfl, ⟨A324, c325, rfl, hz326⟩, hb⟩
      refine ⟨_, rfl, ?_⟩
      clear henv a; intro a henv
      replace hst := (hst.call hb).addZ hz326 ⟨nou_bk rfl, nou_bk rfl, nou_bk rfl, nou_bk rfl, nou_bk rfl, nou_bk rfl, nou_bk rfl, nou_bk rfl, trivial⟩
      clear hz326
      clear hb
      refine ⟨.inr ⟨hst.kn.pick (rg 1 7) (rg 3 12), .inr (hst.kn.pick [] [])⟩, ?_⟩
      have hs328 := zl_mul (qd x) tm
      refine sAny_one (i := 7) (by kernel_rfl) rfl rfl (op_call henv rfl Tryd.call84 rfl (mul_z (x := (qd x)) (y := tm) (show ZIn _ A73 c74 (qd x) from hst.pat (k := 9) rfl) (show ZIn _ A324 c325 tm from hst.pat (k := 0) rfl) (by omega) (by omega)) ?_)
      rintro e w332 ⟨_, rfl, ⟨A329, c330, rfl, hz331⟩, hb⟩
      refine ⟨_, rfl, ?_⟩
      clear henv a; intro a henv
      replace hst := (hst.call hb).addZ hz331 ⟨nou_bk rfl, nou_bk rfl, nou_bk rfl, nou_bk rfl, nou_bk rfl, nou_bk rfl, nou_bk rfl, nou_bk rfl, trivial⟩
      clear hz331
      clear hb
      refine ⟨.inr ⟨hst.kn.pick (rg 1 7) (rg 4 12), .inr (hst.kn.pick [] [])⟩, ?_⟩
      refine sAny_one (i := 8) (by kernel_rfl) rfl rfl (op_call henv rfl Tryd.call90 rfl (make_z0 (p := (qn x) * tm) (q := (qd x) * tm) (show ZIn _ A320 c321 ((qn x) * tm) from hst.pat (k := 2) rfl) (show ZIn _ A329 c330 ((qd x) * tm) from hst.pat (k := 0) rfl) (by rw [ht0]; exact Int.mul_zero _)) ?_)
      rintro e w333 ⟨rfl, hb⟩
      refine ⟨_, rfl, ?_⟩
      clear henv a; intro a henv
      replace hst := hst.call hb
      replace hst := (hst.addZ (show ZIn _ none 0 (qn 0) from zin_none _) ⟨nou_bk rfl, nou_bk rfl, nou_bk rfl, nou_bk rfl, nou_bk rfl, nou_bk rfl, nou_bk rfl, nou_bk rfl, trivial⟩).addZ (show ZIn _ none 0 (ql 0) from zin_none _) ⟨nou_bk rfl, nou_bk rfl, nou_bk rfl, nou_bk rfl, nou_bk rfl, nou_bk rfl, nou_bk rfl, nou_bk rfl, trivial⟩
      clear hb
      refine ⟨.inr ⟨hst.kn.pick (rg 1 7) (rg 6 12), .inr (hst.kn.pick [] [])⟩, ?_⟩
      refine tM (i := 9) [10, 11, 13, 14] rfl (by kernel_rfl) (fun _ _ _ h => h) henv rfl rfl ?_
      clear henv a; intro a henv
      refine tA (i := 10) [13, 14] (v := .agg #[.bool (neg (qn 0)), .slice none (zl (qn 0)) 0, .bool (neg (ql 0)), .slice none (zl (ql 0)) 0]) rfl (by kernel_rfl) (fun _ _ _ h => h) henv rfl (fun _ => rn_extract henv rfl rfl) ?_
      clear henv a; intro a henv
      refine tA (i := 11) [14] (v := .int .i64 2) rfl (by kernel_rfl) (fun _ _ _ h => h) henv rfl (fun _ => rn_extract henv rfl rfl) ?_
      clear henv a; intro a henv
      refine sAny_one (i := 13) (by kernel_rfl) rfl rfl (op_store (k := 0) (c' := #[.bool (neg (qn 0)), .slice none (zl (qn 0)) 0, .bool (neg (ql 0)), .slice none (zl (ql 0)) 0]) henv hst (ty_anvil_ratio_Rat.size) rfl rfl rfl rfl (by simp) rfl rfl ?_)
      clear henv hst a; intro a w334 henv hst
      refine ⟨.inr ⟨hst.kn.pick (rg 1 7) (rg 6 12), .inl rfl⟩, ?_⟩
      refine tA (i := 14) [] (v := .int .i64 2) rfl (by kernel_rfl) (fun _ _ _ h => h) henv rfl (fun _ => rn_assign henv rfl) ?_
      clear henv a; intro a henv
      refine sAny_done (by kernel_rfl) ?_ _
      exact th_n ⟨A315, c316, A320, c321, A324, c325, A329, c330, g313, henv.sub ⟨rfl, rfl, rfl, rfl, rfl, rfl, rfl, rfl, rfl, rfl, rfl, rfl, rfl, rfl, rfl, rfl, rfl, rfl, rfl, rfl, rfl, rfl, rfl, rfl, rfl, rfl, rfl, rfl, rfl, rfl, rfl, rfl, rfl, rfl, rfl, rfl, rfl, rfl, rfl, rfl, rfl, rfl, rfl, rfl, rfl, rfl, rfl, rfl, rfl, rfl, rfl, rfl, rfl, rfl, rfl, rfl, rfl, rfl, rfl, rfl, rfl, rfl, rfl, rfl, rfl, rfl, rfl, rfl, rfl, rfl, rfl, rfl, rfl, rfl, trivial⟩, hst.pick [0, 1, 2, 3, 4, 5, 6, 7] [0, 1, 2, 3, 4, 5, 6, 7, 8, 9, 10, 11, 12, 13, 14, 15, 16, 17] (by decide)⟩
  clear henv hst a
  rintro a w335 ⟨A247, c248, A252, c253, A256, c257, A261, c262, g266, henv, hst⟩
  refine wp_seq ?_
  refine region_seq ?_
  revert a
  refine mA rfl rfl ?_
  refine sA (v := .bool (tm == (0 : Int))) rfl (fun _ henv => rn_bin henv rfl rfl rfl) ?_
  intro a henv
  rw [show (tm == (0 : Int)) = true from (beq_iff_eq.2 ht0)] at henv
  revert a
  refine mA rfl rfl ?_
  refine gA (v := .int .i64 2) rfl rfl rfl rfl (fun _ henv => rn_move henv rfl) ?_
  refine gA (v := .bool false) rfl rfl rfl rfl (fun _ henv => rn_bin henv rfl rfl rfl) ?_
  refine sA (v := .bool false) rfl (fun _ henv => rn_pick henv rfl rfl) ?_
  refine mA rfl rfl ?_
  refine gA (v := .int .i64 tm) rfl rfl rfl rfl (fun _ henv => rn_move henv rfl) ?_
  refine gA (v := .bool (tm != (0 : Int))) rfl rfl rfl rfl (fun _ henv => rn_bin henv rfl rfl rfl) ?_
  intro a henv
  rw [show (tm != (0 : Int)) = false from (by rw [ht0]; rfl)] at henv
  revert a
  refine gA (v := .bool false) rfl rfl rfl rfl (fun _ henv => rn_move henv rfl) ?_
  refine kA rfl rfl rfl rfl rfl ?_
  refine kA rfl rfl rfl rfl rfl ?_
  refine kA rfl rfl rfl rfl rfl ?_
  refine kA rfl rfl rfl rfl rfl ?_
  refine kA rfl rfl rfl rfl rfl ?_
  refine kA rfl rfl rfl rfl rfl ?_
  refine kA rfl rfl rfl rfl rfl ?_
  refine kA rfl rfl rfl rfl rfl ?_
  refine gA (v := .bool false) rfl rfl rfl rfl (fun _ henv => rn_pick henv rfl rfl) ?_
  refine sA (v := .bool false) rfl (fun _ henv => rn_pick henv rfl rfl) ?_
  intro a henv
  refine wpList_nil ?_
  refine th_n ?_
  refine if_f henv rfl (rfl) ?_
  refine wp_skip ?_
  refine th_n ?_
  refine wp_seq ?_
  refine region_seq ?_
  refine sv (v := .string ⟨u.toArray⟩) henv rfl (rn_move henv rfl) ?_
  clear henv a; intro a henv
  refine seq_step rfl (op_call henv rfl Tryd.call91 rfl (q_read_ok hr (by omega)) ?_)
  rintro e w342 ⟨_, rfl, ⟨A336, c337, B338, d339, rfl, hz340, hz341⟩, hb⟩
  refine ⟨_, rfl, ?_⟩
  clear henv a; intro a henv
  replace hst := ((hst.call hb).addZ hz340 ⟨nou_bk rfl, nou_bk rfl, nou_bk rfl, nou_bk rfl, nou_bk rfl, nou_bk rfl, nou_bk rfl, nou_bk rfl, trivial⟩).addZ hz341 ⟨nou_bk rfl, nou_bk rfl, nou_bk rfl, nou_bk rfl, nou_bk rfl, nou_bk rfl, nou_bk rfl, nou_bk rfl, trivial⟩
  clear hz340 hz341
  clear hb
  revert a
  refine mA rfl rfl ?_
  refine sA (v := .agg #[.bool (neg (qn r)), .slice A336 (zl (qn r)) c337, .bool (neg (ql r)), .slice B338 (zl (ql r)) d339]) rfl (fun _ henv => rn_extract henv rfl rfl) ?_
  refine sA (v := .agg #[.int .i64 0, .int .i64 0]) rfl (fun _ henv => rn_extract henv rfl rfl) ?_
  intro a henv
  refine seq_step rfl (op_alloc (c := #[.bool (neg (qn 0)), .slice none (zl (qn 0)) 0, .bool (neg (ql 0)), .slice none (zl (ql 0)) 0]) henv hst rfl zero_anvil_ratio_Rat qcells ?_)
  clear henv hst a; intro a w344 g343 henv hst
  refine seq_step rfl (op_alloc (c := #[.int .i64 0, .int .i64 0]) henv hst rfl zero_anvil_api_Spot rfl ?_)
  clear henv hst a; intro a w346 g345 henv hst
  refine seq_step rfl (op_store (k := 1) (c' := #[.bool (neg (qn r)), .slice A336 (zl (qn r)) c337, .bool (neg (ql r)), .slice B338 (zl (ql r)) d339]) henv hst (ty_anvil_ratio_Rat.size) rfl rfl rfl rfl (by simp) rfl rfl ?_)
  clear henv hst a; intro a w347 henv hst
  refine seq_step rfl (op_store (k := 0) (c' := #[.int .i64 0, .int .i64 0]) henv hst (ty_anvil_api_Spot.size) rfl rfl rfl rfl (by simp) rfl rfl ?_)
  clear henv hst a; intro a w348 henv hst
  refine wpList_nil ?_
  refine th_n ?_
  refine wp_seq ?_
  refine region_seq ?_
  revert a
  refine sA (v := .agg #[.int .i64 0, .int .i64 0]) rfl (fun _ henv => rn_load0 henv ty_anvil_api_Spot rfl (hst.oat (k := 0) rfl) rfl) ?_
  refine sA (v := .agg #[.int .i64 0, .int .i64 0]) rfl (fun _ henv => rn_spot0) ?_
  refine sA (v := .bool (!decide ([(0 : Int), (0 : Int)] = [(0 : Int), (0 : Int)]))) rfl (fun _ henv => rn_neqI [(0 : Int), (0 : Int)] [(0 : Int), (0 : Int)] henv spotI rfl rfl rfl rfl) ?_
  intro a henv
  rw [show (!decide ([(0 : Int), (0 : Int)] = [(0 : Int), (0 : Int)])) = false from (by decide)] at henv
  revert a
  refine mA rfl rfl ?_
  refine gA (v := .agg #[.bool (neg (qn r)), .slice A336 (zl (qn r)) c337, .bool (neg (ql r)), .slice B338 (zl (ql r)) d339]) rfl rfl rfl rfl (fun _ henv => rn_load0 henv ty_anvil_ratio_Rat rfl (hst.oat (k := 1) rfl) rfl) ?_
  intro a henv
  refine seq_g rfl henv rfl rfl (op_call henv rfl Tryd.call92 rfl (text_q (x := r) (show ZIn _ A336 c337 (qn r) from hst.pat (k := 1) rfl) (show ZIn _ B338 d339 (ql r) from hst.pat (k := 0) rfl) sr (by omega)) ?_)
  rintro e w349 ⟨rfl, hb⟩
  refine ⟨_, rfl, ?_⟩
  clear henv a; intro a henv
  replace hst := hst.call hb
  clear hb
  revert a
  refine gA (v := .string ⟨u.toArray⟩) rfl rfl rfl rfl (fun _ henv => rn_move henv rfl) ?_
  refine gA (v := .bool (decide ((textQ r) = u))) rfl rfl rfl rfl (fun _ henv => rn_eqls (s := (textQ r)) (t := u) henv rfl rfl) ?_
  intro a henv
  rw [show (decide ((textQ r) = u)) = true from (decide_eq_true hr)] at henv
  revert a
  refine sA (v := .bool true) rfl (fun _ henv => rn_pick henv rfl rfl) ?_
  refine aA rfl rfl ?_
  intro a henv
  refine wpList_nil ?_
  refine th_n ?_
  refine wp_ret ?_
  refine leave henv (res1 Tryd.results14 (RV.tmp henv rfl)) ?_
  exact ⟨rfl, hst.below⟩
set_option maxRecDepth 100000 in
set_option maxHeartbeats 16000000 in
theorem qback_ok10 {s t u : List UInt8} {x : Rat} {r : Rat} {tm : Int} {w0 : World} (hb1 : -9223372036854775808 ≤ tm) (hb2 : tm ≤ 9223372036854775807) (f1 : AlAs s t x true) (hl : ¬ Lg (s, t)) (sx : Qs 400 x) (hu : u.length ≤ 800) (ht0 : tm ≠ 0) (hr : textQ r = u) :
    Calls Tryd.prog 14 #[.agg #[.string ⟨s.toArray⟩, .string ⟨t.toArray⟩], .int .i64 tm, .string ⟨u.toArray⟩] w0 fun e w' => e = .returned (.bool true) ∧ Below w0.heap.size w0 w' := by
  have sr : Qs 400 r := qs_text hr hu
  have hnx := sx.n
  have hdx := sx.d
  have htx := text_le sx
  have htz := zl_i64 hb1 hb2
  refine enter Tryd.func14 rfl Tryd.ntmps14 rfl ?_
  intro a henv hst
  refine wp_seq ?_
  refine region_seq ?_
  refine seq_step rfl (op_box (c := #[.string ⟨s.toArray⟩, .string ⟨t.toArray⟩]) henv hst rfl rfl rfl ?_)
  clear henv hst a; intro a w52 g51 henv hst
  refine sv (v := .bool false) henv rfl (rn_assign henv rfl) ?_
  clear henv a; intro a henv
  refine wpList_nil ?_
  refine th_n ?_
  refine wp_seq ?_
  refine wp_seq ?_
  refine region_seq ?_
  refine seq_step rfl (op_call henv rfl Tryd.call55 rfl (qworks) ?_)
  rintro e w53 ⟨rfl, hb⟩
  refine ⟨_, rfl, ?_⟩
  clear henv a; intro a henv
  replace hst := hst.call hb
  clear hb
  refine sv (v := .bool false) henv rfl (rn_un henv rfl rfl) ?_
  clear henv a; intro a henv
  refine wpList_nil ?_
  refine th_n ?_
  refine if_f henv rfl (rfl) ?_
  refine wp_skip ?_
  refine th_n ?_
  refine wp_seq ?_
  refine region_seq ?_
  refine sv (v := .agg #[.string ⟨s.toArray⟩, .string ⟨t.toArray⟩]) henv rfl (rn_load0 henv ty_anvil_anvillaw03_Frac rfl (hst.oat (k := 0) rfl) rfl) ?_
  clear henv a; intro a henv
  refine seq_step rfl (op_call henv rfl Tryd.call87 rfl (f1 _) ?_)
  rintro e w60 ⟨_, rfl, ⟨A54, c55, B56, d57, rfl, hz58, hz59⟩, hb⟩
  refine ⟨_, rfl, ?_⟩
  clear henv a; intro a henv
  replace hst := ((hst.call hb).addZ hz58 ⟨nou_bk rfl, trivial⟩).addZ hz59 ⟨nou_bk rfl, trivial⟩
  clear hz58 hz59
  clear hb
  revert a
  refine mA rfl rfl ?_
  refine sA (v := .agg #[.bool (neg (qn x)), .slice A54 (zl (qn x)) c55, .bool (neg (ql x)), .slice B56 (zl (ql x)) d57]) rfl (fun _ henv => rn_extract henv rfl rfl) ?_
  refine sA (v := .bool true) rfl (fun _ henv => rn_extract henv rfl rfl) ?_
  intro a henv
  refine seq_step rfl (op_alloc (c := #[.bool (neg (qn 0)), .slice none (zl (qn 0)) 0, .bool (neg (ql 0)), .slice none (zl (ql 0)) 0]) henv hst rfl zero_anvil_ratio_Rat qcells ?_)
  clear henv hst a; intro a w62 g61 henv hst
  refine seq_step rfl (op_store (k := 0) (c' := #[.bool (neg (qn x)), .slice A54 (zl (qn x)) c55, .bool (neg (ql x)), .slice B56 (zl (ql x)) d57]) henv hst (ty_anvil_ratio_Rat.size) rfl rfl rfl rfl (by simp) rfl rfl ?_)
  clear henv hst a; intro a w63 henv hst
  refine sv (v := .bool true) henv rfl (rn_assign henv rfl) ?_
  clear henv a; intro a henv
  refine wpList_nil ?_
  refine th_n ?_
  refine wp_seq ?_
  refine wp_seq ?_
  refine region_seq ?_
  refine sv (v := .agg #[.string ⟨s.toArray⟩, .string ⟨t.toArray⟩]) henv rfl (rn_load0 henv ty_anvil_anvillaw03_Frac rfl (hst.oat (k := 1) rfl) rfl) ?_
  clear henv a; intro a henv
  refine seq_step rfl (op_buildSlice (z := 2) (pv := #[(0, .agg #[.string ⟨s.toArray⟩, .string ⟨t.toArray⟩])]) (c := #[.string ⟨s.toArray⟩, .string ⟨t.toArray⟩]) henv hst rfl Tryd.underlying103 (ty_anvil_anvillaw03_Frac.size) zero_anvil_anvillaw03_Frac (by decide) (by decide) rfl (by kernel_rfl) ?_)
  clear henv hst a; intro a w65 g64 henv hst
  replace hst := hst.giveBk (f := fF) (F := FF) (k := 0) (n := 1) (es := [(s, t)]) rfl rfl fF_len rfl (by decide) (esT_P (fun _ => rfl) _ _) (fun _ _ _ _ => esT_foot (fun _ => rfl))
  refine seq_step rfl (op_call henv rfl Tryd.call68 rfl (qlong_no (hst.pat (k := 0) rfl) (by decide) (by intro e he; simp at he; subst he; exact hl)) ?_)
  rintro e w66 ⟨rfl, hb⟩
  refine ⟨_, rfl, ?_⟩
  clear henv a; intro a henv
  replace hst := hst.call hb
  clear hb
  revert a
  refine mA rfl rfl ?_
  refine gA (v := .string ⟨u.toArray⟩) rfl rfl rfl rfl (fun _ henv => rn_move henv rfl) ?_
  refine gA (v := .int .i64 (u.length : Nat)) rfl rfl rfl rfl (fun _ henv => rn_lenS henv Tryd.underlying9 rfl) ?_
  refine gA (v := .bool (decide (((u.length : Nat) : Int) > (800 : Int)))) rfl rfl rfl rfl (fun _ henv => rn_bin henv rfl rfl rfl) ?_
  intro a henv
  rw [show (decide (((u.length : Nat) : Int) > (800 : Int))) = false from (decide_eq_false (by omega))] at henv
  refine sv (v := .bool false) henv rfl (rn_pick henv rfl rfl) ?_
  clear henv a; intro a henv
  refine wpList_nil ?_
  refine th_n ?_
  refine if_f henv rfl (rfl) ?_
  refine wp_skip ?_
  refine th_n ?_
  refine wp_seq ?_
  refine wp_seq ?_
  refine region_seq ?_
  refine sv (v := .bool true) henv rfl (rn_move henv rfl) ?_
  clear henv a; intro a henv
  refine wpList_nil ?_
  refine th_n ?_
  refine if_t henv rfl (rfl) ?_
  refine wp_seq ?_
  refine cut (fun a w => ∃ A68 : Option Addr, ∃ c69 : Nat, ∃ A73 : Option Addr, ∃ c74 : Nat, ∃ g78 : Nat, ∃ g80 : Nat, Env 128 a [(0, .agg #[.string ⟨s.toArray⟩, .string ⟨t.toArray⟩]), (1, .int .i64 tm), (2, .string ⟨u.toArray⟩), (3, .pointer (some ⟨g51, 0, none⟩)), (6, .bool false), (18, .bool true), (19, .bool false), (21, .agg #[.string ⟨s.toArray⟩, .string ⟨t.toArray⟩]), (22, .tuple #[.agg #[.bool (neg (qn x)), .slice A54 (zl (qn x)) c55, .bool (neg (ql x)), .slice B56 (zl (ql x)) d57], .bool true]), (20, .tuple #[.agg #[.bool (neg (qn x)), .slice A54 (zl (qn x)) c55, .bool (neg (ql x)), .slice B56 (zl (ql x)) d57], .bool true]), (23, .agg #[.bool (neg (qn x)), .slice A54 (zl (qn x)) c55, .bool (neg (ql x)), .slice B56 (zl (ql x)) d57]), (24, .bool true), (7, .pointer (some ⟨g61, 0, none⟩)), (8, .bool true), (25, .agg #[.string ⟨s.toArray⟩, .string ⟨t.toArray⟩]), (26, .slice (some ⟨g64, 0, none⟩) 1 1), (27, .bool false), (28, .bool false), (29, .string ⟨u.toArray⟩), (30, .int .i64 (u.length : Nat)), (31, .bool false), (32, .bool false), (33, .bool true), (9, .pointer (some ⟨g78, 0, none⟩)), (10, .pointer (some ⟨g80, 0, none⟩))] ∧ St w0 w [bk g80 #[.bool (neg (qd x)), .slice A73 (zl (qd x)) c74] 36, bk g78 #[.bool (neg (qn x)), .slice A68 (zl (qn x)) c69] 36, bk g61 #[.bool (neg (qn x)), .slice A54 (zl (qn x)) c55, .bool (neg (ql x)), .slice B56 (zl (ql x)) d57] 91, bk g51 #[.string ⟨s.toArray⟩, .string ⟨t.toArray⟩] 89] [pfZ A73 c74 (qd x), pfZ A68 c69 (qn x), pfRow fF FF 2 (some ⟨g64, 0, none⟩) 1 1 ([(s, t)]), pfRd 2 (some ⟨g64, 0, none⟩) 1 1 (fl fF [(s, t)]), pfZ B56 d57 (ql x), pfZ A54 c55 (qn x)]) ?_ ?_
  · refine region_any (n := 8) (Sk [bk g61 #[.bool (neg (qn x)), .slice A54 (zl (qn x)) c55, .bool (neg (ql x)), .slice B56 (zl (ql x)) d57] 91, bk g51 #[.string ⟨s.toArray⟩, .string ⟨t.toArray⟩] 89] [pfRow fF FF 2 (some ⟨g64, 0, none⟩) 1 1 ([(s, t)]), pfRd 2 (some ⟨g64, 0, none⟩) 1 1 (fl fF [(s, t)]), pfZ B56 d57 (ql x), pfZ A54 c55 (qn x)] [6, 7] []) mixed rfl henv hst ?_
    clear henv hst; intro w67 henv hst
    refine tL (i := 0) 0 0 [1, 3, 6, 7] rfl (by kernel_rfl) (fun _ _ _ h => h) henv rfl ty_anvil_ratio_Rat rfl hst rfl rfl rfl ?_
    clear henv a; intro a henv
    refine tL (i := 2) 0 0 [3, 6, 7] rfl (by kernel_rfl) (fun _ _ _ h => h) henv rfl ty_anvil_ratio_Rat rfl hst rfl rfl rfl ?_
    clear henv a; intro a henv
    refine sAny_all (rs := [1, 4, 5]) (by kernel_rfl) (by simp) ?_
    simp only [List.forall_mem_cons, List.not_mem_nil, false_implies, implies_true, and_true]
    refine ⟨?_, ?_, ?_⟩
    · have hs71 := sx.n
      refine ⟨_, rfl, rfl, op_call henv rfl Tryd.call88 rfl (num_q (x := x) (show ZIn _ A54 c55 (qn x) from hst.pat (k := 3) rfl) (show ZIn _ B56 d57 (ql x) from hst.pat (k := 2) rfl)) ?_⟩
      rintro e w72 ⟨_, rfl, ⟨A68, c69, rfl, hz70⟩, hb⟩
      refine ⟨_, rfl, ?_⟩
      clear henv a; intro a henv
      replace hst := (hst.call hb).addZ hz70 ⟨nou_bk rfl, nou_bk rfl, trivial⟩
      clear hz70
      clear hb
      refine ⟨.inr ⟨hst.kn.pick [0, 1] (rg 1 4), .inr (hst.kn.pick [] [])⟩, ?_⟩
      refine sAny_all (rs := [3, 4, 5]) (by kernel_rfl) (by simp) ?_
      simp only [List.forall_mem_cons, List.not_mem_nil, false_implies, implies_true, and_true]
      refine ⟨?_, ?_, ?_⟩
      · have hs76 := sx.d
        refine ⟨_, rfl, rfl, op_call henv rfl Tryd.call89 rfl (den_q (x := x) (show ZIn _ A54 c55 (qn x) from hst.pat (k := 4) rfl) (show ZIn _ B56 d57 (ql x) from hst.pat (k := 3) rfl) sx (by omega)) ?_⟩
        rintro e w77 ⟨_, rfl, ⟨A73, c74, rfl, hz75⟩, hb⟩
        refine ⟨_, rfl, ?_⟩
        clear henv a; intro a henv
        replace hst := (hst.call hb).addZ hz75 ⟨nou_bk rfl, nou_bk rfl, trivial⟩
        clear hz75
        clear hb
        refine ⟨.inr ⟨hst.kn.pick [0, 1] (rg 2 4), .inr (hst.kn.pick [] [])⟩, ?_⟩
        refine sAny_all (rs := [4, 5]) (by kernel_rfl) (by simp) ?_
        simp only [List.forall_mem_cons, List.not_mem_nil, false_implies, implies_true, and_true]
        refine ⟨?_, ?_⟩
        · refine ⟨_, rfl, rfl, op_alloc (c := #[.bool (neg 0), .slice none (zl 0) 0]) henv hst rfl zero_anvil_integer_Int zcells ?_⟩
          clear henv hst a; intro a w79 g78 henv hst
          refine ⟨.inr ⟨hst.kn.pick [1, 2] (rg 2 4), .inr (hst.kn.pick [] [])⟩, ?_⟩
          refine sAny_one (i := 5) (by kernel_rfl) rfl rfl (op_alloc (c := #[.bool (neg 0), .slice none (zl 0) 0]) henv hst rfl zero_anvil_integer_Int zcells ?_)
          clear henv hst a; intro a w81 g80 henv hst
          refine ⟨.inr ⟨hst.kn.pick [2, 3] (rg 2 4), .inr (hst.kn.pick [] [])⟩, ?_⟩
          refine sAny_one (i := 6) (by kernel_rfl) rfl rfl (op_store (k := 1) (c' := #[.bool (neg (qn x)), .slice A68 (zl (qn x)) c69]) henv hst (ty_anvil_integer_Int.size) rfl rfl rfl rfl (by simp) rfl rfl ?_)
          clear henv hst a; intro a w82 henv hst
          refine ⟨.inr ⟨hst.kn.pick [2, 3] (rg 2 4), .inl rfl⟩, ?_⟩
          refine sAny_one (i := 7) (by kernel_rfl) rfl rfl (op_store (k := 0) (c' := #[.bool (neg (qd x)), .slice A73 (zl (qd x)) c74]) henv hst (ty_anvil_integer_Int.size) rfl rfl rfl rfl (by simp) rfl rfl ?_)
          clear henv hst a; intro a w83 henv hst
          refine ⟨.inr ⟨hst.kn.pick [2, 3] (rg 2 4), .inl rfl⟩, ?_⟩
          refine sAny_done (by kernel_rfl) ?_ _
          exact th_n ⟨A68, c69, A73, c74, g78, g80, henv.sub ⟨rfl, rfl, rfl, rfl, rfl, rfl, rfl, rfl, rfl, rfl, rfl, rfl, rfl, rfl, rfl, rfl, rfl, rfl, rfl, rfl, rfl, rfl, rfl, rfl, rfl, trivial⟩, hst.pick [0, 1, 2, 3] [0, 1, 2, 3, 4, 5] (by decide)⟩
        · refine ⟨_, rfl, rfl, op_alloc (c := #[.bool (neg 0), .slice none (zl 0) 0]) henv hst rfl zero_anvil_integer_Int zcells ?_⟩
          clear henv hst a; intro a w85 g84 henv hst
          refine ⟨.inr ⟨hst.kn.pick [1, 2] (rg 2 4), .inr (hst.kn.pick [] [])⟩, ?_⟩
          refine sAny_one (i := 4) (by kernel_rfl) rfl rfl (op_alloc (c := #[.bool (neg 0), .slice none (zl 0) 0]) henv hst rfl zero_anvil_integer_Int zcells ?_)
          clear henv hst a; intro a w87 g86 henv hst
          refine ⟨.inr ⟨hst.kn.pick [2, 3] (rg 2 4), .inr (hst.kn.pick [] [])⟩, ?_⟩
          refine sAny_one (i := 6) (by kernel_rfl) rfl rfl (op_store (k := 0) (c' := #[.bool (neg (qn x)), .slice A68 (zl (qn x)) c69]) henv hst (ty_anvil_integer_Int.size) rfl rfl rfl rfl (by simp) rfl rfl ?_)
          clear henv hst a; intro a w88 henv hst
          refine ⟨.inr ⟨hst.kn.pick [2, 3] (rg 2 4), .inl rfl⟩, ?_⟩
          refine sAny_one (i := 7) (by kernel_rfl) rfl rfl (op_store (k := 1) (c' := #[.bool (neg (qd x)), .slice A73 (zl (qd x)) c74]) henv hst (ty_anvil_integer_Int.size) rfl rfl rfl rfl (by simp) rfl rfl ?_)
          clear henv hst a; intro a w89 henv hst
          refine ⟨.inr ⟨hst.kn.pick [2, 3] (rg 2 4), .inl rfl⟩, ?_⟩
          refine sAny_done (by kernel_rfl) ?_ _
          exact th_n ⟨A68, c69, A73, c74, g86, g84, henv.sub ⟨rfl, rfl, rfl, rfl, rfl, rfl, rfl, rfl, rfl, rfl, rfl, rfl, rfl, rfl, rfl, rfl, rfl, rfl, rfl, rfl, rfl, rfl, rfl, rfl, rfl, trivial⟩, hst.pick [1, 0, 2, 3] [0, 1, 2, 3, 4, 5] (by decide)⟩
      · refine ⟨_, rfl, rfl, op_alloc (c := #[.bool (neg 0), .slice none (zl 0) 0]) henv hst rfl zero_anvil_integer_Int zcells ?_⟩
        clear henv hst a; intro a w91 g90 henv hst
        refine ⟨.inr ⟨hst.kn.pick [1, 2] (rg 1 4), .inr (hst.kn.pick [] [])⟩, ?_⟩
        refine sAny_all (rs := [3, 5]) (by kernel_rfl) (by simp) ?_
        simp only [List.forall_mem_cons, List.not_mem_nil, false_implies, implies_true, and_true]
        refine ⟨?_, ?_⟩
        · have hs95 := sx.d
          refine ⟨_, rfl, rfl, op_call henv rfl Tryd.call89 rfl (den_q (x := x) (show ZIn _ A54 c55 (qn x) from hst.pat (k := 4) rfl) (show ZIn _ B56 d57 (ql x) from hst.pat (k := 3) rfl) sx (by omega)) ?_⟩
          rintro e w96 ⟨_, rfl, ⟨A92, c93, rfl, hz94⟩, hb⟩
          refine ⟨_, rfl, ?_⟩
          clear henv a; intro a henv
          replace hst := (hst.call hb).addZ hz94 ⟨nou_bk rfl, nou_bk rfl, nou_bk rfl, trivial⟩
          clear hz94
          clear hb
          refine ⟨.inr ⟨hst.kn.pick [1, 2] (rg 2 4), .inr (hst.kn.pick [] [])⟩, ?_⟩
          refine sAny_one (i := 5) (by kernel_rfl) rfl rfl (op_alloc (c := #[.bool (neg 0), .slice none (zl 0) 0]) henv hst rfl zero_anvil_integer_Int zcells ?_)
          clear henv hst a; intro a w98 g97 henv hst
          refine ⟨.inr ⟨hst.kn.pick [2, 3] (rg 2 4), .inr (hst.kn.pick [] [])⟩, ?_⟩
          refine sAny_one (i := 6) (by kernel_rfl) rfl rfl (op_store (k := 1) (c' := #[.bool (neg (qn x)), .slice A68 (zl (qn x)) c69]) henv hst (ty_anvil_integer_Int.size) rfl rfl rfl rfl (by simp) rfl rfl ?_)
          clear henv hst a; intro a w99 henv hst
          refine ⟨.inr ⟨hst.kn.pick [2, 3] (rg 2 4), .inl rfl⟩, ?_⟩
          refine sAny_one (i := 7) (by kernel_rfl) rfl rfl (op_store (k := 0) (c' := #[.bool (neg (qd x)), .slice A92 (zl (qd x)) c93]) henv hst (ty_anvil_integer_Int.size) rfl rfl rfl rfl (by simp) rfl rfl ?_)
          clear henv hst a; intro a w100 henv hst
          refine ⟨.inr ⟨hst.kn.pick [2, 3] (rg 2 4), .inl rfl⟩, ?_⟩
          refine sAny_done (by kernel_rfl) ?_ _
          exact th_n ⟨A68, c69, A92, c93, g90, g97, henv.sub ⟨rfl, rfl, rfl, rfl, rfl, rfl, rfl, rfl, rfl, rfl, rfl, rfl, rfl, rfl, rfl, rfl, rfl, rfl, rfl, rfl, rfl, rfl, rfl, rfl, rfl, trivial⟩, hst.pick [0, 1, 2, 3] [0, 1, 2, 3, 4, 5] (by decide)⟩
        · refine ⟨_, rfl, rfl, op_alloc (c := #[.bool (neg 0), .slice none (zl 0) 0]) henv hst rfl zero_anvil_integer_Int zcells ?_⟩
          clear henv hst a; intro a w102 g101 henv hst
          refine ⟨.inr ⟨hst.kn.pick [2, 3] (rg 1 4), .inr (hst.kn.pick [] [])⟩, ?_⟩
          have hs106 := sx.d
          refine sAny_one (i := 3) (by kernel_rfl) rfl rfl (op_call henv rfl Tryd.call89 rfl (den_q (x := x) (show ZIn _ A54 c55 (qn x) from hst.pat (k := 4) rfl) (show ZIn _ B56 d57 (ql x) from hst.pat (k := 3) rfl) sx (by omega)) ?_)
          rintro e w107 ⟨_, rfl, ⟨A103, c104, rfl, hz105⟩, hb⟩
          refine ⟨_, rfl, ?_⟩
          clear henv a; intro a henv
          replace hst := (hst.call hb).addZ hz105 ⟨nou_bk rfl, nou_bk rfl, nou_bk rfl, nou_bk rfl, trivial⟩
          clear hz105
          clear hb
          refine ⟨.inr ⟨hst.kn.pick [2, 3] (rg 2 4), .inr (hst.kn.pick [] [])⟩, ?_⟩
          refine sAny_one (i := 6) (by kernel_rfl) rfl rfl (op_store (k := 1) (c' := #[.bool (neg (qn x)), .slice A68 (zl (qn x)) c69]) henv hst (ty_anvil_integer_Int.size) rfl rfl rfl rfl (by simp) rfl rfl ?_)
          clear henv hst a; intro a w108 henv hst
          refine ⟨.inr ⟨hst.kn.pick [2, 3] (rg 2 4), .inl rfl⟩, ?_⟩
          refine sAny_one (i := 7) (by kernel_rfl) rfl rfl (op_store (k := 0) (c' := #[.bool (neg (qd x)), .slice A103 (zl (qd x)) c104]) henv hst (ty_anvil_integer_Int.size) rfl rfl rfl rfl (by simp) rfl rfl ?_)
          clear henv hst a; intro a w109 henv hst
          refine ⟨.inr ⟨hst.kn.pick [2, 3] (rg 2 4), .inl rfl⟩, ?_⟩
          refine sAny_done (by kernel_rfl) ?_ _
          exact th_n ⟨A68, c69, A103, c104, g90, g101, henv.sub ⟨rfl, rfl, rfl, rfl, rfl, rfl, rfl, rfl, rfl, rfl, rfl, rfl, rfl, rfl, rfl, rfl, rfl, rfl, rfl, rfl, rfl, rfl, rfl, rfl, rfl, trivial⟩, hst.pick [0, 1, 2, 3] [0, 1, 2, 3, 4, 5] (by decide)⟩
      · refine ⟨_, rfl, rfl, op_alloc (c := #[.bool (neg 0), .slice none (zl 0) 0]) henv hst rfl zero_anvil_integer_Int zcells ?_⟩
        clear henv hst a; intro a w111 g110 henv hst
        refine ⟨.inr ⟨hst.kn.pick [1, 2] (rg 1 4), .inr (hst.kn.pick [] [])⟩, ?_⟩
        refine sAny_all (rs := [3, 4]) (by kernel_rfl) (by simp) ?_
        simp only [List.forall_mem_cons, List.not_mem_nil, false_implies, implies_true, and_true]
        refine ⟨?_, ?_⟩
        · have hs115 := sx.d
          refine ⟨_, rfl, rfl, op_call henv rfl Tryd.call89 rfl (den_q (x := x) (show ZIn _ A54 c55 (qn x) from hst.pat (k := 4) rfl) (show ZIn _ B56 d57 (ql x) from hst.pat (k := 3) rfl) sx (by omega)) ?_⟩
          rintro e w116 ⟨_, rfl, ⟨A112, c113, rfl, hz114⟩, hb⟩
          refine ⟨_, rfl, ?_⟩
          clear henv a; intro a henv
          replace hst := (hst.call hb).addZ hz114 ⟨nou_bk rfl, nou_bk rfl, nou_bk rfl, trivial⟩
          clear hz114
          clear hb
          refine ⟨.inr ⟨hst.kn.pick [1, 2] (rg 2 4), .inr (hst.kn.pick [] [])⟩, ?_⟩
          refine sAny_one (i := 4) (by kernel_rfl) rfl rfl (op_alloc (c := #[.bool (neg 0), .slice none (zl 0) 0]) henv hst rfl zero_anvil_integer_Int zcells ?_)
          clear henv hst a; intro a w118 g117 henv hst
          refine ⟨.inr ⟨hst.kn.pick [2, 3] (rg 2 4), .inr (hst.kn.pick [] [])⟩, ?_⟩
          refine sAny_one (i := 6) (by kernel_rfl) rfl rfl (op_store (k := 0) (c' := #[.bool (neg (qn x)), .slice A68 (zl (qn x)) c69]) henv hst (ty_anvil_integer_Int.size) rfl rfl rfl rfl (by simp) rfl rfl ?_)
          clear henv hst a; intro a w119 henv hst
          refine ⟨.inr ⟨hst.kn.pick [2, 3] (rg 2 4), .inl rfl⟩, ?_⟩
          refine sAny_one (i := 7) (by kernel_rfl) rfl rfl (op_store (k := 1) (c' := #[.bool (neg (qd x)), .slice A112 (zl (qd x)) c113]) henv hst (ty_anvil_integer_Int.size) rfl rfl rfl rfl (by simp) rfl rfl ?_)
          clear henv hst a; intro a w120 henv hst
          refine ⟨.inr ⟨hst.kn.pick [2, 3] (rg 2 4), .inl rfl⟩, ?_⟩
          refine sAny_done (by kernel_rfl) ?_ _
          exact th_n ⟨A68, c69, A112, c113, g117, g110, henv.sub ⟨rfl, rfl, rfl, rfl, rfl, rfl, rfl, rfl, rfl, rfl, rfl, rfl, rfl, rfl, rfl, rfl, rfl, rfl, rfl, rfl, rfl, rfl, rfl, rfl, rfl, trivial⟩, hst.pick [1, 0, 2, 3] [0, 1, 2, 3, 4, 5] (by decide)⟩
        · refine ⟨_, rfl, rfl, op_alloc (c := #[.bool (neg 0), .slice none (zl 0) 0]) henv hst rfl zero_anvil_integer_Int zcells ?_⟩
          clear henv hst a; intro a w122 g121 henv hst
          refine ⟨.inr ⟨hst.kn.pick [2, 3] (rg 1 4), .inr (hst.kn.pick [] [])⟩, ?_⟩
          have hs126 := sx.d
          refine sAny_one (i := 3) (by kernel_rfl) rfl rfl (op_call henv rfl Tryd.call89 rfl (den_q (x := x) (show ZIn _ A54 c55 (qn x) from hst.pat (k := 4) rfl) (show ZIn _ B56 d57 (ql x) from hst.pat (k := 3) rfl) sx (by omega)) ?_)
          rintro e w127 ⟨_, rfl, ⟨A123, c124, rfl, hz125⟩, hb⟩
          refine ⟨_, rfl, ?_⟩
          clear henv a; intro a henv
          replace hst := (hst.call hb).addZ hz125 ⟨nou_bk rfl, nou_bk rfl, nou_bk rfl, nou_bk rfl, trivial⟩
          clear hz125
          clear hb
          refine ⟨.inr ⟨hst.kn.pick [2, 3] (rg 2 4), .inr (hst.kn.pick [] [])⟩, ?_⟩
          refine sAny_one (i := 6) (by kernel_rfl) rfl rfl (op_store (k := 0) (c' := #[.bool (neg (qn x)), .slice A68 (zl (qn x)) c69]) henv hst (ty_anvil_integer_Int.size) rfl rfl rfl rfl (by simp) rfl rfl ?_)
          clear henv hst a; intro a w128 henv hst
          refine ⟨.inr ⟨hst.kn.pick [2, 3] (rg 2 4), .inl rfl⟩, ?_⟩
          refine sAny_one (i := 7) (by kernel_rfl) rfl rfl (op_store (k := 1) (c' := #[.bool (neg (qd x)), .slice A123 (zl (qd x)) c124]) henv hst (ty_anvil_integer_Int.size) rfl rfl rfl rfl (by simp) rfl rfl ?_)
          clear henv hst a; intro a w129 henv hst
          refine ⟨.inr ⟨hst.kn.pick [2, 3] (rg 2 4), .inl rfl⟩, ?_⟩
          refine sAny_done (by kernel_rfl) ?_ _
          exact th_n ⟨A68, c69, A123, c124, g121, g110, henv.sub ⟨rfl, rfl, rfl, rfl, rfl, rfl, rfl, rfl, rfl, rfl, rfl, rfl, rfl, rfl, rfl, rfl, rfl, rfl, rfl, rfl, rfl, rfl, rfl, rfl, rfl, trivial⟩, hst.pick [1, 0, 2, 3] [0, 1, 2, 3, 4, 5] (by decide)⟩
    · refine ⟨_, rfl, rfl, op_alloc (c := #[.bool (neg 0), .slice none (zl 0) 0]) henv hst rfl zero_anvil_integer_Int zcells ?_⟩
      clear henv hst a; intro a w131 g130 henv hst
      refine ⟨.inr ⟨hst.kn.pick [1, 2] (rg 0 4), .inr (hst.kn.pick [] [])⟩, ?_⟩
      refine sAny_all (rs := [1, 5]) (by kernel_rfl) (by simp) ?_
      simp only [List.forall_mem_cons, List.not_mem_nil, false_implies, implies_true, and_true]
      refine ⟨?_, ?_⟩
      · have hs135 := sx.n
        refine ⟨_, rfl, rfl, op_call henv rfl Tryd.call88 rfl (num_q (x := x) (show ZIn _ A54 c55 (qn x) from hst.pat (k := 3) rfl) (show ZIn _ B56 d57 (ql x) from hst.pat (k := 2) rfl)) ?_⟩
        rintro e w136 ⟨_, rfl, ⟨A132, c133, rfl, hz134⟩, hb⟩
        refine ⟨_, rfl, ?_⟩
        clear henv a; intro a henv
        replace hst := (hst.call hb).addZ hz134 ⟨nou_bk rfl, nou_bk rfl, nou_bk rfl, trivial⟩
        clear hz134
        clear hb
        refine ⟨.inr ⟨hst.kn.pick [1, 2] (rg 1 4), .inr (hst.kn.pick [] [])⟩, ?_⟩
        refine sAny_all (rs := [3, 5]) (by kernel_rfl) (by simp) ?_
        simp only [List.forall_mem_cons, List.not_mem_nil, false_implies, implies_true, and_true]
        refine ⟨?_, ?_⟩
        · have hs140 := sx.d
          refine ⟨_, rfl, rfl, op_call henv rfl Tryd.call89 rfl (den_q (x := x) (show ZIn _ A54 c55 (qn x) from hst.pat (k := 4) rfl) (show ZIn _ B56 d57 (ql x) from hst.pat (k := 3) rfl) sx (by omega)) ?_⟩
          rintro e w141 ⟨_, rfl, ⟨A137, c138, rfl, hz139⟩, hb⟩
          refine ⟨_, rfl, ?_⟩
          clear henv a; intro a henv
          replace hst := (hst.call hb).addZ hz139 ⟨nou_bk rfl, nou_bk rfl, nou_bk rfl, trivial⟩
          clear hz139
          clear hb
          refine ⟨.inr ⟨hst.kn.pick [1, 2] (rg 2 4), .inr (hst.kn.pick [] [])⟩, ?_⟩
          refine sAny_one (i := 5) (by kernel_rfl) rfl rfl (op_alloc (c := #[.bool (neg 0), .slice none (zl 0) 0]) henv hst rfl zero_anvil_integer_Int zcells ?_)
          clear henv hst a; intro a w143 g142 henv hst
          refine ⟨.inr ⟨hst.kn.pick [2, 3] (rg 2 4), .inr (hst.kn.pick [] [])⟩, ?_⟩
          refine sAny_one (i := 6) (by kernel_rfl) rfl rfl (op_store (k := 1) (c' := #[.bool (neg (qn x)), .slice A132 (zl (qn x)) c133]) henv hst (ty_anvil_integer_Int.size) rfl rfl rfl rfl (by simp) rfl rfl ?_)
          clear henv hst a; intro a w144 henv hst
          refine ⟨.inr ⟨hst.kn.pick [2, 3] (rg 2 4), .inl rfl⟩, ?_⟩
          refine sAny_one (i := 7) (by kernel_rfl) rfl rfl (op_store (k := 0) (c' := #[.bool (neg (qd x)), .slice A137 (zl (qd x)) c138]) henv hst (ty_anvil_integer_Int.size) rfl rfl rfl rfl (by simp) rfl rfl ?_)
          clear henv hst a; intro a w145 henv hst
          refine ⟨.inr ⟨hst.kn.pick [2, 3] (rg 2 4), .inl rfl⟩, ?_⟩
          refine sAny_done (by kernel_rfl) ?_ _
          exact th_n ⟨A132, c133, A137, c138, g130, g142, henv.sub ⟨rfl, rfl, rfl, rfl, rfl, rfl, rfl, rfl, rfl, rfl, rfl, rfl, rfl, rfl, rfl, rfl, rfl, rfl, rfl, rfl, rfl, rfl, rfl, rfl, rfl, trivial⟩, hst.pick [0, 1, 2, 3] [0, 1, 2, 3, 4, 5] (by decide)⟩
        · refine ⟨_, rfl, rfl, op_alloc (c := #[.bool (neg 0), .slice none (zl 0) 0]) henv hst rfl zero_anvil_integer_Int zcells ?_⟩
          clear henv hst a; intro a w147 g146 henv hst
          refine ⟨.inr ⟨hst.kn.pick [2, 3] (rg 1 4), .inr (hst.kn.pick [] [])⟩, ?_⟩
          have hs151 := sx.d
          refine sAny_one (i := 3) (by kernel_rfl) rfl rfl (op_call henv rfl Tryd.call89 rfl (den_q (x := x) (show ZIn _ A54 c55 (qn x) from hst.pat (k := 4) rfl) (show ZIn _ B56 d57 (ql x) from hst.pat (k := 3) rfl) sx (by omega)) ?_)
          rintro e w152 ⟨_, rfl, ⟨A148, c149, rfl, hz150⟩, hb⟩
          refine ⟨_, rfl, ?_⟩
          clear henv a; intro a henv
          replace hst := (hst.call hb).addZ hz150 ⟨nou_bk rfl, nou_bk rfl, nou_bk rfl, nou_bk rfl, trivial⟩
          clear hz150
          clear hb
          refine ⟨.inr ⟨hst.kn.pick [2, 3] (rg 2 4), .inr (hst.kn.pick [] [])⟩, ?_⟩
          refine sAny_one (i := 6) (by kernel_rfl) rfl rfl (op_store (k := 1) (c' := #[.bool (neg (qn x)), .slice A132 (zl (qn x)) c133]) henv hst (ty_anvil_integer_Int.size) rfl rfl rfl rfl (by simp) rfl rfl ?_)
          clear henv hst a; intro a w153 henv hst
          refine ⟨.inr ⟨hst.kn.pick [2, 3] (rg 2 4), .inl rfl⟩, ?_⟩
          refine sAny_one (i := 7) (by kernel_rfl) rfl rfl (op_store (k := 0) (c' := #[.bool (neg (qd x)), .slice A148 (zl (qd x)) c149]) henv hst (ty_anvil_integer_Int.size) rfl rfl rfl rfl (by simp) rfl rfl ?_)
          clear henv hst a; intro a w154 henv hst
          refine ⟨.inr ⟨hst.kn.pick [2, 3] (rg 2 4), .inl rfl⟩, ?_⟩
          refine sAny_done (by kernel_rfl) ?_ _
          exact th_n ⟨A132, c133, A148, c149, g130, g146, henv.sub ⟨rfl, rfl, rfl, rfl, rfl, rfl, rfl, rfl, rfl, rfl, rfl, rfl, rfl, rfl, rfl, rfl, rfl, rfl, rfl, rfl, rfl, rfl, rfl, rfl, rfl, trivial⟩, hst.pick [0, 1, 2, 3] [0, 1, 2, 3, 4, 5] (by decide)⟩
      · refine ⟨_, rfl, rfl, op_alloc (c := #[.bool (neg 0), .slice none (zl 0) 0]) henv hst rfl zero_anvil_integer_Int zcells ?_⟩
        clear henv hst a; intro a w156 g155 henv hst
        refine ⟨.inr ⟨hst.kn.pick [2, 3] (rg 0 4), .inr (hst.kn.pick [] [])⟩, ?_⟩
        have hs160 := sx.n
        refine sAny_one (i := 1) (by kernel_rfl) rfl rfl (op_call henv rfl Tryd.call88 rfl (num_q (x := x) (show ZIn _ A54 c55 (qn x) from hst.pat (k := 3) rfl) (show ZIn _ B56 d57 (ql x) from hst.pat (k := 2) rfl)) ?_)
        rintro e w161 ⟨_, rfl, ⟨A157, c158, rfl, hz159⟩, hb⟩
        refine ⟨_, rfl, ?_⟩
        clear henv a; intro a henv
        replace hst := (hst.call hb).addZ hz159 ⟨nou_bk rfl, nou_bk rfl, nou_bk rfl, nou_bk rfl, trivial⟩
        clear hz159
        clear hb
        refine ⟨.inr ⟨hst.kn.pick [2, 3] (rg 1 4), .inr (hst.kn.pick [] [])⟩, ?_⟩
        have hs165 := sx.d
        refine sAny_one (i := 3) (by kernel_rfl) rfl rfl (op_call henv rfl Tryd.call89 rfl (den_q (x := x) (show ZIn _ A54 c55 (qn x) from hst.pat (k := 4) rfl) (show ZIn _ B56 d57 (ql x) from hst.pat (k := 3) rfl) sx (by omega)) ?_)
        rintro e w166 ⟨_, rfl, ⟨A162, c163, rfl, hz164⟩, hb⟩
        refine ⟨_, rfl, ?_⟩
        clear henv a; intro a henv
        replace hst := (hst.call hb).addZ hz164 ⟨nou_bk rfl, nou_bk rfl, nou_bk rfl, nou_bk rfl, trivial⟩
        clear hz164
        clear hb
        refine ⟨.inr ⟨hst.kn.pick [2, 3] (rg 2 4), .inr (hst.kn.pick [] [])⟩, ?_⟩
        refine sAny_one (i := 6) (by kernel_rfl) rfl rfl (op_store (k := 1) (c' := #[.bool (neg (qn x)), .slice A157 (zl (qn x)) c158]) henv hst (ty_anvil_integer_Int.size) rfl rfl rfl rfl (by simp) rfl rfl ?_)
        clear henv hst a; intro a w167 henv hst
        refine ⟨.inr ⟨hst.kn.pick [2, 3] (rg 2 4), .inl rfl⟩, ?_⟩
        refine sAny_one (i := 7) (by kernel_rfl) rfl rfl (op_store (k := 0) (c' := #[.bool (neg (qd x)), .slice A162 (zl (qd x)) c163]) henv hst (ty_anvil_integer_Int.size) rfl rfl rfl rfl (by simp) rfl rfl ?_)
        clear henv hst a; intro a w168 henv hst
        refine ⟨.inr ⟨hst.kn.pick [2, 3] (rg 2 4), .inl rfl⟩, ?_⟩
        refine sAny_done (by kernel_rfl) ?_ _
        exact th_n ⟨A157, c158, A162, c163, g130, g155, henv.sub ⟨rfl, rfl, rfl, rfl, rfl, rfl, rfl, rfl, rfl, rfl, rfl, rfl, rfl, rfl, rfl, rfl, rfl, rfl, rfl, rfl, rfl, rfl, rfl, rfl, rfl, trivial⟩, hst.pick [0, 1, 2, 3] [0, 1, 2, 3, 4, 5] (by decide)⟩
    · refine ⟨_, rfl, rfl, op_alloc (c := #[.bool (neg 0), .slice none (zl 0) 0]) henv hst rfl zero_anvil_integer_Int zcells ?_⟩
      clear henv hst a; intro a w170 g169 henv hst
      refine ⟨.inr ⟨hst.kn.pick [1, 2] (rg 0 4), .inr (hst.kn.pick [] [])⟩, ?_⟩
      refine sAny_all (rs := [1, 4]) (by kernel_rfl) (by simp) ?_
      simp only [List.forall_mem_cons, List.not_mem_nil, false_implies, implies_true, and_true]
      refine ⟨?_, ?_⟩
      · have hs174 := sx.n
        refine ⟨_, rfl, rfl, op_call henv rfl Tryd.call88 rfl (num_q (x := x) (show ZIn _ A54 c55 (qn x) from hst.pat (k := 3) rfl) (show ZIn _ B56 d57 (ql x) from hst.pat (k := 2) rfl)) ?_⟩
        rintro e w175 ⟨_, rfl, ⟨A171, c172, rfl, hz173⟩, hb⟩
        refine ⟨_, rfl, ?_⟩
        clear henv a; intro a henv
        replace hst := (hst.call hb).addZ hz173 ⟨nou_bk rfl, nou_bk rfl, nou_bk rfl, trivial⟩
        clear hz173
        clear hb
        refine ⟨.inr ⟨hst.kn.pick [1, 2] (rg 1 4), .inr (hst.kn.pick [] [])⟩, ?_⟩
        refine sAny_all (rs := [3, 4]) (by kernel_rfl) (by simp) ?_
        simp only [List.forall_mem_cons, List.not_mem_nil, false_implies, implies_true, and_true]
        refine ⟨?_, ?_⟩
        · have hs179 := sx.d
          refine ⟨_, rfl, rfl, op_call henv rfl Tryd.call89 rfl (den_q (x := x) (show ZIn _ A54 c55 (qn x) from hst.pat (k := 4) rfl) (show ZIn _ B56 d57 (ql x) from hst.pat (k := 3) rfl) sx (by omega)) ?_⟩
          rintro e w180 ⟨_, rfl, ⟨A176, c177, rfl, hz178⟩, hb⟩
          refine ⟨_, rfl, ?_⟩
          clear henv a; intro a henv
          replace hst := (hst.call hb).addZ hz178 ⟨nou_bk rfl, nou_bk rfl, nou_bk rfl, trivial⟩
          clear hz178
          clear hb
          refine ⟨.inr ⟨hst.kn.pick [1, 2] (rg 2 4), .inr (hst.kn.pick [] [])⟩, ?_⟩
          refine sAny_one (i := 4) (by kernel_rfl) rfl rfl (op_alloc (c := #[.bool (neg 0), .slice none (zl 0) 0]) henv hst rfl zero_anvil_integer_Int zcells ?_)
          clear henv hst a; intro a w182 g181 henv hst
          refine ⟨.inr ⟨hst.kn.pick [2, 3] (rg 2 4), .inr (hst.kn.pick [] [])⟩, ?_⟩
          refine sAny_one (i := 6) (by kernel_rfl) rfl rfl (op_store (k := 0) (c' := #[.bool (neg (qn x)), .slice A171 (zl (qn x)) c172]) henv hst (ty_anvil_integer_Int.size) rfl rfl rfl rfl (by simp) rfl rfl ?_)
          clear henv hst a; intro a w183 henv hst
          refine ⟨.inr ⟨hst.kn.pick [2, 3] (rg 2 4), .inl rfl⟩, ?_⟩
          refine sAny_one (i := 7) (by kernel_rfl) rfl rfl (op_store (k := 1) (c' := #[.bool (neg (qd x)), .slice A176 (zl (qd x)) c177]) henv hst (ty_anvil_integer_Int.size) rfl rfl rfl rfl (by simp) rfl rfl ?_)
          clear henv hst a; intro a w184 henv hst
          refine ⟨.inr ⟨hst.kn.pick [2, 3] (rg 2 4), .inl rfl⟩, ?_⟩
          refine sAny_done (by kernel_rfl) ?_ _
          exact th_n ⟨A171, c172, A176, c177, g181, g169, henv.sub ⟨rfl, rfl, rfl, rfl, rfl, rfl, rfl, rfl, rfl, rfl, rfl, rfl, rfl, rfl, rfl, rfl, rfl, rfl, rfl, rfl, rfl, rfl, rfl, rfl, rfl, trivial⟩, hst.pick [1, 0, 2, 3] [0, 1, 2, 3, 4, 5] (by decide)⟩
        · refine ⟨_, rfl, rfl, op_alloc (c := #[.bool (neg 0), .slice none (zl 0) 0]) henv hst rfl zero_anvil_integer_Int zcells ?_⟩
          clear henv hst a; intro a w186 g185 henv hst
          refine ⟨.inr ⟨hst.kn.pick [2, 3] (rg 1 4), .inr (hst.kn.pick [] [])⟩, ?_⟩
          have hs190 := sx.d
          refine sAny_one (i := 3) (by kernel_rfl) rfl rfl (op_call henv rfl Tryd.call89 rfl (den_q (x := x) (show ZIn _ A54 c55 (qn x) from hst.pat (k := 4) rfl) (show ZIn _ B56 d57 (ql x) from hst.pat (k := 3) rfl) sx (by omega)) ?_)
          rintro e w191 ⟨_, rfl, ⟨A187, c188, rfl, hz189⟩, hb⟩
          refine ⟨_, rfl, ?_⟩
          clear henv a; intro a henv
          replace hst := (hst.call hb).addZ hz189 ⟨nou_bk rfl, nou_bk rfl, nou_bk rfl, nou_bk rfl, trivial⟩
          clear hz189
          clear hb
          refine ⟨.inr ⟨hst.kn.pick [2, 3] (rg 2 4), .inr (hst.kn.pick [] [])⟩, ?_⟩
          refine sAny_one (i := 6) (by kernel_rfl) rfl rfl (op_store (k := 0) (c' := #[.bool (neg (qn x)), .slice A171 (zl (qn x)) c172]) henv hst (ty_anvil_integer_Int.size) rfl rfl rfl rfl (by simp) rfl rfl ?_)
          clear henv hst a; intro a w192 henv hst
          refine ⟨.inr ⟨hst.kn.pick [2, 3] (rg 2 4), .inl rfl⟩, ?_⟩
          refine sAny_one (i := 7) (by kernel_rfl) rfl rfl (op_store (k := 1) (c' := #[.bool (neg (qd x)), .slice A187 (zl (qd x)) c188]) henv hst (ty_anvil_integer_Int.size) rfl rfl rfl rfl (by simp) rfl rfl ?_)
          clear henv hst a; intro a w193 henv hst
          refine ⟨.inr ⟨hst.kn.pick [2, 3] (rg 2 4), .inl rfl⟩, ?_⟩
          refine sAny_done (by kernel_rfl) ?_ _
          exact th_n ⟨A171, c172, A187, c188, g185, g169, henv.sub ⟨rfl, rfl, rfl, rfl, rfl, rfl, rfl, rfl, rfl, rfl, rfl, rfl, rfl, rfl, rfl, rfl, rfl, rfl, rfl, rfl, rfl, rfl, rfl, rfl, rfl, trivial⟩, hst.pick [1, 0, 2, 3] [0, 1, 2, 3, 4, 5] (by decide)⟩
      · refine ⟨_, rfl, rfl, op_alloc (c := #[.bool (neg 0), .slice none (zl 0) 0]) henv hst rfl zero_anvil_integer_Int zcells ?_⟩
        clear henv hst a; intro a w195 g194 henv hst
        refine ⟨.inr ⟨hst.kn.pick [2, 3] (rg 0 4), .inr (hst.kn.pick [] [])⟩, ?_⟩
        have hs199 := sx.n
        refine sAny_one (i := 1) (by kernel_rfl) rfl rfl (op_call henv rfl Tryd.call88 rfl (num_q (x := x) (show ZIn _ A54 c55 (qn x) from hst.pat (k := 3) rfl) (show ZIn _ B56 d57 (ql x) from hst.pat (k := 2) rfl)) ?_)
        rintro e w200 ⟨_, rfl, ⟨A196, c197, rfl, hz198⟩, hb⟩
        refine ⟨_, rfl, ?_⟩
        clear henv a; intro a henv
        replace hst := (hst.call hb).addZ hz198 ⟨nou_bk rfl, nou_bk rfl, nou_bk rfl, nou_bk rfl, trivial⟩
        clear hz198
        clear hb
        refine ⟨.inr ⟨hst.kn.pick [2, 3] (rg 1 4), .inr (hst.kn.pick [] [])⟩, ?_⟩
        have hs204 := sx.d
        refine sAny_one (i := 3) (by kernel_rfl) rfl rfl (op_call henv rfl Tryd.call89 rfl (den_q (x := x) (show ZIn _ A54 c55 (qn x) from hst.pat (k := 4) rfl) (show ZIn _ B56 d57 (ql x) from hst.pat (k := 3) rfl) sx (by omega)) ?_)
        rintro e w205 ⟨_, rfl, ⟨A201, c202, rfl, hz203⟩, hb⟩
        refine ⟨_, rfl, ?_⟩
        clear henv a; intro a henv
        replace hst := (hst.call hb).addZ hz203 ⟨nou_bk rfl, nou_bk rfl, nou_bk rfl, nou_bk rfl, trivial⟩
        clear hz203
        clear hb
        refine ⟨.inr ⟨hst.kn.pick [2, 3] (rg 2 4), .inr (hst.kn.pick [] [])⟩, ?_⟩
        refine sAny_one (i := 6) (by kernel_rfl) rfl rfl (op_store (k := 0) (c' := #[.bool (neg (qn x)), .slice A196 (zl (qn x)) c197]) henv hst (ty_anvil_integer_Int.size) rfl rfl rfl rfl (by simp) rfl rfl ?_)
        clear henv hst a; intro a w206 henv hst
        refine ⟨.inr ⟨hst.kn.pick [2, 3] (rg 2 4), .inl rfl⟩, ?_⟩
        refine sAny_one (i := 7) (by kernel_rfl) rfl rfl (op_store (k := 1) (c' := #[.bool (neg (qd x)), .slice A201 (zl (qd x)) c202]) henv hst (ty_anvil_integer_Int.size) rfl rfl rfl rfl (by simp) rfl rfl ?_)
        clear henv hst a; intro a w207 henv hst
        refine ⟨.inr ⟨hst.kn.pick [2, 3] (rg 2 4), .inl rfl⟩, ?_⟩
        refine sAny_done (by kernel_rfl) ?_ _
        exact th_n ⟨A196, c197, A201, c202, g194, g169, henv.sub ⟨rfl, rfl, rfl, rfl, rfl, rfl, rfl, rfl, rfl, rfl, rfl, rfl, rfl, rfl, rfl, rfl, rfl, rfl, rfl, rfl, rfl, rfl, rfl, rfl, rfl, trivial⟩, hst.pick [1, 0, 2, 3] [0, 1, 2, 3, 4, 5] (by decide)⟩
  clear henv hst a
  rintro a w208 ⟨A68, c69, A73, c74, g78, g80, henv, hst⟩
  refine wp_seq ?_
  refine region_seq ?_
  revert a
  refine sA (v := .agg #[.bool (neg (qn x)), .slice A68 (zl (qn x)) c69]) rfl (fun _ henv => rn_load0 henv ty_anvil_integer_Int rfl (hst.oat (k := 1) rfl) rfl) ?_
  refine sA (v := .agg #[.bool (neg (qd x)), .slice A73 (zl (qd x)) c74]) rfl (fun _ henv => rn_load0 henv ty_anvil_integer_Int rfl (hst.oat (k := 0) rfl) rfl) ?_
  intro a henv
  refine seq_step rfl (op_call henv rfl Tryd.call90 rfl (make_qr (p := (qn x)) (q := (qd x)) (r := x) (show ZIn _ A68 c69 (qn x) from hst.pat (k := 1) rfl) (show ZIn _ A73 c74 (qd x) from hst.pat (k := 0) rfl) (by omega) (by omega) (qd_ne x) (q_self x)) ?_)
  rintro e w215 ⟨_, rfl, ⟨A209, c210, B211, d212, rfl, hz213, hz214⟩, hb⟩
  refine ⟨_, rfl, ?_⟩
  clear henv a; intro a henv
  replace hst := ((hst.call hb).addZ hz213 ⟨nou_bk rfl, nou_bk rfl, nou_bk rfl, nou_bk rfl, trivial⟩).addZ hz214 ⟨nou_bk rfl, nou_bk rfl, nou_bk rfl, nou_bk rfl, trivial⟩
  clear hz213 hz214
  clear hb
  revert a
  refine mA rfl rfl ?_
  refine sA (v := .agg #[.bool (neg (qn x)), .slice A209 (zl (qn x)) c210, .bool (neg (ql x)), .slice B211 (zl (ql x)) d212]) rfl (fun _ henv => rn_extract henv rfl rfl) ?_
  refine sA (v := .int .i64 0) rfl (fun _ henv => rn_extract henv rfl rfl) ?_
  intro a henv
  refine seq_step rfl (op_alloc (c := #[.bool (neg (qn 0)), .slice none (zl (qn 0)) 0, .bool (neg (ql 0)), .slice none (zl (ql 0)) 0]) henv hst rfl zero_anvil_ratio_Rat qcells ?_)
  clear henv hst a; intro a w217 g216 henv hst
  refine seq_step rfl (op_store (k := 0) (c' := #[.bool (neg (qn x)), .slice A209 (zl (qn x)) c210, .bool (neg (ql x)), .slice B211 (zl (ql x)) d212]) henv hst (ty_anvil_ratio_Rat.size) rfl rfl rfl rfl (by simp) rfl rfl ?_)
  clear henv hst a; intro a w218 henv hst
  refine sv (v := .int .i64 0) henv rfl (rn_assign henv rfl) ?_
  clear henv a; intro a henv
  refine wpList_nil ?_
  refine th_n ?_
  refine wp_seq ?_
  refine region_seq ?_
  refine sv (v := .agg #[.bool (neg (qn x)), .slice A54 (zl (qn x)) c55, .bool (neg (ql x)), .slice B56 (zl (ql x)) d57]) henv rfl (rn_load0 henv ty_anvil_ratio_Rat rfl (hst.oat (k := 3) rfl) rfl) ?_
  clear henv a; intro a henv
  refine seq_step rfl (op_call henv rfl Tryd.call92 rfl (text_q (x := x) (show ZIn _ A54 c55 (qn x) from hst.pat (k := 7) rfl) (show ZIn _ B56 d57 (ql x) from hst.pat (k := 6) rfl) sx (by omega)) ?_)
  rintro e w219 ⟨rfl, hb⟩
  refine ⟨_, rfl, ?_⟩
  clear henv a; intro a henv
  replace hst := hst.call hb
  clear hb
  refine seq_step rfl (op_call henv rfl Tryd.call91 rfl (q_read_ok (r := x) rfl htx) ?_)
  rintro e w226 ⟨_, rfl, ⟨A220, c221, B222, d223, rfl, hz224, hz225⟩, hb⟩
  refine ⟨_, rfl, ?_⟩
  clear henv a; intro a henv
  replace hst := ((hst.call hb).addZ hz224 ⟨nou_bk rfl, nou_bk rfl, nou_bk rfl, nou_bk rfl, nou_bk rfl, trivial⟩).addZ hz225 ⟨nou_bk rfl, nou_bk rfl, nou_bk rfl, nou_bk rfl, nou_bk rfl, trivial⟩
  clear hz224 hz225
  clear hb
  revert a
  refine mA rfl rfl ?_
  refine sA (v := .agg #[.bool (neg (qn x)), .slice A220 (zl (qn x)) c221, .bool (neg (ql x)), .slice B222 (zl (ql x)) d223]) rfl (fun _ henv => rn_extract henv rfl rfl) ?_
  refine sA (v := .agg #[.int .i64 0, .int .i64 0]) rfl (fun _ henv => rn_extract henv rfl rfl) ?_
  intro a henv
  refine seq_step rfl (op_alloc (c := #[.bool (neg (qn 0)), .slice none (zl (qn 0)) 0, .bool (neg (ql 0)), .slice none (zl (ql 0)) 0]) henv hst rfl zero_anvil_ratio_Rat qcells ?_)
  clear henv hst a; intro a w228 g227 henv hst
  refine seq_step rfl (op_alloc (c := #[.int .i64 0, .int .i64 0]) henv hst rfl zero_anvil_api_Spot rfl ?_)
  clear henv hst a; intro a w230 g229 henv hst
  refine seq_step rfl (op_store (k := 1) (c' := #[.bool (neg (qn x)), .slice A220 (zl (qn x)) c221, .bool (neg (ql x)), .slice B222 (zl (ql x)) d223]) henv hst (ty_anvil_ratio_Rat.size) rfl rfl rfl rfl (by simp) rfl rfl ?_)
  clear henv hst a; intro a w231 henv hst
  refine seq_step rfl (op_store (k := 0) (c' := #[.int .i64 0, .int .i64 0]) henv hst (ty_anvil_api_Spot.size) rfl rfl rfl rfl (by simp) rfl rfl ?_)
  clear henv hst a; intro a w232 henv hst
  refine wpList_nil ?_
  refine th_n ?_
  refine wp_seq ?_
  refine wp_seq ?_
  refine region_seq ?_
  refine sv (v := .agg #[.bool (neg (qd x)), .slice A73 (zl (qd x)) c74]) henv rfl (rn_load0 henv ty_anvil_integer_Int rfl (hst.oat (k := 3) rfl) rfl) ?_
  clear henv a; intro a henv
  refine seq_step rfl (op_call henv rfl Tryd.call31 rfl (sign_z (z := (qd x))) ?_)
  rintro e w233 ⟨rfl, hb⟩
  refine ⟨_, rfl, ?_⟩
  clear henv a; intro a henv
  replace hst := hst.call hb
  clear hb
  refine sv (v := .bool (decide ((qd x).sign ≤ (0 : Int)))) henv rfl (rn_bin henv rfl rfl rfl) ?_
  clear henv a; intro a henv
  rw [show (decide ((qd x).sign ≤ (0 : Int))) = false from (decide_eq_false (by have := Int.sign_eq_one_of_pos (qd_pos x); omega))] at henv
  revert a
  refine mA rfl rfl ?_
  refine gA (v := .agg #[.bool (neg (qn x)), .slice A68 (zl (qn x)) c69]) rfl rfl rfl rfl (fun _ henv => rn_load0 henv ty_anvil_integer_Int rfl (hst.oat (k := 4) rfl) rfl) ?_
  refine gA (v := .agg #[.bool (neg (qd x)), .slice A73 (zl (qd x)) c74]) rfl rfl rfl rfl (fun _ henv => rn_load0 henv ty_anvil_integer_Int rfl (hst.oat (k := 3) rfl) rfl) ?_
  intro a henv
  have hs234 := gcd_zq (qn x) (qd x)
  refine seq_g rfl henv rfl rfl (op_call henv rfl Tryd.call93 rfl (gcd_z (x := (qn x)) (y := (qd x)) (show ZIn _ A68 c69 (qn x) from hst.pat (k := 5) rfl) (show ZIn _ A73 c74 (qd x) from hst.pat (k := 4) rfl) (by omega) (by omega)) ?_)
  rintro e w238 ⟨_, rfl, ⟨A235, c236, rfl, hz237⟩, hb⟩
  refine ⟨_, rfl, ?_⟩
  clear henv a; intro a henv
  replace hst := (hst.call hb).addZ hz237 ⟨nou_bk rfl, nou_bk rfl, nou_bk rfl, nou_bk rfl, nou_bk rfl, nou_bk rfl, nou_bk rfl, trivial⟩
  clear hz237
  clear hb
  refine seq_g rfl henv rfl rfl (op_call henv rfl Tryd.call43 rfl (of_z (n := (1 : Int)) (by omega) (by omega)) ?_)
  rintro e w242 ⟨_, rfl, ⟨A239, c240, rfl, hz241⟩, hb⟩
  refine ⟨_, rfl, ?_⟩
  clear henv a; intro a henv
  replace hst := (hst.call hb).addZ hz241 ⟨nou_bk rfl, nou_bk rfl, nou_bk rfl, nou_bk rfl, nou_bk rfl, nou_bk rfl, nou_bk rfl, trivial⟩
  clear hz241
  clear hb
  refine seq_g rfl henv rfl rfl (op_call henv rfl Tryd.call42 rfl (cmp_z (x := ((Int.gcd (qn x) (qd x) : Nat) : Int)) (y := 1) (show ZIn _ A235 c236 ((Int.gcd (qn x) (qd x) : Nat) : Int) from hst.pat (k := 1) rfl) (show ZIn _ A239 c240 1 from hst.pat (k := 0) rfl)) ?_)
  rintro e w243 ⟨rfl, hb⟩
  refine ⟨_, rfl, ?_⟩
  clear henv a; intro a henv
  replace hst := hst.call hb
  clear hb
  refine seq_g rfl henv rfl rfl (op_val (v := .bool ((((Int.gcd (qn x) (qd x) : Nat) : Int) - 1).sign != (0 : Int))) henv rfl (rn_bin henv rfl rfl rfl) ?_)
  clear henv a; intro a henv
  rw [show ((((Int.gcd (qn x) (qd x) : Nat) : Int) - 1).sign != (0 : Int)) = false from (gcd_one0 x)] at henv
  revert a
  refine sA (v := .bool false) rfl (fun _ henv => rn_pick henv rfl rfl) ?_
  refine mA rfl rfl ?_
  refine gA (v := .int .i64 0) rfl rfl rfl rfl (fun _ henv => rn_move henv rfl) ?_
  refine gA (v := .bool false) rfl rfl rfl rfl (fun _ henv => rn_bin henv rfl rfl rfl) ?_
  refine sA (v := .bool false) rfl (fun _ henv => rn_pick henv rfl rfl) ?_
  refine mA rfl rfl ?_
  refine gA (v := .agg #[.bool (neg (qn x)), .slice A54 (zl (qn x)) c55, .bool (neg (ql x)), .slice B56 (zl (ql x)) d57]) rfl rfl rfl rfl (fun _ henv => rn_load0 henv ty_anvil_ratio_Rat rfl (hst.oat (k := 5) rfl) rfl) ?_
  refine gA (v := .agg #[.bool (neg (qn x)), .slice A209 (zl (qn x)) c210, .bool (neg (ql x)), .slice B211 (zl (ql x)) d212]) rfl rfl rfl rfl (fun _ henv => rn_load0 henv ty_anvil_ratio_Rat rfl (hst.oat (k := 2) rfl) rfl) ?_
  intro a henv
  refine seq_g rfl henv rfl rfl (op_call henv rfl Tryd.call57 rfl (same_q (x := x) (y := x) (show ZIn _ A54 c55 (qn x) from hst.pat (k := 11) rfl) (show ZIn _ B56 d57 (ql x) from hst.pat (k := 10) rfl) (show ZIn _ A209 c210 (qn x) from hst.pat (k := 5) rfl) (show ZIn _ B211 d212 (ql x) from hst.pat (k := 4) rfl) sx sx (by omega)) ?_)
  rintro e w244 ⟨rfl, hb⟩
  refine ⟨_, rfl, ?_⟩
  clear henv a; intro a henv
  replace hst := hst.call hb
  clear hb
  rw [show (decide (x = x)) = true from (decide_eq_true rfl)] at henv
  revert a
  refine gA (v := .bool false) rfl rfl rfl rfl (fun _ henv => rn_un henv rfl rfl) ?_
  refine sA (v := .bool false) rfl (fun _ henv => rn_pick henv rfl rfl) ?_
  refine mA rfl rfl ?_
  refine gA (v := .agg #[.int .i64 0, .int .i64 0]) rfl rfl rfl rfl (fun _ henv => rn_load0 henv ty_anvil_api_Spot rfl (hst.oat (k := 0) rfl) rfl) ?_
  refine gA (v := .agg #[.int .i64 0, .int .i64 0]) rfl rfl rfl rfl (fun _ henv => rn_spot0) ?_
  refine gA (v := .bool (!decide ([(0 : Int), (0 : Int)] = [(0 : Int), (0 : Int)]))) rfl rfl rfl rfl (fun _ henv => rn_neqI [(0 : Int), (0 : Int)] [(0 : Int), (0 : Int)] henv spotI rfl rfl rfl rfl) ?_
  intro a henv
  rw [show (!decide ([(0 : Int), (0 : Int)] = [(0 : Int), (0 : Int)])) = false from (by decide)] at henv
  revert a
  refine sA (v := .bool false) rfl (fun _ henv => rn_pick henv rfl rfl) ?_
  refine mA rfl rfl ?_
  refine gA (v := .agg #[.bool (neg (qn x)), .slice A54 (zl (qn x)) c55, .bool (neg (ql x)), .slice B56 (zl (ql x)) d57]) rfl rfl rfl rfl (fun _ henv => rn_load0 henv ty_anvil_ratio_Rat rfl (hst.oat (k := 5) rfl) rfl) ?_
  refine gA (v := .agg #[.bool (neg (qn x)), .slice A220 (zl (qn x)) c221, .bool (neg (ql x)), .slice B222 (zl (ql x)) d223]) rfl rfl rfl rfl (fun _ henv => rn_load0 henv ty_anvil_ratio_Rat rfl (hst.oat (k := 1) rfl) rfl) ?_
  intro a henv
  refine seq_g rfl henv rfl rfl (op_call henv rfl Tryd.call57 rfl (same_q (x := x) (y := x) (show ZIn _ A54 c55 (qn x) from hst.pat (k := 11) rfl) (show ZIn _ B56 d57 (ql x) from hst.pat (k := 10) rfl) (show ZIn _ A220 c221 (qn x) from hst.pat (k := 3) rfl) (show ZIn _ B222 d223 (ql x) from hst.pat (k := 2) rfl) sx sx (by omega)) ?_)
  rintro e w245 ⟨rfl, hb⟩
  refine ⟨_, rfl, ?_⟩
  clear henv a; intro a henv
  replace hst := hst.call hb
  clear hb
  rw [show (decide (x = x)) = true from (decide_eq_true rfl)] at henv
  revert a
  refine gA (v := .bool false) rfl rfl rfl rfl (fun _ henv => rn_un henv rfl rfl) ?_
  refine sA (v := .bool false) rfl (fun _ henv => rn_pick henv rfl rfl) ?_
  intro a henv
  refine wpList_nil ?_
  refine th_n ?_
  refine if_f henv rfl (rfl) ?_
  refine wp_skip ?_
  refine th_n ?_
  refine wp_seq ?_
  refine cut (fun a w => ∃ A247 : Option Addr, ∃ c248 : Nat, ∃ A252 : Option Addr, ∃ c253 : Nat, ∃ A256 : Option Addr, ∃ c257 : Nat, ∃ A261 : Option Addr, ∃ c262 : Nat, ∃ A265 : Option Addr, ∃ c266 : Nat, ∃ B267 : Option Addr, ∃ d268 : Nat, ∃ g272 : Nat, Env 128 a [(0, .agg #[.string ⟨s.toArray⟩, .string ⟨t.toArray⟩]), (1, .int .i64 tm), (2, .string ⟨u.toArray⟩), (3, .pointer (some ⟨g51, 0, none⟩)), (6, .bool false), (18, .bool true), (19, .bool false), (21, .agg #[.string ⟨s.toArray⟩, .string ⟨t.toArray⟩]), (22, .tuple #[.agg #[.bool (neg (qn x)), .slice A54 (zl (qn x)) c55, .bool (neg (ql x)), .slice B56 (zl (ql x)) d57], .bool true]), (20, .tuple #[.agg #[.bool (neg (qn x)), .slice A54 (zl (qn x)) c55, .bool (neg (ql x)), .slice B56 (zl (ql x)) d57], .bool true]), (23, .agg #[.bool (neg (qn x)), .slice A54 (zl (qn x)) c55, .bool (neg (ql x)), .slice B56 (zl (ql x)) d57]), (24, .bool true), (7, .pointer (some ⟨g61, 0, none⟩)), (8, .bool true), (25, .agg #[.string ⟨s.toArray⟩, .string ⟨t.toArray⟩]), (26, .slice (some ⟨g64, 0, none⟩) 1 1), (27, .bool false), (28, .bool false), (29, .string ⟨u.toArray⟩), (30, .int .i64 (u.length : Nat)), (31, .bool false), (32, .bool false), (33, .bool true), (9, .pointer (some ⟨g78, 0, none⟩)), (10, .pointer (some ⟨g80, 0, none⟩)), (39, .agg #[.bool (neg (qn x)), .slice A68 (zl (qn x)) c69]), (40, .agg #[.bool (neg (qd x)), .slice A73 (zl (qd x)) c74]), (41, .tuple #[.agg #[.bool (neg (qn x)), .slice A209 (zl (qn x)) c210, .bool (neg (ql x)), .slice B211 (zl (ql x)) d212], .int .i64 0]), (38, .tuple #[.agg #[.bool (neg (qn x)), .slice A209 (zl (qn x)) c210, .bool (neg (ql x)), .slice B211 (zl (ql x)) d212], .int .i64 0]), (42, .agg #[.bool (neg (qn x)), .slice A209 (zl (qn x)) c210, .bool (neg (ql x)), .slice B211 (zl (ql x)) d212]), (43, .int .i64 0), (11, .pointer (some ⟨g216, 0, none⟩)), (12, .int .i64 0), (45, .agg #[.bool (neg (qn x)), .slice A54 (zl (qn x)) c55, .bool (neg (ql x)), .slice B56 (zl (ql x)) d57]), (46, .string ⟨(textQ x).toArray⟩), (47, .tuple #[.agg #[.bool (neg (qn x)), .slice A220 (zl (qn x)) c221, .bool (neg (ql x)), .slice B222 (zl (ql x)) d223], .agg #[.int .i64 0, .int .i64 0]]), (44, .tuple #[.agg #[.bool (neg (qn x)), .slice A220 (zl (qn x)) c221, .bool (neg (ql x)), .slice B222 (zl (ql x)) d223], .agg #[.int .i64 0, .int .i64 0]]), (48, .agg #[.bool (neg (qn x)), .slice A220 (zl (qn x)) c221, .bool (neg (ql x)), .slice B222 (zl (ql x)) d223]), (49, .agg #[.int .i64 0, .int .i64 0]), (13, .pointer (some ⟨g227, 0, none⟩)), (14, .pointer (some ⟨g229, 0, none⟩)), (50, .agg #[.bool (neg (qd x)), .slice A73 (zl (qd x)) c74]), (51, .int .i64 ((qd x).sign)), (52, .bool false), (53, .bool false), (54, .agg #[.bool (neg (qn x)), .slice A68 (zl (qn x)) c69]), (55, .agg #[.bool (neg (qd x)), .slice A73 (zl (qd x)) c74]), (56, .agg #[.bool (neg ((Int.gcd (qn x) (qd x) : Nat) : Int)), .slice A235 (zl ((Int.gcd (qn x) (qd x) : Nat) : Int)) c236]), (57, .agg #[.bool (neg 1), .slice A239 (zl 1) c240]), (58, .int .i64 ((((Int.gcd (qn x) (qd x) : Nat) : Int) - 1).sign)), (59, .bool false), (60, .bool false), (61, .bool false), (62, .int .i64 0), (63, .bool false), (64, .bool false), (65, .bool false), (66, .agg #[.bool (neg (qn x)), .slice A54 (zl (qn x)) c55, .bool (neg (ql x)), .slice B56 (zl (ql x)) d57]), (67, .agg #[.bool (neg (qn x)), .slice A209 (zl (qn x)) c210, .bool (neg (ql x)), .slice B211 (zl (ql x)) d212]), (68, .bool true), (69, .bool false), (70, .bool false), (71, .bool false), (72, .agg #[.int .i64 0, .int .i64 0]), (73, .agg #[.int .i64 0, .int .i64 0]), (74, .bool false), (75, .bool false), (76, .bool false), (77, .agg #[.bool (neg (qn x)), .slice A54 (zl (qn x)) c55, .bool (neg (ql x)), .slice B56 (zl (ql x)) d57]), (78, .agg #[.bool (neg (qn x)), .slice A220 (zl (qn x)) c221, .bool (neg (ql x)), .slice B222 (zl (ql x)) d223]), (79, .bool true), (80, .bool false), (81, .bool false), (15, .pointer (some ⟨g272, 0, none⟩))] ∧ St w0 w [bk g272 #[.bool (neg (qn x)), .slice A265 (zl (qn x)) c266, .bool (neg (ql x)), .slice B267 (zl (ql x)) d268] 91, bk g229 #[.int .i64 0, .int .i64 0] 79, bk g227 #[.bool (neg (qn x)), .slice A220 (zl (qn x)) c221, .bool (neg (ql x)), .slice B222 (zl (ql x)) d223] 91, bk g216 #[.bool (neg (qn x)), .slice A209 (zl (qn x)) c210, .bool (neg (ql x)), .slice B211 (zl (ql x)) d212] 91, bk g80 #[.bool (neg (qd x)), .slice A73 (zl (qd x)) c74] 36, bk g78 #[.bool (neg (qn x)), .slice A68 (zl (qn x)) c69] 36, bk g61 #[.bool (neg (qn x)), .slice A54 (zl (qn x)) c55, .bool (neg (ql x)), .slice B56 (zl (ql x)) d57] 91, bk g51 #[.string ⟨s.toArray⟩, .string ⟨t.toArray⟩] 89] [pfZ B267 d268 (ql x), pfZ A265 c266 (qn x), pfZ A261 c262 ((qd x) * tm), pfZ A256 c257 tm, pfZ A252 c253 ((qn x) * tm), pfZ A247 c248 tm, pfZ A239 c240 1, pfZ A235 c236 ((Int.gcd (qn x) (qd x) : Nat) : Int), pfZ B222 d223 (ql x), pfZ A220 c221 (qn x), pfZ B211 d212 (ql x), pfZ A209 c210 (qn x), pfZ A73 c74 (qd x), pfZ A68 c69 (qn x), pfRow fF FF 2 (some ⟨g64, 0, none⟩) 1 1 ([(s, t)]), pfRd 2 (some ⟨g64, 0, none⟩) 1 1 (fl fF [(s, t)]), pfZ B56 d57 (ql x), pfZ A54 c55 (qn x)]) ?_ ?_
  · refine region_any (n := 15) (Sk [bk g229 #[.int .i64 0, .int .i64 0] 79, bk g227 #[.bool (neg (qn x)), .slice A220 (zl (qn x)) c221, .bool (neg (ql x)), .slice B222 (zl (ql x)) d223] 91, bk g216 #[.bool (neg (qn x)), .slice A209 (zl (qn x)) c210, .bool (neg (ql x)), .slice B211 (zl (ql x)) d212] 91, bk g80 #[.bool (neg (qd x)), .slice A73 (zl (qd x)) c74] 36, bk g78 #[.bool (neg (qn x)), .slice A68 (zl (qn x)) c69] 36, bk g61 #[.bool (neg (qn x)), .slice A54 (zl (qn x)) c55, .bool (neg (ql x)), .slice B56 (zl (ql x)) d57] 91, bk g51 #[.string ⟨s.toArray⟩, .string ⟨t.toArray⟩] 89] [pfZ A239 c240 1, pfZ A235 c236 ((Int.gcd (qn x) (qd x) : Nat) : Int), pfZ B222 d223 (ql x), pfZ A220 c221 (qn x), pfZ B211 d212 (ql x), pfZ A209 c210 (qn x), pfZ A73 c74 (qd x), pfZ A68 c69 (qn x), pfRow fF FF 2 (some ⟨g64, 0, none⟩) 1 1 ([(s, t)]), pfRd 2 (some ⟨g64, 0, none⟩) 1 1 (fl fF [(s, t)]), pfZ B56 d57 (ql x), pfZ A54 c55 (qn x)] [13] []) mixed rfl henv hst ?_
    clear henv hst; intro w246 henv hst
    refine tL (i := 0) 4 4 [3, 6, 7, 8, 9, 10, 11, 13, 14] rfl (by kernel_rfl) (fun _ _ _ h => h) henv rfl ty_anvil_integer_Int rfl hst rfl rfl rfl ?_
    clear henv a; intro a henv
    refine tM (i := 1) [2, 3, 6, 7, 8, 9, 10, 11, 13, 14] rfl (by kernel_rfl) (fun _ _ _ h => h) henv rfl rfl ?_
    clear henv a; intro a henv
    refine tL (i := 4) 3 3 [7, 8, 9, 10, 11, 13, 14] rfl (by kernel_rfl) (fun _ _ _ h => h) henv rfl ty_anvil_integer_Int rfl hst rfl rfl rfl ?_
    clear henv a; intro a henv
    refine tM (i := 5) [6, 7, 8, 9, 10, 11, 13, 14] rfl (by kernel_rfl) (fun _ _ _ h => h) henv rfl rfl ?_
    clear henv a; intro a henv
    refine sAny_all (rs := [2, 12]) (by kernel_rfl) (by simp) ?_
    simp only [List.forall_mem_cons, List.not_mem_nil, false_implies, implies_true, and_true]
    refine ⟨?_, ?_⟩
    · refine ⟨_, rfl, rfl, op_call henv rfl Tryd.call43 rfl (of_z (n := tm) (by omega) (by omega)) ?_⟩
      rintro e w250 ⟨_, rfl, ⟨A247, c248, rfl, hz249⟩, hb⟩
      refine ⟨_, rfl, ?_⟩
      clear henv a; intro a henv
      replace hst := (hst.call hb).addZ hz249 ⟨nou_bk rfl, nou_bk rfl, nou_bk rfl, nou_bk rfl, nou_bk rfl, nou_bk rfl, nou_bk rfl, trivial⟩
      clear hz249
      clear hb
      refine ⟨.inr ⟨hst.kn.pick (rg 0 7) (rg 1 12), .inr (hst.kn.pick [] [])⟩, ?_⟩
      refine sAny_all (rs := [3, 12]) (by kernel_rfl) (by simp) ?_
      simp only [List.forall_mem_cons, List.not_mem_nil, false_implies, implies_true, and_true]
      refine ⟨?_, ?_⟩
      · have hs251 := zl_mul (qn x) tm
        refine ⟨_, rfl, rfl, op_call henv rfl Tryd.call84 rfl (mul_z (x := (qn x)) (y := tm) (show ZIn _ A68 c69 (qn x) from hst.pat (k := 8) rfl) (show ZIn _ A247 c248 tm from hst.pat (k := 0) rfl) (by omega) (by omega)) ?_⟩
        rintro e w255 ⟨_, rfl, ⟨A252, c253, rfl, hz254⟩, hb⟩
        refine ⟨_, rfl, ?_⟩
        clear henv a; intro a henv
        replace hst := (hst.call hb).addZ hz254 ⟨nou_bk rfl, nou_bk rfl, nou_bk rfl, nou_bk rfl, nou_bk rfl, nou_bk rfl, nou_bk rfl, trivial⟩
        clear hz254
        clear hb
        refine ⟨.inr ⟨hst.kn.pick (rg 0 7) (rg 2 12), .inr (hst.kn.pick [] [])⟩, ?_⟩
        refine sAny_all (rs := [6, 12]) (by kernel_rfl) (by simp) ?_
        simp only [List.forall_mem_cons, List.not_mem_nil, false_implies, implies_true, and_true]
        refine ⟨?_, ?_⟩
        · refine ⟨_, rfl, rfl, op_call henv rfl Tryd.call43 rfl (of_z (n := tm) (by omega) (by omega)) ?_⟩
          rintro e w259 ⟨_, rfl, ⟨A256, c257, rfl, hz258⟩, hb⟩
          refine ⟨_, rfl, ?_⟩
          clear henv a; intro a henv
          replace hst := (hst.call hb).addZ hz258 ⟨nou_bk rfl, nou_bk rfl, nou_bk rfl, nou_bk rfl, nou_bk rfl, nou_bk rfl, nou_bk rfl, trivial⟩
          clear hz258
          clear hb
          refine ⟨.inr ⟨hst.kn.pick (rg 0 7) (rg 3 12), .inr (hst.kn.pick [] [])⟩, ?_⟩
          refine sAny_all (rs := [7, 12]) (by kernel_rfl) (by simp) ?_
          simp only [List.forall_mem_cons, List.not_mem_nil, false_implies, implies_true, and_true]
          refine ⟨?_, ?_⟩
          · have hs260 := zl_mul (qd x) tm
            refine ⟨_, rfl, rfl, op_call henv rfl Tryd.call84 rfl (mul_z (x := (qd x)) (y := tm) (show ZIn _ A73 c74 (qd x) from hst.pat (k := 9) rfl) (show ZIn _ A256 c257 tm from hst.pat (k := 0) rfl) (by omega) (by omega)) ?_⟩
            rintro e w264 ⟨_, rfl, ⟨A261, c262, rfl, hz263⟩, hb⟩
            refine ⟨_, rfl, ?_⟩
            clear henv a; intro a henv
            replace hst := (hst.call hb).addZ hz263 ⟨nou_bk rfl, nou_bk rfl, nou_bk rfl, nou_bk rfl, nou_bk rfl, nou_bk rfl, nou_bk rfl, trivial⟩
            clear hz263
            clear hb
            refine ⟨.inr ⟨hst.kn.pick (rg 0 7) (rg 4 12), .inr (hst.kn.pick [] [])⟩, ?_⟩
            refine sAny_all (rs := [8, 12]) (by kernel_rfl) (by simp) ?_
            simp only [List.forall_mem_cons, List.not_mem_nil, false_implies, implies_true, and_true]
            refine ⟨?_, ?_⟩
            · refine ⟨_, rfl, rfl, op_call henv rfl Tryd.call90 rfl (make_qr (p := (qn x) * tm) (q := (qd x) * tm) (r := x) (show ZIn _ A252 c253 ((qn x) * tm) from hst.pat (k := 2) rfl) (show ZIn _ A261 c262 ((qd x) * tm) from hst.pat (k := 0) rfl) (by omega) (by omega) (Int.mul_ne_zero (qd_ne x) ht0) (div_tm ht0 x)) ?_⟩
              rintro e w271 ⟨_, rfl, ⟨A265, c266, B267, d268, rfl, hz269, hz270⟩, hb⟩
              refine ⟨_, rfl, ?_⟩
              clear henv a; intro a henv
              replace hst := ((hst.call hb).addZ hz269 ⟨nou_bk rfl, nou_bk rfl, nou_bk rfl, nou_bk rfl, nou_bk rfl, nou_bk rfl, nou_bk rfl, trivial⟩).addZ hz270 ⟨nou_bk rfl, nou_bk rfl, nou_bk rfl, nou_bk rfl, nou_bk rfl, nou_bk rfl, nou_bk rfl, trivial⟩
              clear hz269 hz270
              clear hb
              refine ⟨.inr ⟨hst.kn.pick (rg 0 7) (rg 6 12), .inr (hst.kn.pick [] [])⟩, ?_⟩
              refine tM (i := 9) [10, 11, 13, 14] rfl (by kernel_rfl) (fun _ _ _ h => h) henv rfl rfl ?_
              clear henv a; intro a henv
              refine tA (i := 10) [13, 14] (v := .agg #[.bool (neg (qn x)), .slice A265 (zl (qn x)) c266, .bool (neg (ql x)), .slice B267 (zl (ql x)) d268]) rfl (by kernel_rfl) (fun _ _ _ h => h) henv rfl (fun _ => rn_extract henv rfl rfl) ?_
              clear henv a; intro a henv
              refine tA (i := 11) [14] (v := .int .i64 0) rfl (by kernel_rfl) (fun _ _ _ h => h) henv rfl (fun _ => rn_extract henv rfl rfl) ?_
              clear henv a; intro a henv
              refine sAny_one (i := 12) (by kernel_rfl) rfl rfl (op_alloc (c := #[.bool (neg (qn 0)), .slice none (zl (qn 0)) 0, .bool (neg (ql 0)), .slice none (zl (ql 0)) 0]) henv hst rfl zero_anvil_ratio_Rat qcells ?_)
              clear henv hst a; intro a w273 g272 henv hst
              refine ⟨.inr ⟨hst.kn.pick (rg 1 7) (rg 6 12), .inr (hst.kn.pick [] [])⟩, ?_⟩
              refine sAny_one (i := 13) (by kernel_rfl) rfl rfl (op_store (k := 0) (c' := #[.bool (neg (qn x)), .slice A265 (zl (qn x)) c266, .bool (neg (ql x)), .slice B267 (zl (ql x)) d268]) henv hst (ty_anvil_ratio_Rat.size) rfl rfl rfl rfl (by simp) rfl rfl ?_)
              clear henv hst a; intro a w274 henv hst
              refine ⟨.inr ⟨hst.kn.pick (rg 1 7) (rg 6 12), .inl rfl⟩, ?_⟩
              refine tA (i := 14) [] (v := .int .i64 0) rfl (by kernel_rfl) (fun _ _ _ h => h) henv rfl (fun _ => rn_assign henv rfl) ?_
              clear henv a; intro a henv
              refine sAny_done (by kernel_rfl) ?_ _
              exact th_n ⟨A247, c248, A252, c253, A256, c257, A261, c262, A265, c266, B267, d268, g272, henv.sub ⟨rfl, rfl, rfl, rfl, rfl, rfl, rfl, rfl, rfl, rfl, rfl, rfl, rfl, rfl, rfl, rfl, rfl, rfl, rfl, rfl, rfl, rfl, rfl, rfl, rfl, rfl, rfl, rfl, rfl, rfl, rfl, rfl, rfl, rfl, rfl, rfl, rfl, rfl, rfl, rfl, rfl, rfl, rfl, rfl, rfl, rfl, rfl, rfl, rfl, rfl, rfl, rfl, rfl, rfl, rfl, rfl, rfl, rfl, rfl, rfl, rfl, rfl, rfl, rfl, rfl, rfl, rfl, rfl, rfl, rfl, rfl, rfl, rfl, rfl, trivial⟩, hst.pick [0, 1, 2, 3, 4, 5, 6, 7] [0, 1, 2, 3, 4, 5, 6, 7, 8, 9, 10, 11, 12, 13, 14, 15, 16, 17] (by decide)⟩
            · refine ⟨_, rfl, rfl, op_alloc (c := #[.bool (neg (qn 0)), .slice none (zl (qn 0)) 0, .bool (neg (ql 0)), .slice none (zl (ql 0)) 0]) henv hst rfl zero_anvil_ratio_Rat qcells ?_⟩
              clear henv hst a; intro a w276 g275 henv hst
              refine ⟨.inr ⟨hst.kn.pick (rg 1 7) (rg 4 12), .inr (hst.kn.pick [] [])⟩, ?_⟩
              refine sAny_one (i := 8) (by kernel_rfl) rfl rfl (op_call henv rfl Tryd.call90 rfl (make_qr (p := (qn x) * tm) (q := (qd x) * tm) (r := x) (show ZIn _ A252 c253 ((qn x) * tm) from hst.pat (k := 2) rfl) (show ZIn _ A261 c262 ((qd x) * tm) from hst.pat (k := 0) rfl) (by omega) (by omega) (Int.mul_ne_zero (qd_ne x) ht0) (div_tm ht0 x)) ?_)
              rintro e w283 ⟨_, rfl, ⟨A277, c278, B279, d280, rfl, hz281, hz282⟩, hb⟩
              refine ⟨_, rfl, ?_⟩
              clear henv a; intro a henv
              replace hst := ((hst.call hb).addZ hz281 ⟨nou_bk rfl, nou_bk rfl, nou_bk rfl, nou_bk rfl, nou_bk rfl, nou_bk rfl, nou_bk rfl, nou_bk rfl, trivial⟩).addZ hz282 ⟨nou_bk rfl, nou_bk rfl, nou_bk rfl, nou_bk rfl, nou_bk rfl, nou_bk rfl, nou_bk rfl, nou_bk rfl, trivial⟩
              clear hz281 hz282
              clear hb
              refine ⟨.inr ⟨hst.kn.pick (rg 1 7) (rg 6 12), .inr (hst.kn.pick [] [])⟩, ?_⟩
              refine tM (i := 9) [10, 11, 13, 14] rfl (by kernel_rfl) (fun _ _ _ h => h) henv rfl rfl ?_
              clear henv a; intro a henv
              refine tA (i := 10) [13, 14] (v := .agg #[.bool (neg (qn x)), .slice A277 (zl (qn x)) c278, .bool (neg (ql x)), .slice B279 (zl (ql x)) d280]) rfl (by kernel_rfl) (fun _ _ _ h => h) henv rfl (fun _ => rn_extract henv rfl rfl) ?_
              clear henv a; intro a henv
              refine tA (i := 11) [14] (v := .int .i64 0) rfl (by kernel_rfl) (fun _ _ _ h => h) henv rfl (fun _ => rn_extract henv rfl rfl) ?_
              clear henv a; intro a henv
              refine sAny_one (i := 13) (by kernel_rfl) rfl rfl (op_store (k := 0) (c' := #[.bool (neg (qn x)), .slice A277 (zl (qn x)) c278, .bool (neg (ql x)), .slice B279 (zl (ql x)) d280]) henv hst (ty_anvil_ratio_Rat.size) rfl rfl rfl rfl (by simp) rfl rfl ?_)
              clear henv hst a; intro a w284 henv hst
              refine ⟨.inr ⟨hst.kn.pick (rg 1 7) (rg 6 12), .inl rfl⟩, ?_⟩
              refine tA (i := 14) [] (v := .int .i64 0) rfl (by kernel_rfl) (fun _ _ _ h => h) henv rfl (fun _ => rn_assign henv rfl) ?_
              clear henv a; intro a henv
              refine sAny_done (by kernel_rfl) ?_ _
              exact th_n ⟨A247, c248, A252, c253, A256, c257, A261, c262, A277, c278, B279, d280, g275, henv.sub ⟨rfl, rfl, rfl, rfl, rfl, rfl, rfl, rfl, rfl, rfl, rfl, rfl, rfl, rfl, rfl, rfl, rfl, rfl, rfl, rfl, rfl, rfl, rfl, rfl, rfl, rfl, rfl, rfl, rfl, rfl, rfl, rfl, rfl, rfl, rfl, rfl, rfl, rfl, rfl, rfl, rfl, rfl, rfl, rfl, rfl, rfl, rfl, rfl, rfl, rfl, rfl, rfl, rfl, rfl, rfl, rfl, rfl, rfl, rfl, rfl, rfl, rfl, rfl, rfl, rfl, rfl, rfl, rfl, rfl, rfl, rfl, rfl, rfl, rfl, trivial⟩, hst.pick [0, 1, 2, 3, 4, 5, 6, 7] [0, 1, 2, 3, 4, 5, 6, 7, 8, 9, 10, 11, 12, 13, 14, 15, 16, 17] (by decide)⟩
          · refine ⟨_, rfl, rfl, op_alloc (c := #[.bool (neg (qn 0)), .slice none (zl (qn 0)) 0, .bool (neg (ql 0)), .slice none (zl (ql 0)) 0]) henv hst rfl zero_anvil_ratio_Rat qcells ?_⟩
            clear henv hst a; intro a w286 g285 henv hst
            refine ⟨.inr ⟨hst.kn.pick (rg 1 7) (rg 3 12), .inr (hst.kn.pick [] [])⟩, ?_⟩
            have hs287 := zl_mul (qd x) tm
            refine sAny_one (i := 7) (by kernel_rfl) rfl rfl (op_call henv rfl Tryd.call84 rfl (mul_z (x := (qd x)) (y := tm) (show ZIn _ A73 c74 (qd x) from hst.pat (k := 9) rfl) (show ZIn _ A256 c257 tm from hst.pat (k := 0) rfl) (by omega) (by omega)) ?_)
            rintro e w291 ⟨_, rfl, ⟨A288, c289, rfl, hz290⟩, hb⟩
            refine ⟨_, rfl, ?_⟩
            clear henv a; intro a henv
            replace hst := (hst.call hb).addZ hz290 ⟨nou_bk rfl, nou_bk rfl, nou_bk rfl, nou_bk rfl, nou_bk rfl, nou_bk rfl, nou_bk rfl, nou_bk rfl, trivial⟩
            clear hz290
            clear hb
            refine ⟨.inr ⟨hst.kn.pick (rg 1 7) (rg 4 12), .inr (hst.kn.pick [] [])⟩, ?_⟩
            refine sAny_one (i := 8) (by kernel_rfl) rfl rfl (op_call henv rfl Tryd.call90 rfl (make_qr (p := (qn x) * tm) (q := (qd x) * tm) (r := x) (show ZIn _ A252 c253 ((qn x) * tm) from hst.pat (k := 2) rfl) (show ZIn _ A288 c289 ((qd x) * tm) from hst.pat (k := 0) rfl) (by omega) (by omega) (Int.mul_ne_zero (qd_ne x) ht0) (div_tm ht0 x)) ?_)
            rintro e w298 ⟨_, rfl, ⟨A292, c293, B294, d295, rfl, hz296, hz297⟩, hb⟩
            refine ⟨_, rfl, ?_⟩
            clear henv a; intro a henv
            replace hst := ((hst.call hb).addZ hz296 ⟨nou_bk rfl, nou_bk rfl, nou_bk rfl, nou_bk rfl, nou_bk rfl, nou_bk rfl, nou_bk rfl, nou_bk rfl, trivial⟩).addZ hz297 ⟨nou_bk rfl, nou_bk rfl, nou_bk rfl, nou_bk rfl, nou_bk rfl, nou_bk rfl, nou_bk rfl, nou_bk rfl, trivial⟩
            clear hz296 hz297
            clear hb
            refine ⟨.inr ⟨hst.kn.pick (rg 1 7) (rg 6 12), .inr (hst.kn.pick [] [])⟩, ?_⟩
            refine tM (i := 9) [10, 11, 13, 14] rfl (by kernel_rfl) (fun _ _ _ h => h) henv rfl rfl ?_
            clear henv a; intro a henv
            refine tA (i := 10) [13, 14] (v := .agg #[.bool (neg (qn x)), .slice A292 (zl (qn x)) c293, .bool (neg (ql x)), .slice B294 (zl (ql x)) d295]) rfl (by kernel_rfl) (fun _ _ _ h => h) henv rfl (fun _ => rn_extract henv rfl rfl) ?_
            clear henv a; intro a henv
            refine tA (i := 11) [14] (v := .int .i64 0) rfl (by kernel_rfl) (fun _ _ _ h => h) henv rfl (fun _ => rn_extract henv rfl rfl) ?_
            clear henv a; intro a henv
            refine sAny_one (i := 13) (by kernel_rfl) rfl rfl (op_store (k := 0) (c' := #[.bool (neg (qn x)), .slice A292 (zl (qn x)) c293, .bool (neg (ql x)), .slice B294 (zl (ql x)) d295]) henv hst (ty_anvil_ratio_Rat.size) rfl rfl rfl rfl (by simp) rfl rfl ?_)
            clear henv hst a; intro a w299 henv hst
            refine ⟨.inr ⟨hst.kn.pick (rg 1 7) (rg 6 12), .inl rfl⟩, ?_⟩
            refine tA (i := 14) [] (v := .int .i64 0) rfl (by kernel_rfl) (fun _ _ _ h => h) henv rfl (fun _ => rn_assign henv rfl) ?_
            clear henv a; intro a henv
            refine sAny_done (by kernel_rfl) ?_ _
            exact th_n ⟨A247, c248, A252, c253, A256, c257, A288, c289, A292, c293, B294, d295, g285, henv.sub ⟨rfl, rfl, rfl, rfl, rfl, rfl, rfl, rfl, rfl, rfl, rfl, rfl, rfl, rfl, rfl, rfl, rfl, rfl, rfl, rfl, rfl, rfl, rfl, rfl, rfl, rfl, rfl, rfl, rfl, rfl, rfl, rfl, rfl, rfl, rfl, rfl, rfl, rfl, rfl, rfl, rfl, rfl, rfl, rfl, rfl, rfl, rfl, rfl, rfl, rfl, rfl, rfl, rfl, rfl, rfl, rfl, rfl, rfl, rfl, rfl, rfl, rfl, rfl, rfl, rfl, rfl, rfl, rfl, rfl, rfl, rfl, rfl, rfl, rfl, trivial⟩, hst.pick [0, 1, 2, 3, 4, 5, 6, 7] [0, 1, 2, 3, 4, 5, 6, 7, 8, 9, 10, 11, 12, 13, 14, 15, 16, 17] (by decide)⟩
        · refine ⟨_, rfl, rfl, op_alloc (c := #[.bool (neg (qn 0)), .slice none (zl (qn 0)) 0, .bool (neg (ql 0)), .slice none (zl (ql 0)) 0]) henv hst rfl zero_anvil_ratio_Rat qcells ?_⟩
          clear henv hst a; intro a w301 g300 henv hst
          refine ⟨.inr ⟨hst.kn.pick (rg 1 7) (rg 2 12), .inr (hst.kn.pick [] [])⟩, ?_⟩
          refine sAny_one (i := 6) (by kernel_rfl) rfl rfl (op_call henv rfl Tryd.call43 rfl (of_z (n := tm) (by omega) (by omega)) ?_)
          rintro e w305 ⟨_, rfl, ⟨A302, c303, rfl, hz304⟩, hb⟩
          refine ⟨_, rfl, ?_⟩
          clear henv a; intro a henv
          replace hst := (hst.call hb).addZ hz304 ⟨nou_bk rfl, nou_bk rfl, nou_bk rfl, nou_bk rfl, nou_bk rfl, nou_bk rfl, nou_bk rfl, nou_bk rfl, trivial⟩
          clear hz304
          clear hb
          refine ⟨.inr ⟨hst.kn.pick (rg 1 7) (rg 3 12), .inr (hst.kn.pick [] [])⟩, ?_⟩
          have hs306 := zl_mul (qd x) tm
          refine sAny_one (i := 7) (by kernel_rfl) rfl rfl (op_call henv rfl Tryd.call84 rfl (mul_z (x := (qd x)) (y := tm) (show ZIn _ A73 c74 (qd x) from hst.pat (k := 9) rfl) (show ZIn _ A302 c303 tm from hst.pat (k := 0) rfl) (by omega) (by omega)) ?_)
          rintro e w310 ⟨_, rfl, ⟨A307, c308, rfl, hz309⟩, hb⟩
          refine ⟨_, rfl, ?_⟩
          clear henv a; intro a henv
          replace hst := (hst.call hb).addZ hz309 ⟨nou_bk rfl, nou_bk rfl, nou_bk rfl, nou_bk rfl, nou_bk rfl, nou_bk rfl, nou_bk rfl, nou_bk rfl, trivial⟩
          clear hz309
          clear hb
          refine ⟨.inr ⟨hst.kn.pick (rg 1 7) (rg 4 12), .inr (hst.kn.pick [] [])⟩, ?_⟩
          refine sAny_one (i := 8) (by kernel_rfl) rfl rfl (op_call henv rfl Tryd.call90 rfl (make_qr (p := (qn x) * tm) (q := (qd x) * tm) (r := x) (show ZIn _ A252 c253 ((qn x) * tm) from hst.pat (k := 2) rfl) (show ZIn _ A307 c308 ((qd x) * tm) from hst.pat (k := 0) rfl) (by omega) (by omega) (Int.mul_ne_zero (qd_ne x) ht0) (div_tm ht0 x)) ?_)
          rintro e w317 ⟨_, rfl, ⟨A311, c312, B313, d314, rfl, hz315, hz316⟩, hb⟩
          refine ⟨_, rfl, ?_⟩
          clear henv a; intro a henv
          replace hst := ((hst.call hb).addZ hz315 ⟨nou_bk rfl, nou_bk rfl, nou_bk rfl, nou_bk rfl, nou_bk rfl, nou_bk rfl, nou_bk rfl, nou_bk rfl, trivial⟩).addZ hz316 ⟨nou_bk rfl, nou_bk rfl, nou_bk rfl, nou_bk rfl, nou_bk rfl, nou_bk rfl, nou_bk rfl, nou_bk rfl, trivial⟩
          clear hz315 hz316
          clear hb
          refine ⟨.inr ⟨hst.kn.pick (rg 1 7) (rg 6 12), .inr (hst.kn.pick [] [])⟩, ?_⟩
          refine tM (i := 9) [10, 11, 13, 14] rfl (by kernel_rfl) (fun _ _ _ h => h) henv rfl rfl ?_
          clear henv a; intro a henv
          refine tA (i := 10) [13, 14] (v := .agg #[.bool (neg (qn x)), .slice A311 (zl (qn x)) c312, .bool (neg (ql x)), .slice B313 (zl (ql x)) d314]) rfl (by kernel_rfl) (fun _ _ _ h => h) henv rfl (fun _ => rn_extract henv rfl rfl) ?_
          clear henv a; intro a henv
          refine tA (i := 11) [14] (v := .int .i64 0) rfl (by kernel_rfl) (fun _ _ _ h => h) henv rfl (fun _ => rn_extract henv rfl rfl) ?_
          clear henv a; intro a henv
          refine sAny_one (i := 13) (by kernel_rfl) rfl rfl (op_store (k := 0) (c' := #[.bool (neg (qn x)), .slice A311 (zl (qn x)) c312, .bool (neg (ql x)), .slice B313 (zl (ql x)) d314]) henv hst (ty_anvil_ratio_Rat.size) rfl rfl rfl rfl (by simp) rfl rfl ?_)
          clear henv hst a; intro a w318 henv hst
          refine ⟨.inr ⟨hst.kn.pick (rg 1 7) (rg 6 12), .inl rfl⟩, ?_⟩
          refine tA (i := 14) [] (v := .int .i64 0) rfl (by kernel_rfl) (fun _ _ _ h => h) henv rfl (fun _ => rn_assign henv rfl) ?_
          clear henv a; intro a henv
          refine sAny_done (by kernel_rfl) ?_ _
          exact th_n ⟨A247, c248, A252, c253, A302, c303, A307, c308, A311, c312, B313, d314, g300, henv.sub ⟨rfl, rfl, rfl, rfl, rfl, rfl, rfl, rfl, rfl, rfl, rfl, rfl, rfl, rfl, rfl, rfl, rfl, rfl, rfl, rfl, rfl, rfl, rfl, rfl, rfl, rfl, rfl, rfl, rfl, rfl, rfl, rfl, rfl, rfl, rfl, rfl, rfl, rfl, rfl, rfl, rfl, rfl, rfl, rfl, rfl, rfl, rfl, rfl, rfl, rfl, rfl, rfl, rfl, rfl, rfl, rfl, rfl, rfl, rfl, rfl, rfl, rfl, rfl, rfl, rfl, rfl, rfl, rfl, rfl, rfl, rfl, rfl, rfl, rfl, trivial⟩, hst.pick [0, 1, 2, 3, 4, 5, 6, 7] [0, 1, 2, 3, 4, 5, 6, 7, 8, 9, 10, 11, 12, 13, 14, 15, 16, 17] (by decide)⟩
      · refine ⟨_, rfl, rfl, op_alloc (c := #[.bool (neg (qn 0)), .slice none (zl (qn 0)) 0, .bool (neg (ql 0)), .slice none (zl (ql 0)) 0]) henv hst rfl zero_anvil_ratio_Rat qcells ?_⟩
        clear henv hst a; intro a w320 g319 henv hst
        refine ⟨.inr ⟨hst.kn.pick (rg 1 7) (rg 1 12), .inr (hst.kn.pick [] [])⟩, ?_⟩
        have hs321 := zl_mul (qn x) tm
        refine sAny_one (i := 3) (by kernel_rfl) rfl rfl (op_call henv rfl Tryd.call84 rfl (mul_z (x := (qn x)) (y := tm) (show ZIn _ A68 c69 (qn x) from hst.pat (k := 8) rfl) (show ZIn _ A247 c248 tm from hst.pat (k := 0) rfl) (by omega) (by omega)) ?_)
        rintro e w325 ⟨_, rfl, ⟨A322, c323, rfl, hz324⟩, hb⟩
        refine ⟨_, rfl, ?_⟩
        clear henv a; intro a henv
        replace hst := (hst.call hb).addZ hz324 ⟨nou_bk rfl, nou_bk rfl, nou_bk rfl, nou_bk rfl, nou_bk rfl, nou_bk rfl, nou_bk rfl, nou_bk rfl, trivial⟩
        clear hz324
        clear hb
        refine ⟨.inr ⟨hst.kn.pick (rg 1 7) (rg 2 12), .inr (hst.kn.pick [] [])⟩, ?_⟩
        refine sAny_one (i := 6) (by kernel_rfl) rfl rfl (op_call henv rfl Tryd.call43 rfl (of_z (n := tm) (by omega) (by omega)) ?_)
        rintro e w329 ⟨_, rfl, ⟨A326, c327, rfl, hz328⟩, hb⟩
        refine ⟨_, rfl, ?_⟩
        clear henv a; intro a henv
        replace hst := (hst.call hb).addZ hz328 ⟨nou_bk rfl, nou_bk rfl, nou_bk rfl, nou_bk rfl, nou_bk rfl, nou_bk rfl, nou_bk rfl, nou_bk rfl, trivial⟩
        clear hz328
        clear hb
        refine ⟨.inr ⟨hst.kn.pick (rg 1 7) (rg 3 12), .inr (hst.kn.pick [] [])⟩, ?_⟩
        have hs330 := zl_mul (qd x) tm
        refine sAny_one (i := 7) (by kernel_rfl) rfl rfl (op_call henv rfl Tryd.call84 rfl (mul_z (x := (qd x)) (y := tm) (show ZIn _ A73 c74 (qd x) from hst.pat (k := 9) rfl) (show ZIn _ A326 c327 tm from hst.pat (k := 0) rfl) (by omega) (by omega)) ?_)
        rintro e w334 ⟨_, rfl, ⟨A331, c332, rfl, hz333⟩, hb⟩
        refine ⟨_, rfl, ?_⟩
        clear henv a; intro a henv
        replace hst := (hst.call hb).addZ hz333 ⟨nou_bk rfl, nou_bk rfl, nou_bk rfl, nou_bk rfl, nou_bk rfl, nou_bk rfl, nou_bk rfl, nou_bk rfl, trivial⟩
        clear hz333
        clear hb
        refine ⟨.inr ⟨hst.kn.pick (rg 1 7) (rg 4 12), .inr (hst.kn.pick [] [])⟩, ?_⟩
        refine sAny_one (i := 8) (by kernel_rfl) rfl rfl (op_call henv rfl Tryd.call90 rfl (make_qr (p := (qn x) * tm) (q := (qd x) * tm) (r := x) (show ZIn _ A322 c323 ((qn x) * tm) from hst.pat (k := 2) rfl) (show ZIn _ A331 c332 ((qd x) * tm) from hst.pat (k := 0) rfl) (by omega) (by omega) (Int.mul_ne_zero (qd_ne x) ht0) (div_tm ht0 x)) ?_)
        rintro e w341 ⟨_, rfl, ⟨A335, c336, B337, d338, rfl, hz339, hz340⟩, hb⟩
        refine ⟨_, rfl, ?_⟩
        clear henv a; intro a henv
        replace hst := ((hst.call hb).addZ hz339 ⟨nou_bk rfl, nou_bk rfl, nou_bk rfl, nou_bk rfl, nou_bk rfl, nou_bk rfl, nou_bk rfl, nou_bk rfl, trivial⟩).addZ hz340 ⟨nou_bk rfl, nou_bk rfl, nou_bk rfl, nou_bk rfl, nou_bk rfl, nou_bk rfl, nou_bk rfl, nou_bk rfl, trivial⟩
        clear hz339 hz340
        clear hb
        refine ⟨.inr ⟨hst.kn.pick (rg 1 7) (rg 6 12), .inr (hst.kn.pick [] [])⟩, ?_⟩
        refine tM (i := 9) [10, 11, 13, 14] rfl (by kernel_rfl) (fun _ _ _ h => h) henv rfl rfl ?_
        clear henv a; intro a henv
        refine tA (i := 10) [13, 14] (v := .agg #[.bool (neg (qn x)), .slice A335 (zl (qn x)) c336, .bool (neg (ql x)), .slice B337 (zl (ql x)) d338]) rfl (by kernel_rfl) (fun _ _ _ h => h) henv rfl (fun _ => rn_extract henv rfl rfl) ?_
        clear henv a; intro a henv
        refine tA (i := 11) [14] (v := .int .i64 0) rfl (by kernel_rfl) (fun _ _ _ h => h) henv rfl (fun _ => rn_extract henv rfl rfl) ?_
        clear henv a; intro a henv
        refine sAny_one (i := 13) (by kernel_rfl) rfl rfl (op_store (k := 0) (c' := #[.bool (neg (qn x)), .slice A335 (zl (qn x)) c336, .bool (neg (ql x)), .slice B337 (zl (ql x)) d338]) henv hst (ty_anvil_ratio_Rat.size) rfl rfl rfl rfl (by simp) rfl rfl ?_)
        clear henv hst a; intro a w342 henv hst
        refine ⟨.inr ⟨hst.kn.pick (rg 1 7) (rg 6 12), .inl rfl⟩, ?_⟩
        refine tA (i := 14) [] (v := .int .i64 0) rfl (by kernel_rfl) (fun _ _ _ h => h) henv rfl (fun _ => rn_assign henv rfl) ?_
        clear henv a; intro a henv
        refine sAny_done (by kernel_rfl) ?_ _
        exact th_n ⟨A247, c248, A322, c323, A326, c327, A331, c332, A335, c336, B337, d338, g319, henv.sub ⟨rfl, rfl, rfl, rfl, rfl, rfl, rfl, rfl, rfl, rfl, rfl, rfl, rfl, rfl, rfl, rfl, rfl, rfl, rfl, rfl, rfl, rfl, rfl, rfl, rfl, rfl, rfl, rfl, rfl, rfl, rfl, rfl, rfl, rfl, rfl, rfl, rfl, rfl, rfl, rfl, rfl, rfl, rfl, rfl, rfl, rfl, rfl, rfl, rfl, rfl, rfl, rfl, rfl, rfl, rfl, rfl, rfl, rfl, rfl, rfl, rfl, rfl, rfl, rfl, rfl, rfl, rfl, rfl, rfl, rfl, rfl, rfl, rfl, rfl, trivial⟩, hst.pick [0, 1, 2, 3, 4, 5, 6, 7] [0, 1, 2, 3, 4, 5, 6, 7, 8, 9, 10, 11, 12, 13, 14, 15, 16, 17] (by decide)⟩
    · refine ⟨_, rfl, rfl, op_alloc (c := #[.bool (neg (qn 0)), .slice none (zl (qn 0)) 0, .bool (neg (ql 0)), .slice none (zl (ql 0)) 0]) henv hst rfl zero_anvil_ratio_Rat qcells ?_⟩
      clear henv hst a; intro a w344 g343 henv hst
      refine ⟨.inr ⟨hst.kn.pick (rg 1 7) (rg 0 12), .inr (hst.kn.pick [] [])⟩, ?_⟩
      refine sAny_one (i := 2) (by kernel_rfl) rfl rfl (op_call henv rfl Tryd.call43 rfl (of_z (n := tm) (by omega) (by omega)) ?_)
      rintro e w348 ⟨_, rfl, ⟨A345, c346, rfl, hz347⟩, hb⟩
      refine ⟨_, rfl, ?_⟩
      clear henv a; intro a henv
      replace hst := (hst.call hb).addZ hz347 ⟨nou_bk rfl, nou_bk rfl, nou_bk rfl, nou_bk rfl, nou_bk rfl, nou_bk rfl, nou_bk rfl, nou_bk rfl, trivial⟩
      clear hz347
      clear hb
      refine ⟨.inr ⟨hst.kn.pick (rg 1 7) (rg 1 12), .inr (hst.kn.pick [] [])⟩, ?_⟩
      have hs349 := zl_mul (qn x) tm
      refine sAny_one (i := 3) (by kernel_rfl) rfl rfl (op_call henv rfl Tryd.call84 rfl (mul_z (x := (qn x)) (y := tm) (show ZIn _ A68 c69 (qn x) from hst.pat (k := 8) rfl) (show ZIn _ A345 c346 tm from hst.pat (k := 0) rfl) (by omega) (by omega)) ?_)
      rintro e w353 ⟨_, rfl, ⟨A350, c351, rfl, hz352⟩, hb⟩
      refine ⟨_, rfl, ?_⟩
      clear henv a; intro a henv
      replace hst := (hst.call hb).addZ hz352 ⟨nou_bk rfl, nou_bk rfl, nou_bk rfl, nou_bk rfl, nou_bk rfl, nou_bk rfl, nou_bk rfl, nou_bk rfl, trivial⟩
      clear hz352
      clear hb
      refine ⟨.inr ⟨hst.kn.pick (rg 1 7) (rg 2 12), .inr (hst.kn.pick [] [])⟩, ?_⟩
      refine sAny_one (i := 6) (by kernel_rfl) rfl rfl (op_call henv rfl Tryd.call43 rfl (of_z (n := tm) (by omega) (by omega)) ?_)
      rintro e w357 ⟨_, rfl, ⟨A354, c355, rfl, hz356⟩, hb⟩
      refine ⟨_, rfl, ?_⟩
      clear henv a; intro a henv
      replace hst := (hst.call hb).addZ hz356 ⟨nou_bk rfl, nou_bk rfl, nou_bk rfl, nou_bk rfl, nou_bk rfl, nou_bk rfl, nou_bk rfl, nou_bk rfl, trivial⟩
      clear hz356
      clear hb
      refine ⟨.inr ⟨hst.kn.pick (rg 1 7) (rg 3 12), .inr (hst.kn.pick [] [])⟩, ?_⟩
      have hs358 := zl_mul (qd x) tm
      refine sAny_one (i := 7) (by kernel_rfl) rfl rfl (op_call henv rfl Tryd.call84 rfl (mul_z (x := (qd x)) (y := tm) (show ZIn _ A73 c74 (qd x) from hst.pat (k := 9) rfl) (show ZIn _ A354 c355 tm from hst.pat (k := 0) rfl) (by omega) (by omega)) ?_)
      rintro e w362 ⟨_, rfl, ⟨A359, c360, rfl, hz361⟩, hb⟩
      refine ⟨_, rfl, ?_⟩
      clear henv a; intro a henv
      replace hst := (hst.call hb).addZ hz361 ⟨nou_bk rfl, nou_bk rfl, nou_bk rfl, nou_bk rfl, nou_bk rfl, nou_bk rfl, nou_bk rfl, nou_bk rfl, trivial⟩
      clear hz361
      clear hb
      refine ⟨.inr ⟨hst.kn.pick (rg 1 7) (rg 4 12), .inr (hst.kn.pick [] [])⟩, ?_⟩
      refine sAny_one (i := 8) (by kernel_rfl) rfl rfl (op_call henv rfl Tryd.call90 rfl (make_qr (p := (qn x) * tm) (q := (qd x) * tm) (r := x) (show ZIn _ A350 c351 ((qn x) * tm) from hst.pat (k := 2) rfl) (show ZIn _ A359 c360 ((qd x) * tm) from hst.pat (k := 0) rfl) (by omega) (by omega) (Int.mul_ne_zero (qd_ne x) ht0) (div_tm ht0 x)) ?_)
      rintro e w369 ⟨_, rfl, ⟨A363, c364, B365, d366, rfl, hz367, hz368⟩, hb⟩
      refine ⟨_, rfl, ?_⟩
      clear henv a; intro a henv
      replace hst := ((hst.call hb).addZ hz367 ⟨nou_bk rfl, nou_bk rfl, nou_bk rfl, nou_bk rfl, nou_bk rfl, nou_bk rfl, nou_bk rfl, nou_bk rfl, trivial⟩).addZ hz368 ⟨nou_bk rfl, nou_bk rfl, nou_bk rfl, nou_bk rfl, nou_bk rfl, nou_bk rfl, nou_bk rfl, nou_bk rfl, trivial⟩
      clear hz367 hz368
      clear hb
      refine ⟨.inr ⟨hst.kn.pick (rg 1 7) (rg 6 12), .inr (hst.kn.pick [] [])⟩, ?_⟩
      refine tM (i := 9) [10, 11, 13, 14] rfl (by kernel_rfl) (fun _ _ _ h => h) henv rfl rfl ?_
      clear henv a; intro a henv
      refine tA (i := 10) [13, 14] (v := .agg #[.bool (neg (qn x)), .slice A363 (zl (qn x)) c364, .bool (neg (ql x)), .slice B365 (zl (ql x)) d366]) rfl (by kernel_rfl) (fun _ _ _ h => h) henv rfl (fun _ => rn_extract henv rfl rfl) ?_
      clear henv a; intro a henv
      refine tA (i := 11) [14] (v := .int .i64 0) rfl (by kernel_rfl) (fun _ _ _ h => h) henv rfl (fun _ => rn_extract henv rfl rfl) ?_
      clear henv a; intro a henv
      refine sAny_one (i := 13) (by kernel_rfl) rfl rfl (op_store (k := 0) (c' := #[.bool (neg (qn x)), .slice A363 (zl (qn x)) c364, .bool (neg (ql x)), .slice B365 (zl (ql x)) d366]) henv hst (ty_anvil_ratio_Rat.size) rfl rfl rfl rfl (by simp) rfl rfl ?_)
      clear henv hst a; intro a w370 henv hst
      refine ⟨.inr ⟨hst.kn.pick (rg 1 7) (rg 6 12), .inl rfl⟩, ?_⟩
      refine tA (i := 14) [] (v := .int .i64 0) rfl (by kernel_rfl) (fun _ _ _ h => h) henv rfl (fun _ => rn_assign henv rfl) ?_
      clear henv a; intro a henv
      refine sAny_done (by kernel_rfl) ?_ _
      exact th_n ⟨A345, c346, A350, c351, A354, c355, A359, c360, A363, c364, B365, d366, g343, henv.sub ⟨rfl, rfl, rfl, rfl, rfl, rfl, rfl, rfl, rfl, rfl, rfl, rfl, rfl, rfl, rfl, rfl, rfl, rfl, rfl, rfl, rfl, rfl, rfl, rfl, rfl, rfl, rfl, rfl, rfl, rfl, rfl, rfl, rfl, rfl, rfl, rfl, rfl, rfl, rfl, rfl, rfl, rfl, rfl, rfl, rfl, rfl, rfl, rfl, rfl, rfl, rfl, rfl, rfl, rfl, rfl, rfl, rfl, rfl, rfl, rfl, rfl, rfl, rfl, rfl, rfl, rfl, rfl, rfl, rfl, rfl, rfl, rfl, rfl, rfl, trivial⟩, hst.pick [0, 1, 2, 3, 4, 5, 6, 7] [0, 1, 2, 3, 4, 5, 6, 7, 8, 9, 10, 11, 12, 13, 14, 15, 16, 17] (by decide)⟩
  clear henv hst a
  rintro a w371 ⟨A247, c248, A252, c253, A256, c257, A261, c262, A265, c266, B267, d268, g272, henv, hst⟩
  refine wp_seq ?_
  refine region_seq ?_
  revert a
  refine mA rfl rfl ?_
  refine sA (v := .bool (tm == (0 : Int))) rfl (fun _ henv => rn_bin henv rfl rfl rfl) ?_
  intro a henv
  rw [show (tm == (0 : Int)) = false from (beq_eq_false_iff_ne.2 ht0)] at henv
  revert a
  refine mA rfl rfl ?_
  refine kA rfl rfl rfl rfl rfl ?_
  refine kA rfl rfl rfl rfl rfl ?_
  refine sA (v := .bool false) rfl (fun _ henv => rn_pick henv rfl rfl) ?_
  refine mA rfl rfl ?_
  refine gA (v := .int .i64 tm) rfl rfl rfl rfl (fun _ henv => rn_move henv rfl) ?_
  refine gA (v := .bool (tm != (0 : Int))) rfl rfl rfl rfl (fun _ henv => rn_bin henv rfl rfl rfl) ?_
  intro a henv
  rw [show (tm != (0 : Int)) = true from (bne_iff_ne.2 ht0)] at henv
  revert a
  refine gA (v := .bool true) rfl rfl rfl rfl (fun _ henv => rn_move henv rfl) ?_
  refine gA (v := .int .i64 0) rfl rfl rfl rfl (fun _ henv => rn_move henv rfl) ?_
  refine gA (v := .bool false) rfl rfl rfl rfl (fun _ henv => rn_bin henv rfl rfl rfl) ?_
  refine gA (v := .bool false) rfl rfl rfl rfl (fun _ henv => rn_move henv rfl) ?_
  refine gA (v := .agg #[.bool (neg (qn x)), .slice A54 (zl (qn x)) c55, .bool (neg (ql x)), .slice B56 (zl (ql x)) d57]) rfl rfl rfl rfl (fun _ henv => rn_load0 henv ty_anvil_ratio_Rat rfl (hst.oat (k := 6) rfl) rfl) ?_
  refine gA (v := .agg #[.bool (neg (qn x)), .slice A265 (zl (qn x)) c266, .bool (neg (ql x)), .slice B267 (zl (ql x)) d268]) rfl rfl rfl rfl (fun _ henv => rn_load0 henv ty_anvil_ratio_Rat rfl (hst.oat (k := 0) rfl) rfl) ?_
  intro a henv
  refine seq_g rfl henv rfl rfl (op_call henv rfl Tryd.call57 rfl (same_q (x := x) (y := x) (show ZIn _ A54 c55 (qn x) from hst.pat (k := 17) rfl) (show ZIn _ B56 d57 (ql x) from hst.pat (k := 16) rfl) (show ZIn _ A265 c266 (qn x) from hst.pat (k := 1) rfl) (show ZIn _ B267 d268 (ql x) from hst.pat (k := 0) rfl) sx sx (by omega)) ?_)
  rintro e w372 ⟨rfl, hb⟩
  refine ⟨_, rfl, ?_⟩
  clear henv a; intro a henv
  replace hst := hst.call hb
  clear hb
  rw [show (decide (x = x)) = true from (decide_eq_true rfl)] at henv
  revert a
  refine gA (v := .bool false) rfl rfl rfl rfl (fun _ henv => rn_un henv rfl rfl) ?_
  refine gA (v := .bool false) rfl rfl rfl rfl (fun _ henv => rn_pick henv rfl rfl) ?_
  refine gA (v := .bool false) rfl rfl rfl rfl (fun _ henv => rn_pick henv rfl rfl) ?_
  refine sA (v := .bool false) rfl (fun _ henv => rn_pick henv rfl rfl) ?_
  intro a henv
  refine wpList_nil ?_
  refine th_n ?_
  refine if_f henv rfl (rfl) ?_
  refine wp_skip ?_
  refine th_n ?_
  refine wp_seq ?_
  refine region_seq ?_
  refine sv (v := .string ⟨u.toArray⟩) henv rfl (rn_move henv rfl) ?_
  clear henv a; intro a henv
  refine seq_step rfl (op_call henv rfl Tryd.call91 rfl (q_read_ok hr (by omega)) ?_)
  rintro e w379 ⟨_, rfl, ⟨A373, c374, B375, d376, rfl, hz377, hz378⟩, hb⟩
  refine ⟨_, rfl, ?_⟩
  clear henv a; intro a henv
  replace hst := ((hst.call hb).addZ hz377 ⟨nou_bk rfl, nou_bk rfl, nou_bk rfl, nou_bk rfl, nou_bk rfl, nou_bk rfl, nou_bk rfl, nou_bk rfl, trivial⟩).addZ hz378 ⟨nou_bk rfl, nou_bk rfl, nou_bk rfl, nou_bk rfl, nou_bk rfl, nou_bk rfl, nou_bk rfl, nou_bk rfl, trivial⟩
  clear hz377 hz378
  clear hb
  revert a
  refine mA rfl rfl ?_
  refine sA (v := .agg #[.bool (neg (qn r)), .slice A373 (zl (qn r)) c374, .bool (neg (ql r)), .slice B375 (zl (ql r)) d376]) rfl (fun _ henv => rn_extract henv rfl rfl) ?_
  refine sA (v := .agg #[.int .i64 0, .int .i64 0]) rfl (fun _ henv => rn_extract henv rfl rfl) ?_
  intro a henv
  refine seq_step rfl (op_alloc (c := #[.bool (neg (qn 0)), .slice none (zl (qn 0)) 0, .bool (neg (ql 0)), .slice none (zl (ql 0)) 0]) henv hst rfl zero_anvil_ratio_Rat qcells ?_)
  clear henv hst a; intro a w381 g380 henv hst
  refine seq_step rfl (op_alloc (c := #[.int .i64 0, .int .i64 0]) henv hst rfl zero_anvil_api_Spot rfl ?_)
  clear henv hst a; intro a w383 g382 henv hst
  refine seq_step rfl (op_store (k := 1) (c' := #[.bool (neg (qn r)), .slice A373 (zl (qn r)) c374, .bool (neg (ql r)), .slice B375 (zl (ql r)) d376]) henv hst (ty_anvil_ratio_Rat.size) rfl rfl rfl rfl (by simp) rfl rfl ?_)
  clear henv hst a; intro a w384 henv hst
  refine seq_step rfl (op_store (k := 0) (c' := #[.int .i64 0, .int .i64 0]) henv hst (ty_anvil_api_Spot.size) rfl rfl rfl rfl (by simp) rfl rfl ?_)
  clear henv hst a; intro a w385 henv hst
  refine wpList_nil ?_
  refine th_n ?_
  refine wp_seq ?_
  refine region_seq ?_
  revert a
  refine sA (v := .agg #[.int .i64 0, .int .i64 0]) rfl (fun _ henv => rn_load0 henv ty_anvil_api_Spot rfl (hst.oat (k := 0) rfl) rfl) ?_
  refine sA (v := .agg #[.int .i64 0, .int .i64 0]) rfl (fun _ henv => rn_spot0) ?_
  refine sA (v := .bool (!decide ([(0 : Int), (0 : Int)] = [(0 : Int), (0 : Int)]))) rfl (fun _ henv => rn_neqI [(0 : Int), (0 : Int)] [(0 : Int), (0 : Int)] henv spotI rfl rfl rfl rfl) ?_
  intro a henv
  rw [show (!decide ([(0 : Int), (0 : Int)] = [(0 : Int), (0 : Int)])) = false from (by decide)] at henv
  revert a
  refine mA rfl rfl ?_
  refine gA (v := .agg #[.bool (neg (qn r)), .slice A373 (zl (qn r)) c374, .bool (neg (ql r)), .slice B375 (zl (ql r)) d376]) rfl rfl rfl rfl (fun _ henv => rn_load0 henv ty_anvil_ratio_Rat rfl (hst.oat (k := 1) rfl) rfl) ?_
  intro a henv
  refine seq_g rfl henv rfl rfl (op_call henv rfl Tryd.call92 rfl (text_q (x := r) (show ZIn _ A373 c374 (qn r) from hst.pat (k := 1) rfl) (show ZIn _ B375 d376 (ql r) from hst.pat (k := 0) rfl) sr (by omega)) ?_)
  rintro e w386 ⟨rfl, hb⟩
  refine ⟨_, rfl, ?_⟩
  clear henv a; intro a henv
  replace hst := hst.call hb
  clear hb
  revert a
  refine gA (v := .string ⟨u.toArray⟩) rfl rfl rfl rfl (fun _ henv => rn_move henv rfl) ?_
  refine gA (v := .bool (decide ((textQ r) = u))) rfl rfl rfl rfl (fun _ henv => rn_eqls (s := (textQ r)) (t := u) henv rfl rfl) ?_
  intro a henv
  rw [show (decide ((textQ r) = u)) = true from (decide_eq_true hr)] at henv
  revert a
  refine sA (v := .bool true) rfl (fun _ henv => rn_pick henv rfl rfl) ?_
  refine aA rfl rfl ?_
  intro a henv
  refine wpList_nil ?_
  refine th_n ?_
  refine wp_ret ?_
  refine leave henv (res1 Tryd.results14 (RV.tmp henv rfl)) ?_
  exact ⟨rfl, hst.below⟩
set_option maxRecDepth 100000 in
set_option maxHeartbeats 16000000 in
theorem qback_no0 {s t u : List UInt8} {x : Rat} {tm : Int} {w0 : World} (f1 : AlAs s t x false) (hl : ¬ Lg (s, t)) (hu : u.length ≤ 800) (hr : ∀ r, textQ r ≠ u) :
    Calls Tryd.prog 14 #[.agg #[.string ⟨s.toArray⟩, .string ⟨t.toArray⟩], .int .i64 tm, .string ⟨u.toArray⟩] w0 fun e w' => e = .returned (.bool true) ∧ Below w0.heap.size w0 w' := by
  refine enter Tryd.func14 rfl Tryd.ntmps14 rfl ?_
  intro a henv hst
  refine wp_seq ?_
  refine region_seq ?_
  refine seq_step rfl (op_box (c := #[.string ⟨s.toArray⟩, .string ⟨t.toArray⟩]) henv hst rfl rfl rfl ?_)
  clear henv hst a; intro a w52 g51 henv hst
  refine sv (v := .bool false) henv rfl (rn_assign henv rfl) ?_
  clear henv a; intro a henv
  refine wpList_nil ?_
  refine th_n ?_
  refine wp_seq ?_
  refine wp_seq ?_
  refine region_seq ?_
  refine seq_step rfl (op_call henv rfl Tryd.call55 rfl (qworks) ?_)
  rintro e w53 ⟨rfl, hb⟩
  refine ⟨_, rfl, ?_⟩
  clear henv a; intro a henv
  replace hst := hst.call hb
  clear hb
  refine sv (v := .bool false) henv rfl (rn_un henv rfl rfl) ?_
  clear henv a; intro a henv
  refine wpList_nil ?_
  refine th_n ?_
  refine if_f henv rfl (rfl) ?_
  refine wp_skip ?_
  refine th_n ?_
  refine wp_seq ?_
  refine region_seq ?_
  refine sv (v := .agg #[.string ⟨s.toArray⟩, .string ⟨t.toArray⟩]) henv rfl (rn_load0 henv ty_anvil_anvillaw03_Frac rfl (hst.oat (k := 0) rfl) rfl) ?_
  clear henv a; intro a henv
  refine seq_step rfl (op_call henv rfl Tryd.call87 rfl (f1 _) ?_)
  rintro e w60 ⟨_, rfl, ⟨A54, c55, B56, d57, rfl, hz58, hz59⟩, hb⟩
  refine ⟨_, rfl, ?_⟩
  clear henv a; intro a henv
  replace hst := ((hst.call hb).addZ hz58 ⟨nou_bk rfl, trivial⟩).addZ hz59 ⟨nou_bk rfl, trivial⟩
  clear hz58 hz59
  clear hb
  revert a
  refine mA rfl rfl ?_
  refine sA (v := .agg #[.bool (neg (qn x)), .slice A54 (zl (qn x)) c55, .bool (neg (ql x)), .slice B56 (zl (ql x)) d57]) rfl (fun _ henv => rn_extract henv rfl rfl) ?_
  refine sA (v := .bool false) rfl (fun _ henv => rn_extract henv rfl rfl) ?_
  intro a henv
  refine seq_step rfl (op_alloc (c := #[.bool (neg (qn 0)), .slice none (zl (qn 0)) 0, .bool (neg (ql 0)), .slice none (zl (ql 0)) 0]) henv hst rfl zero_anvil_ratio_Rat qcells ?_)
  clear henv hst a; intro a w62 g61 henv hst
  refine seq_step rfl (op_store (k := 0) (c' := #[.bool (neg (qn x)), .slice A54 (zl (qn x)) c55, .bool (neg (ql x)), .slice B56 (zl (ql x)) d57]) henv hst (ty_anvil_ratio_Rat.size) rfl rfl rfl rfl (by simp) rfl rfl ?_)
  clear henv hst a; intro a w63 henv hst
  refine sv (v := .bool false) henv rfl (rn_assign henv rfl) ?_
  clear henv a; intro a henv
  refine wpList_nil ?_
  refine th_n ?_
  refine wp_seq ?_
  refine wp_seq ?_
  refine region_seq ?_
  refine sv (v := .agg #[.string ⟨s.toArray⟩, .string ⟨t.toArray⟩]) henv rfl (rn_load0 henv ty_anvil_anvillaw03_Frac rfl (hst.oat (k := 1) rfl) rfl) ?_
  clear henv a; intro a henv
  refine seq_step rfl (op_buildSlice (z := 2) (pv := #[(0, .agg #[.string ⟨s.toArray⟩, .string ⟨t.toArray⟩])]) (c := #[.string ⟨s.toArray⟩, .string ⟨t.toArray⟩]) henv hst rfl Tryd.underlying103 (ty_anvil_anvillaw03_Frac.size) zero_anvil_anvillaw03_Frac (by decide) (by decide) rfl (by kernel_rfl) ?_)
  clear henv hst a; intro a w65 g64 henv hst
  replace hst := hst.giveBk (f := fF) (F := FF) (k := 0) (n := 1) (es := [(s, t)]) rfl rfl fF_len rfl (by decide) (esT_P (fun _ => rfl) _ _) (fun _ _ _ _ => esT_foot (fun _ => rfl))
  refine seq_step rfl (op_call henv rfl Tryd.call68 rfl (qlong_no (hst.pat (k := 0) rfl) (by decide) (by intro e he; simp at he; subst he; exact hl)) ?_)
  rintro e w66 ⟨rfl, hb⟩
  refine ⟨_, rfl, ?_⟩
  clear henv a; intro a henv
  replace hst := hst.call hb
  clear hb
  revert a
  refine mA rfl rfl ?_
  refine gA (v := .string ⟨u.toArray⟩) rfl rfl rfl rfl (fun _ henv => rn_move henv rfl) ?_
  refine gA (v := .int .i64 (u.length : Nat)) rfl rfl rfl rfl (fun _ henv => rn_lenS henv Tryd.underlying9 rfl) ?_
  refine gA (v := .bool (decide (((u.length : Nat) : Int) > (800 : Int)))) rfl rfl rfl rfl (fun _ henv => rn_bin henv rfl rfl rfl) ?_
  intro a henv
  rw [show (decide (((u.length : Nat) : Int) > (800 : Int))) = false from (decide_eq_false (by omega))] at henv
  refine sv (v := .bool false) henv rfl (rn_pick henv rfl rfl) ?_
  clear henv a; intro a henv
  refine wpList_nil ?_
  refine th_n ?_
  refine if_f henv rfl (rfl) ?_
  refine wp_skip ?_
  refine th_n ?_
  refine wp_seq ?_
  refine wp_seq ?_
  refine region_seq ?_
  refine sv (v := .bool false) henv rfl (rn_move henv rfl) ?_
  clear henv a; intro a henv
  refine wpList_nil ?_
  refine th_n ?_
  refine if_f henv rfl (rfl) ?_
  refine wp_skip ?_
  refine th_n ?_
  refine wp_seq ?_
  refine region_seq ?_
  refine sv (v := .string ⟨u.toArray⟩) henv rfl (rn_move henv rfl) ?_
  clear henv a; intro a henv
  refine seq_step rfl (op_call henv rfl Tryd.call91 rfl (q_read_bad hr (by omega)) ?_)
  rintro e w73 ⟨p9, q9, _, hp9, rfl, ⟨A67, c68, B69, d70, rfl, hz71, hz72⟩, hb⟩
  refine ⟨_, rfl, ?_⟩
  clear henv a; intro a henv
  replace hst := ((hst.call hb).addZ hz71 ⟨nou_bk rfl, nou_bk rfl, trivial⟩).addZ hz72 ⟨nou_bk rfl, nou_bk rfl, trivial⟩
  clear hz71 hz72
  clear hb
  revert a
  refine mA rfl rfl ?_
  refine sA (v := .agg #[.bool (neg (qn 0)), .slice A67 (zl (qn 0)) c68, .bool (neg (ql 0)), .slice B69 (zl (ql 0)) d70]) rfl (fun _ henv => rn_extract henv rfl rfl) ?_
  refine sA (v := .agg #[.int .i64 p9, .int .i64 q9]) rfl (fun _ henv => rn_extract henv rfl rfl) ?_
  intro a henv
  refine seq_step rfl (op_alloc (c := #[.bool (neg (qn 0)), .slice none (zl (qn 0)) 0, .bool (neg (ql 0)), .slice none (zl (ql 0)) 0]) henv hst rfl zero_anvil_ratio_Rat qcells ?_)
  clear henv hst a; intro a w75 g74 henv hst
  refine seq_step rfl (op_alloc (c := #[.int .i64 0, .int .i64 0]) henv hst rfl zero_anvil_api_Spot rfl ?_)
  clear henv hst a; intro a w77 g76 henv hst
  refine seq_step rfl (op_store (k := 1) (c' := #[.bool (neg (qn 0)), .slice A67 (zl (qn 0)) c68, .bool (neg (ql 0)), .slice B69 (zl (ql 0)) d70]) henv hst (ty_anvil_ratio_Rat.size) rfl rfl rfl rfl (by simp) rfl rfl ?_)
  clear henv hst a; intro a w78 henv hst
  refine seq_step rfl (op_store (k := 0) (c' := #[.int .i64 p9, .int .i64 q9]) henv hst (ty_anvil_api_Spot.size) rfl rfl rfl rfl (by simp) rfl rfl ?_)
  clear henv hst a; intro a w79 henv hst
  refine wpList_nil ?_
  refine th_n ?_
  refine wp_seq ?_
  refine region_seq ?_
  revert a
  refine sA (v := .agg #[.int .i64 p9, .int .i64 q9]) rfl (fun _ henv => rn_load0 henv ty_anvil_api_Spot rfl (hst.oat (k := 0) rfl) rfl) ?_
  refine sA (v := .agg #[.int .i64 0, .int .i64 0]) rfl (fun _ henv => rn_spot0) ?_
  refine sA (v := .bool (!decide ([p9, q9] = [(0 : Int), (0 : Int)]))) rfl (fun _ henv => rn_neqI [p9, q9] [(0 : Int), (0 : Int)] henv spotI rfl rfl rfl rfl) ?_
  intro a henv
  rw [show (!decide ([p9, q9] = [(0 : Int), (0 : Int)])) = true from (by simp [hp9])] at henv
  revert a
  refine mA rfl rfl ?_
  refine kA rfl rfl rfl rfl rfl ?_
  refine kA rfl rfl rfl rfl rfl ?_
  refine kA rfl rfl rfl rfl rfl ?_
  refine kA rfl rfl rfl rfl rfl ?_
  refine sA (v := .bool true) rfl (fun _ henv => rn_pick henv rfl rfl) ?_
  refine aA rfl rfl ?_
  intro a henv
  refine wpList_nil ?_
  refine th_n ?_
  refine wp_ret ?_
  refine leave henv (res1 Tryd.results14 (RV.tmp henv rfl)) ?_
  exact ⟨rfl, hst.below⟩
end Go.Proofs.YtegglooojlheoaaDoor.W
