/- Package anvilref03: what its functions leave, over core's Rat. Printed by pv/gen_ratio.py. No condition. -/
import Derived.Test.YtegglooojlheoaaDoorM41
import Derived.Test.YtegglooojlheoaaDoorM13
import Derived.Test.YtegglooojlheoaaDoorM42
import Derived.Test.YtegglooojlheoaaDoorM35
import Derived.Test.YtegglooojlheoaaDoorM33
import Derived.Test.YtegglooojlheoaaDoorM30

namespace Go.Proofs.YtegglooojlheoaaDoor.W
open Go.RowKit Anv Go.Lib
section
variable {N : Nat} {dq : List Deferred} {a : Act} {l : List (Nat × Value)} {w : World} {d : Nat} {ty : TypeId} {pos : String} {af : Array Edge} {gd : Option (Nat × Bool)}
end
end Go.Proofs.YtegglooojlheoaaDoor.W

/- The laws of anvillaw03: their helpers. Printed by pv/gen_qlaw.py. No condition. -/
namespace Go.Proofs.YtegglooojlheoaaDoor.W
open Go.RowKit Anv Go.Lib
theorem qs_zero : Qs 1 0 := ⟨by decide, by decide⟩
theorem qs_w : Qs 1 (mkRat (-3) 2) := ⟨by decide, by decide⟩
theorem qs_3 : Qs 1 ((3 : Int) : Rat) := ⟨by decide, by decide⟩
theorem qs_intz {k : Nat} {z : Int} (h : zl z ≤ k) : Qs (k + 1) (z : Rat) := Qs.int (lt32_zl h)
theorem floor_sz {k : Nat} {r : Rat} (h : Qs k r) : zl r.floor ≤ k := by
  rw [← q_floor]
  exact Nat.le_trans (zl_ediv _ _) h.n
def RdAs (s : List UInt8) (z p q b : Int) : Prop := ∀ w0 : World,
    (Calls Tryd.prog 113 #[.string ⟨s.toArray⟩] w0 fun e w' => ∃ v, e = .returned (.tuple #[v, .agg #[.int .i64 p, .int .i64 q]]) ∧ ZAt w' v z ∧ Below w0.heap.size w0 w') ∧
    (Calls Tryd.prog 115 #[.string ⟨s.toArray⟩] w0 fun e w' => ∃ v, e = .returned (.tuple #[v, .int .i64 b]) ∧ RAt w' v z ∧ Below w0.heap.size w0 w')
theorem zin_at (w : World) : ZAt w (.agg #[.bool (neg 0), .slice none (zl 0) 0]) 0 := ⟨_, _, rfl, zin_none _⟩
set_option maxRecDepth 100000 in
theorem qlong_one1 {s t : List UInt8} {w0 : World} (h : 300 < s.length) :
    Calls Tryd.prog 119 #[.agg #[.string ⟨s.toArray⟩, .string ⟨t.toArray⟩]] w0 fun e w' => e = .returned (.bool true) ∧ Below w0.heap.size w0 w' := by
  refine enter Tryd.func119 rfl Tryd.ntmps119 rfl ?_
  intro a henv hst
  refine wp_seq ?_
  refine region_seq ?_
  refine seq_step rfl (op_box (c := #[.string ⟨s.toArray⟩, .string ⟨t.toArray⟩]) henv hst rfl rfl rfl ?_)
  clear henv hst a; intro a w2 g1 henv hst
  refine sv (v := .bool false) henv rfl (rn_assign henv rfl) ?_
  clear henv a; intro a henv
  refine wpList_nil ?_
  refine th_n ?_
  refine wp_seq ?_
  refine region_seq ?_
  revert a
  refine sA (v := .pointer (some ⟨g1, 0, none⟩)) rfl (fun _ henv => rn_fieldAddr henv fd_anvil_anvillaw03_Frac_0 (ty_string.size) (by decide) rfl) ?_
  refine sA (v := .string ⟨s.toArray⟩) rfl (fun _ henv => rn_load1 henv ty_string rfl (hst.oat (k := 0) rfl) rfl) ?_
  refine sA (v := .int .i64 (s.length : Nat)) rfl (fun _ henv => rn_lenS henv Tryd.underlying9 rfl) ?_
  refine sA (v := .bool (decide (((s.length : Nat) : Int) > (300 : Int)))) rfl (fun _ henv => rn_bin henv rfl rfl rfl) ?_
  intro a henv
  rw [show (decide (((s.length : Nat) : Int) > (300 : Int))) = true from decide_eq_true (by omega)] at henv
  revert a
  refine mA rfl rfl ?_
  refine kA rfl rfl rfl rfl rfl ?_
  refine kA rfl rfl rfl rfl rfl ?_
  refine kA rfl rfl rfl rfl rfl ?_
  refine kA rfl rfl rfl rfl rfl ?_
  refine sA (v := .bool true) rfl (fun _ henv => rn_pick henv rfl rfl) ?_
  refine aA rfl rfl ?_
  intro a henv
  refine wpList_nil ?_
  refine th_n ?_
  refine wp_ret ?_
  refine leave henv (res1 Tryd.results119 (RV.tmp henv rfl)) ?_
  exact ⟨rfl, hst.below⟩
set_option maxRecDepth 100000 in
theorem qlong_one0 {s t : List UInt8} {w0 : World} (h : ¬ 300 < s.length) :
    Calls Tryd.prog 119 #[.agg #[.string ⟨s.toArray⟩, .string ⟨t.toArray⟩]] w0 fun e w' => e = .returned (.bool (decide (((t.length : Nat) : Int) > (300 : Int)))) ∧ Below w0.heap.size w0 w' := by
  refine enter Tryd.func119 rfl Tryd.ntmps119 rfl ?_
  intro a henv hst
  refine wp_seq ?_
  refine region_seq ?_
  refine seq_step rfl (op_box (c := #[.string ⟨s.toArray⟩, .string ⟨t.toArray⟩]) henv hst rfl rfl rfl ?_)
  clear henv hst a; intro a w2 g1 henv hst
  refine sv (v := .bool false) henv rfl (rn_assign henv rfl) ?_
  clear henv a; intro a henv
  refine wpList_nil ?_
  refine th_n ?_
  refine wp_seq ?_
  refine region_seq ?_
  revert a
  refine sA (v := .pointer (some ⟨g1, 0, none⟩)) rfl (fun _ henv => rn_fieldAddr henv fd_anvil_anvillaw03_Frac_0 (ty_string.size) (by decide) rfl) ?_
  refine sA (v := .string ⟨s.toArray⟩) rfl (fun _ henv => rn_load1 henv ty_string rfl (hst.oat (k := 0) rfl) rfl) ?_
  refine sA (v := .int .i64 (s.length : Nat)) rfl (fun _ henv => rn_lenS henv Tryd.underlying9 rfl) ?_
  refine sA (v := .bool (decide (((s.length : Nat) : Int) > (300 : Int)))) rfl (fun _ henv => rn_bin henv rfl rfl rfl) ?_
  intro a henv
  rw [show (decide (((s.length : Nat) : Int) > (300 : Int))) = false from decide_eq_false (by omega)] at henv
  revert a
  refine mA rfl rfl ?_
  refine gA (v := .pointer (some ⟨g1, 1, none⟩)) rfl rfl rfl rfl (fun _ henv => rn_fieldAddr henv fd_anvil_anvillaw03_Frac_1 (ty_string.size) (by decide) rfl) ?_
  refine gA (v := .string ⟨t.toArray⟩) rfl rfl rfl rfl (fun _ henv => rn_load1 henv ty_string rfl (hst.oat (k := 0) rfl) rfl) ?_
  refine gA (v := .int .i64 (t.length : Nat)) rfl rfl rfl rfl (fun _ henv => rn_lenS henv Tryd.underlying9 rfl) ?_
  refine gA (v := .bool (decide (((t.length : Nat) : Int) > (300 : Int)))) rfl rfl rfl rfl (fun _ henv => rn_bin henv rfl rfl rfl) ?_
  refine sA (v := .bool (decide (((t.length : Nat) : Int) > (300 : Int)))) rfl (fun _ henv => rn_pick henv rfl rfl) ?_
  refine aA rfl rfl ?_
  intro a henv
  refine wpList_nil ?_
  refine th_n ?_
  refine wp_ret ?_
  refine leave henv (res1 Tryd.results119 (RV.tmp henv rfl)) ?_
  exact ⟨rfl, hst.below⟩
def Lg (e : FE) : Prop := 300 < e.1.length ∨ 300 < e.2.length
theorem qlong_one {s t : List UInt8} {w0 : World} :
    Calls Tryd.prog 119 #[.agg #[.string ⟨s.toArray⟩, .string ⟨t.toArray⟩]] w0 fun e w' => ∃ b : Bool, e = .returned (.bool b) ∧ (b = true ↔ Lg (s, t)) ∧ Below w0.heap.size w0 w' := by
  by_cases h : 300 < s.length
  · exact (qlong_one1 h).mono fun _ _ ⟨he, hB⟩ => ⟨_, he, ⟨fun _ => .inl h, fun _ => rfl⟩, hB⟩
  · refine (qlong_one0 h).mono fun _ _ ⟨he, hB⟩ => ⟨_, he, ⟨fun hd => .inr (show 300 < t.length by have := of_decide_eq_true hd; omega), fun hd => ?_⟩, hB⟩
    rcases hd with hd | hd
    · exact absurd hd h
    · exact decide_eq_true (by have : 300 < t.length := hd; omega)
set_option maxRecDepth 100000 in
set_option maxHeartbeats 4000000 in
theorem qlong_index {A : Option Addr} {n c : Nat} {es : List FE} {w0 : World} (hr : (pfRow fF FF 2 A n c es).P w0) :
    Calls Tryd.prog 148 #[.slice A n c, .func (.func 119) #[] #[]] w0 fun e w' => ∃ r : Int, e = .returned (.int .i64 r) ∧ (0 ≤ r ↔ ∃ e ∈ es, Lg e) ∧ Below w0.heap.size w0 w' := by
  refine enter Tryd.func148 rfl Tryd.ntmps148 rfl ?_
  intro a henv hst
  have hlen := hr.2.1
  have hbig := Nat.le_trans hr.1.cap hr.1.big
  unfold maxLen at hbig
  replace hst := hst.argRow hr
  clear hr
  refine wp_seq ?_
  refine region_seq ?_
  refine sv (v := .int .i64 0) henv rfl (rn_assign henv rfl) ?_
  clear henv a; intro a henv
  refine wpList_nil ?_
  refine th_n ?_
  refine wp_seq ?_
  refine wp_seq ?_
  refine region_seq ?_
  revert a
  refine mA rfl rfl ?_
  refine sA (v := .int .i64 (n : Nat)) rfl (fun _ henv => rn_len henv Tryd.underlying103 rfl) ?_
  refine mA rfl rfl ?_
  intro a henv
  refine wpList_nil ?_
  refine th_n ?_
  refine wp_block ?_
  refine wp_loop_ghost (fun mz a w => ∃ j : Nat, n - j = mz ∧ Env 19 a [(0, .slice A n c), (1, .func (.func 119) #[] #[]), (7, .int .i64 (n : Nat)), (8, .int .i64 (j : Nat))] ∧ St w0 w [] [pfRow fF FF 2 A n c es] ∧ j ≤ n ∧ (∀ i e, i < j → es[i]? = some e → ¬ Lg e)) _ ⟨0, rfl, henv.sub ⟨rfl, rfl, rfl, rfl, trivial⟩, hst.pick [] [0] (by decide), (Nat.zero_le _), (fun i _ hi => absurd hi (Nat.not_lt_zero _))⟩ ?_
  clear henv hst a
  rintro mz a w1 ⟨j, rfl, henv, hst, hj, hz⟩
  refine wp_seq ?_
  refine region_seq ?_
  refine sv (v := .bool (decide (((j : Nat) : Int) < ((n : Nat) : Int)))) henv rfl (rn_bin henv rfl rfl rfl) ?_
  clear henv a; intro a henv
  refine wpList_nil ?_
  refine th_n ?_
  refine wp_seq ?_
  refine if_split henv rfl (fun hc2 => ?_) (fun hc2 => ?_)
  · have hlt : j < n := by have := of_decide_eq_true hc2; omega
    obtain ⟨⟨s, t⟩, he⟩ : ∃ e, es[j]? = some e := ⟨_, List.getElem?_eq_getElem (by omega)⟩
    refine wp_skip ?_
    refine th_n ?_
    refine wp_seq ?_
    refine wp_block ?_
    refine wp_seq ?_
    refine region_seq ?_
    revert a
    refine mA rfl rfl ?_
    refine aA rfl rfl ?_
    intro a henv
    refine wpList_nil ?_
    refine th_n ?_
    refine wp_seq ?_
    refine region_seq ?_
    revert a
    refine mA rfl rfl ?_
    refine mA rfl rfl ?_
    refine mA rfl rfl ?_
    refine sA (v := .pointer (some ⟨ab A, ao A + j * 2, none⟩)) rfl (fun _ henv => rn_idxR (i := j) henv Tryd.underlying103 (ty_anvil_anvillaw03_Frac.size) rfl rfl (by omega) rfl (show (pfRow fF FF 2 A n c es).P _ from (hst.pat (k := 0) rfl)).1) ?_
    refine sA (v := .agg #[.string ⟨s.toArray⟩, .string ⟨t.toArray⟩]) rfl (fun _ henv => rn_loadE (i := j) (e := (s, t)) henv ty_anvil_anvillaw03_Frac rfl rfl fF_len (show (pfRow fF FF 2 A n c es).P _ from (hst.pat (k := 0) rfl)).1 (by omega) he rfl) ?_
    intro a henv
    refine seq_step rfl (op_callv henv rfl Tryd.call119 rfl rfl (qlong_one (s := s) (t := t)) ?_)
    rintro e w3 ⟨b, rfl, hb1, hb⟩
    refine ⟨_, rfl, ?_⟩
    clear henv a; intro a henv
    replace hst := hst.call hb
    clear hb
    refine wpList_nil ?_
    refine th_n ?_
    refine if_split henv rfl (fun hc4 => ?_) (fun hc4 => ?_)
    · have hyes := hb1.1 hc4
      refine wp_seq ?_
      refine region_seq ?_
      revert a
      refine mA rfl rfl ?_
      refine aA rfl rfl ?_
      intro a henv
      refine wpList_nil ?_
      refine th_n ?_
      refine wp_ret ?_
      refine bl_r (th_r (th_r (bl_r (th_r ?_))))
      refine leave henv (res1 Tryd.results148 (RV.tmp henv rfl)) ?_
      exact ⟨_, rfl, ⟨fun _ => ⟨_, List.mem_of_getElem? he, hyes⟩, fun _ => by omega⟩, hst.below⟩
    · have hno : ¬ Lg (s, t) := fun h1 => by rw [hb1.2 h1] at hc4; cases hc4
      refine wp_skip ?_
      refine bl_n (th_n ?_)
      refine region_seq ?_
      revert a
      refine sA (v := .int .i64 (j + 1 : Nat)) rfl (fun _ henv => rn_add henv rfl rfl (by rw [IntWalk.i64_in _ (by omega)]; omega)) ?_
      refine mA rfl rfl ?_
      intro a henv
      refine wpList_nil ?_
      exact th_n ⟨_, (by omega), ⟨j + 1, rfl, henv.sub ⟨rfl, rfl, rfl, rfl, trivial⟩, hst.pick [] [0] (by decide), (by omega), (fun i e hi h1 => by rcases Nat.lt_or_ge i j with h2 | h2; exact hz i e h2 h1; obtain rfl : i = j := (by omega); rw [he] at h1; cases h1; exact hno)⟩⟩
  · obtain rfl : j = n := by have := of_decide_eq_false hc2; omega
    refine wp_exit ?_
    refine th_x (th_x (bl_x (th_n ?_)))
    refine wp_seq ?_
    refine region_seq ?_
    refine sv (v := .int .i64 (-1)) henv rfl (rn_assign henv rfl) ?_
    clear henv a; intro a henv
    refine wpList_nil ?_
    refine th_n ?_
    refine wp_ret ?_
    refine leave henv (res1 Tryd.results148 (RV.tmp henv rfl)) ?_
    exact ⟨_, rfl, ⟨fun h => by omega, fun ⟨e, h1, h2⟩ => by obtain ⟨i, hi⟩ := List.getElem?_of_mem h1; exact absurd h2 (hz i e (by have := (List.getElem?_eq_some_iff.1 hi).1; omega) hi)⟩, hst.below⟩
set_option maxRecDepth 100000 in
theorem qlong_contains {A : Option Addr} {n c : Nat} {es : List FE} {w0 : World} (hr : (pfRow fF FF 2 A n c es).P w0) :
    Calls Tryd.prog 118 #[.slice A n c, .func (.func 119) #[] #[]] w0 fun e w' => ∃ b : Bool, e = .returned (.bool b) ∧ (b = true ↔ ∃ e ∈ es, Lg e) ∧ Below w0.heap.size w0 w' := by
  refine enter Tryd.func118 rfl Tryd.ntmps118 rfl ?_
  intro a henv hst
  have hlen := hr.2.1
  have hbig := Nat.le_trans hr.1.cap hr.1.big
  unfold maxLen at hbig
  replace hst := hst.argRow hr
  clear hr
  refine wp_seq ?_
  refine region_seq ?_
  refine sv (v := .bool false) henv rfl (rn_assign henv rfl) ?_
  clear henv a; intro a henv
  refine wpList_nil ?_
  refine th_n ?_
  refine wp_seq ?_
  refine region_seq ?_
  revert a
  refine mA rfl rfl ?_
  refine mA rfl rfl ?_
  intro a henv
  refine seq_step rfl (op_call henv rfl Tryd.call148 rfl (qlong_index (hst.pat (k := 0) rfl)) ?_)
  rintro e w1 ⟨r, rfl, hr, hb⟩
  refine ⟨_, rfl, ?_⟩
  clear henv a; intro a henv
  replace hst := hst.call hb
  clear hb
  revert a
  refine sA (v := .bool (decide (r ≥ (0 : Int)))) rfl (fun _ henv => rn_bin henv rfl rfl rfl) ?_
  refine aA rfl rfl ?_
  intro a henv
  refine wpList_nil ?_
  refine th_n ?_
  refine wp_ret ?_
  refine leave henv (res1 Tryd.results118 (RV.tmp henv rfl)) ?_
  exact ⟨_, rfl, (by rw [gt_iff r]; exact hr), hst.below⟩
set_option maxRecDepth 100000 in
theorem qlong_many {A : Option Addr} {n c : Nat} {es : List FE} {w0 : World} (hr : (pfRow fF FF 2 A n c es).P w0) (hn : 12 < n) :
    Calls Tryd.prog 68 #[.slice A n c] w0 fun e w' => e = .returned (.bool true) ∧ Below w0.heap.size w0 w' := by
  refine enter Tryd.func68 rfl Tryd.ntmps68 rfl ?_
  intro a henv hst
  have hlen := hr.2.1
  have hbig := Nat.le_trans hr.1.cap hr.1.big
  unfold maxLen at hbig
  replace hst := hst.argRow hr
  clear hr
  refine wp_seq ?_
  refine region_seq ?_
  refine sv (v := .bool false) henv rfl (rn_assign henv rfl) ?_
  clear henv a; intro a henv
  refine wpList_nil ?_
  refine th_n ?_
  refine wp_seq ?_
  refine region_seq ?_
  revert a
  refine mA rfl rfl ?_
  refine sA (v := .int .i64 (n : Nat)) rfl (fun _ henv => rn_len henv Tryd.underlying103 rfl) ?_
  refine sA (v := .bool (decide (((n : Nat) : Int) > (12 : Int)))) rfl (fun _ henv => rn_bin henv rfl rfl rfl) ?_
  intro a henv
  rw [show (decide (((n : Nat) : Int) > (12 : Int))) = true from decide_eq_true (by omega)] at henv
  revert a
  refine mA rfl rfl ?_
  refine kA rfl rfl rfl rfl rfl ?_
  refine kA rfl rfl rfl rfl rfl ?_
  refine sA (v := .bool true) rfl (fun _ henv => rn_pick henv rfl rfl) ?_
  refine aA rfl rfl ?_
  intro a henv
  refine wpList_nil ?_
  refine th_n ?_
  refine wp_ret ?_
  refine leave henv (res1 Tryd.results68 (RV.tmp henv rfl)) ?_
  exact ⟨rfl, hst.below⟩
set_option maxRecDepth 100000 in
theorem qlong_few {A : Option Addr} {n c : Nat} {es : List FE} {w0 : World} (hr : (pfRow fF FF 2 A n c es).P w0) (hn : n ≤ 12) :
    Calls Tryd.prog 68 #[.slice A n c] w0 fun e w' => ∃ b : Bool, e = .returned (.bool b) ∧ (b = true ↔ ∃ e ∈ es, Lg e) ∧ Below w0.heap.size w0 w' := by
  refine enter Tryd.func68 rfl Tryd.ntmps68 rfl ?_
  intro a henv hst
  have hlen := hr.2.1
  have hbig := Nat.le_trans hr.1.cap hr.1.big
  unfold maxLen at hbig
  replace hst := hst.argRow hr
  clear hr
  refine wp_seq ?_
  refine region_seq ?_
  refine sv (v := .bool false) henv rfl (rn_assign henv rfl) ?_
  clear henv a; intro a henv
  refine wpList_nil ?_
  refine th_n ?_
  refine wp_seq ?_
  refine region_seq ?_
  revert a
  refine mA rfl rfl ?_
  refine sA (v := .int .i64 (n : Nat)) rfl (fun _ henv => rn_len henv Tryd.underlying103 rfl) ?_
  refine sA (v := .bool (decide (((n : Nat) : Int) > (12 : Int)))) rfl (fun _ henv => rn_bin henv rfl rfl rfl) ?_
  intro a henv
  rw [show (decide (((n : Nat) : Int) > (12 : Int))) = false from decide_eq_false (by omega)] at henv
  revert a
  refine mA rfl rfl ?_
  refine gA (v := .slice A n c) rfl rfl rfl rfl (fun _ henv => rn_move henv rfl) ?_
  intro a henv
  refine seq_g rfl henv rfl rfl (op_call henv rfl Tryd.call118 rfl (qlong_contains (hst.pat (k := 0) rfl)) ?_)
  rintro e w1 ⟨b, rfl, hb1, hb⟩
  refine ⟨_, rfl, ?_⟩
  clear henv a; intro a henv
  replace hst := hst.call hb
  clear hb
  revert a
  refine sA (v := .bool b) rfl (fun _ henv => rn_pick henv rfl rfl) ?_
  refine aA rfl rfl ?_
  intro a henv
  refine wpList_nil ?_
  refine th_n ?_
  refine wp_ret ?_
  refine leave henv (res1 Tryd.results68 (RV.tmp henv rfl)) ?_
  exact ⟨_, rfl, hb1, hst.below⟩
theorem qlong_no {A : Option Addr} {n c : Nat} {es : List FE} {w0 : World} (hr : (pfRow fF FF 2 A n c es).P w0) (hn : n ≤ 12) (hs : ∀ e ∈ es, ¬ Lg e) :
    Calls Tryd.prog 68 #[.slice A n c] w0 fun e w' => e = .returned (.bool false) ∧ Below w0.heap.size w0 w' := by
  refine (qlong_few hr hn).mono ?_
  rintro e w' ⟨b, rfl, hb, hB⟩
  cases b with
  | false => exact ⟨rfl, hB⟩
  | true => obtain ⟨e, he, h⟩ := hb.1 rfl; exact absurd h (hs e he)
theorem qlong_yes {A : Option Addr} {n c : Nat} {es : List FE} {w0 : World} (hr : (pfRow fF FF 2 A n c es).P w0) (hs : ∃ e ∈ es, Lg e) :
    Calls Tryd.prog 68 #[.slice A n c] w0 fun e w' => e = .returned (.bool true) ∧ Below w0.heap.size w0 w' := by
  rcases Nat.lt_or_ge 12 n with hn | hn
  · exact qlong_many hr hn
  refine (qlong_few hr hn).mono ?_
  rintro e w' ⟨b, rfl, hb, hB⟩
  obtain rfl := hb.2 hs
  exact ⟨rfl, hB⟩
set_option maxRecDepth 100000 in
set_option maxHeartbeats 2000000 in
theorem qworks {w0 : World} :
    Calls Tryd.prog 55 #[] w0 fun e w' => e = .returned (.bool true) ∧ Below w0.heap.size w0 w' := by
  have h6 : zl 6 ≤ 1 := nl_le_of_lt (by decide)
  have h4 : zl (-4) ≤ 1 := nl_le_of_lt (by decide)
  refine enter Tryd.func55 rfl Tryd.ntmps55 rfl ?_
  intro a henv hst
  refine wp_seq ?_
  refine region_seq ?_
  refine sv (v := .bool false) henv rfl (rn_assign henv rfl) ?_
  clear henv a; intro a henv
  refine wpList_nil ?_
  refine th_n ?_
  refine wp_seq ?_
  refine region_seq ?_
  refine seq_step rfl (op_call henv rfl Tryd.call43 rfl (of_z (n := (6 : Int)) (by decide) (by decide)) ?_)
  rintro e w4 ⟨_, rfl, ⟨A1, c2, rfl, hz3⟩, hb⟩
  refine ⟨_, rfl, ?_⟩
  clear henv a; intro a henv
  replace hst := (hst.call hb).addZ hz3 trivial
  clear hz3
  clear hb
  refine seq_step rfl (op_call henv rfl Tryd.call43 rfl (of_z (n := (-4 : Int)) (by decide) (by decide)) ?_)
  rintro e w8 ⟨_, rfl, ⟨A5, c6, rfl, hz7⟩, hb⟩
  refine ⟨_, rfl, ?_⟩
  clear henv a; intro a henv
  replace hst := (hst.call hb).addZ hz7 trivial
  clear hz7
  clear hb
  refine seq_step rfl (op_call henv rfl Tryd.call90 rfl (make_qr (p := 6) (q := -4) (r := mkRat (-3) 2) (show ZIn _ A1 c2 6 from hst.pat (k := 1) rfl) (show ZIn _ A5 c6 (-4) from hst.pat (k := 0) rfl) (by omega) (by omega) (by decide) (by decide +kernel)) ?_)
  rintro e w15 ⟨_, rfl, ⟨A9, c10, B11, d12, rfl, hz13, hz14⟩, hb⟩
  refine ⟨_, rfl, ?_⟩
  clear henv a; intro a henv
  replace hst := ((hst.call hb).addZ hz13 trivial).addZ hz14 trivial
  clear hz13 hz14
  clear hb
  revert a
  refine mA rfl rfl ?_
  refine sA (v := .agg #[.bool (neg (qn (mkRat (-3) 2))), .slice A9 (zl (qn (mkRat (-3) 2))) c10, .bool (neg (ql (mkRat (-3) 2))), .slice B11 (zl (ql (mkRat (-3) 2))) d12]) rfl (fun _ henv => rn_extract henv rfl rfl) ?_
  refine sA (v := .int .i64 0) rfl (fun _ henv => rn_extract henv rfl rfl) ?_
  intro a henv
  refine seq_step rfl (op_alloc (c := #[.bool (neg (qn 0)), .slice none (zl (qn 0)) 0, .bool (neg (ql 0)), .slice none (zl (ql 0)) 0]) henv hst rfl zero_anvil_ratio_Rat qcells ?_)
  clear henv hst a; intro a w17 g16 henv hst
  refine seq_step rfl (op_store (k := 0) (c' := #[.bool (neg (qn (mkRat (-3) 2))), .slice A9 (zl (qn (mkRat (-3) 2))) c10, .bool (neg (ql (mkRat (-3) 2))), .slice B11 (zl (ql (mkRat (-3) 2))) d12]) henv hst (ty_anvil_ratio_Rat.size) rfl rfl rfl rfl (by simp) rfl rfl ?_)
  clear henv hst a; intro a w18 henv hst
  refine sv (v := .int .i64 0) henv rfl (rn_assign henv rfl) ?_
  clear henv a; intro a henv
  refine wpList_nil ?_
  refine th_n ?_
  refine wp_seq ?_
  refine cut (fun a w => ∃ A20 : Option Addr, ∃ c21 : Nat, ∃ A24 : Option Addr, ∃ c25 : Nat, ∃ B26 : Option Addr, ∃ d27 : Nat, ∃ A31 : Option Addr, ∃ c32 : Nat, ∃ B33 : Option Addr, ∃ d34 : Nat, ∃ g38 : Nat, Env 59 a [(0, .bool false), (7, .agg #[.bool (neg 6), .slice A1 (zl 6) c2]), (8, .agg #[.bool (neg (-4)), .slice A5 (zl (-4)) c6]), (9, .tuple #[.agg #[.bool (neg (qn (mkRat (-3) 2))), .slice A9 (zl (qn (mkRat (-3) 2))) c10, .bool (neg (ql (mkRat (-3) 2))), .slice B11 (zl (ql (mkRat (-3) 2))) d12], .int .i64 0]), (6, .tuple #[.agg #[.bool (neg (qn (mkRat (-3) 2))), .slice A9 (zl (qn (mkRat (-3) 2))) c10, .bool (neg (ql (mkRat (-3) 2))), .slice B11 (zl (ql (mkRat (-3) 2))) d12], .int .i64 0]), (10, .agg #[.bool (neg (qn (mkRat (-3) 2))), .slice A9 (zl (qn (mkRat (-3) 2))) c10, .bool (neg (ql (mkRat (-3) 2))), .slice B11 (zl (ql (mkRat (-3) 2))) d12]), (11, .int .i64 0), (1, .pointer (some ⟨g16, 0, none⟩)), (2, .int .i64 0), (3, .pointer (some ⟨g38, 0, none⟩)), (4, .int .i64 0)] ∧ St w0 w [bk g38 #[.bool (neg (qn ((mkRat (-3) 2) / ((3 : Int) : Rat)))), .slice A31 (zl (qn ((mkRat (-3) 2) / ((3 : Int) : Rat)))) c32, .bool (neg (ql ((mkRat (-3) 2) / ((3 : Int) : Rat)))), .slice B33 (zl (ql ((mkRat (-3) 2) / ((3 : Int) : Rat)))) d34] 91, bk g16 #[.bool (neg (qn (mkRat (-3) 2))), .slice A9 (zl (qn (mkRat (-3) 2))) c10, .bool (neg (ql (mkRat (-3) 2))), .slice B11 (zl (ql (mkRat (-3) 2))) d12] 91] [pfZ B33 d34 (ql ((mkRat (-3) 2) / ((3 : Int) : Rat))), pfZ A31 c32 (qn ((mkRat (-3) 2) / ((3 : Int) : Rat))), pfZ B26 d27 (ql ((3 : Int) : Rat)), pfZ A24 c25 (qn ((3 : Int) : Rat)), pfZ A20 c21 3, pfZ B11 d12 (ql (mkRat (-3) 2)), pfZ A9 c10 (qn (mkRat (-3) 2)), pfZ A5 c6 (-4), pfZ A1 c2 6]) ?_ ?_
  · refine region_any (n := 10) (Sk [bk g16 #[.bool (neg (qn (mkRat (-3) 2))), .slice A9 (zl (qn (mkRat (-3) 2))) c10, .bool (neg (ql (mkRat (-3) 2))), .slice B11 (zl (ql (mkRat (-3) 2))) d12] 91] [pfZ B11 d12 (ql (mkRat (-3) 2)), pfZ A9 c10 (qn (mkRat (-3) 2)), pfZ A5 c6 (-4), pfZ A1 c2 6] [8] []) mixed rfl henv hst ?_
    clear henv hst; intro w19 henv hst
    refine tL (i := 0) 0 0 [3, 4, 5, 6, 8, 9] rfl (by kernel_rfl) (fun _ _ _ h => h) henv rfl ty_anvil_ratio_Rat rfl hst rfl rfl rfl ?_
    clear henv a; intro a henv
    refine sAny_all (rs := [1, 7]) (by kernel_rfl) (by simp) ?_
    simp only [List.forall_mem_cons, List.not_mem_nil, false_implies, implies_true, and_true]
    refine ⟨?_, ?_⟩
    · refine ⟨_, rfl, rfl, op_call henv rfl Tryd.call43 rfl (of_z (n := (3 : Int)) (by decide) (by decide)) ?_⟩
      rintro e w23 ⟨_, rfl, ⟨A20, c21, rfl, hz22⟩, hb⟩
      refine ⟨_, rfl, ?_⟩
      clear henv a; intro a henv
      replace hst := (hst.call hb).addZ hz22 ⟨nou_bk rfl, trivial⟩
      clear hz22
      clear hb
      refine ⟨.inr ⟨hst.kn.pick [0] (rg 1 4), .inr (hst.kn.pick [] [])⟩, ?_⟩
      refine sAny_all (rs := [2, 7]) (by kernel_rfl) (by simp) ?_
      simp only [List.forall_mem_cons, List.not_mem_nil, false_implies, implies_true, and_true]
      refine ⟨?_, ?_⟩
      · refine ⟨_, rfl, rfl, op_call henv rfl Tryd.call65 rfl (of_int_q (z := 3) (show ZIn _ A20 c21 3 from hst.pat (k := 0) rfl)) ?_⟩
        rintro e w30 ⟨_, rfl, ⟨A24, c25, B26, d27, rfl, hz28, hz29⟩, hb⟩
        refine ⟨_, rfl, ?_⟩
        clear henv a; intro a henv
        replace hst := ((hst.call hb).addZ hz28 ⟨nou_bk rfl, trivial⟩).addZ hz29 ⟨nou_bk rfl, trivial⟩
        clear hz28 hz29
        clear hb
        refine ⟨.inr ⟨hst.kn.pick [0] (rg 3 4), .inr (hst.kn.pick [] [])⟩, ?_⟩
        refine sAny_all (rs := [3, 7]) (by kernel_rfl) (by simp) ?_
        simp only [List.forall_mem_cons, List.not_mem_nil, false_implies, implies_true, and_true]
        refine ⟨?_, ?_⟩
        · refine ⟨_, rfl, rfl, op_call henv rfl Tryd.call62 rfl (over_q (x := mkRat (-3) 2) (y := ((3 : Int) : Rat)) (show ZIn _ A9 c10 (qn (mkRat (-3) 2)) from hst.pat (k := 4) rfl) (show ZIn _ B11 d12 (ql (mkRat (-3) 2)) from hst.pat (k := 3) rfl) (show ZIn _ A24 c25 (qn ((3 : Int) : Rat)) from hst.pat (k := 1) rfl) (show ZIn _ B26 d27 (ql ((3 : Int) : Rat)) from hst.pat (k := 0) rfl) qs_w qs_3 (by omega) (by decide)) ?_⟩
          rintro e w37 ⟨_, rfl, ⟨A31, c32, B33, d34, rfl, hz35, hz36⟩, hb⟩
          refine ⟨_, rfl, ?_⟩
          clear henv a; intro a henv
          replace hst := ((hst.call hb).addZ hz35 ⟨nou_bk rfl, trivial⟩).addZ hz36 ⟨nou_bk rfl, trivial⟩
          clear hz35 hz36
          clear hb
          refine ⟨.inr ⟨hst.kn.pick [0] (rg 5 4), .inr (hst.kn.pick [] [])⟩, ?_⟩
          refine tM (i := 4) [5, 6, 8, 9] rfl (by kernel_rfl) (fun _ _ _ h => h) henv rfl rfl ?_
          clear henv a; intro a henv
          refine tA (i := 5) [8, 9] (v := .agg #[.bool (neg (qn ((mkRat (-3) 2) / ((3 : Int) : Rat)))), .slice A31 (zl (qn ((mkRat (-3) 2) / ((3 : Int) : Rat)))) c32, .bool (neg (ql ((mkRat (-3) 2) / ((3 : Int) : Rat)))), .slice B33 (zl (ql ((mkRat (-3) 2) / ((3 : Int) : Rat)))) d34]) rfl (by kernel_rfl) (fun _ _ _ h => h) henv rfl (fun _ => rn_extract henv rfl rfl) ?_
          clear henv a; intro a henv
          refine tA (i := 6) [9] (v := .int .i64 0) rfl (by kernel_rfl) (fun _ _ _ h => h) henv rfl (fun _ => rn_extract henv rfl rfl) ?_
          clear henv a; intro a henv
          refine sAny_one (i := 7) (by kernel_rfl) rfl rfl (op_alloc (c := #[.bool (neg (qn 0)), .slice none (zl (qn 0)) 0, .bool (neg (ql 0)), .slice none (zl (ql 0)) 0]) henv hst rfl zero_anvil_ratio_Rat qcells ?_)
          clear henv hst a; intro a w39 g38 henv hst
          refine ⟨.inr ⟨hst.kn.pick [1] (rg 5 4), .inr (hst.kn.pick [] [])⟩, ?_⟩
          refine sAny_one (i := 8) (by kernel_rfl) rfl rfl (op_store (k := 0) (c' := #[.bool (neg (qn ((mkRat (-3) 2) / ((3 : Int) : Rat)))), .slice A31 (zl (qn ((mkRat (-3) 2) / ((3 : Int) : Rat)))) c32, .bool (neg (ql ((mkRat (-3) 2) / ((3 : Int) : Rat)))), .slice B33 (zl (ql ((mkRat (-3) 2) / ((3 : Int) : Rat)))) d34]) henv hst (ty_anvil_ratio_Rat.size) rfl rfl rfl rfl (by simp) rfl rfl ?_)
          clear henv hst a; intro a w40 henv hst
          refine ⟨.inr ⟨hst.kn.pick [1] (rg 5 4), .inl rfl⟩, ?_⟩
          refine tA (i := 9) [] (v := .int .i64 0) rfl (by kernel_rfl) (fun _ _ _ h => h) henv rfl (fun _ => rn_assign henv rfl) ?_
          clear henv a; intro a henv
          refine sAny_done (by kernel_rfl) ?_ _
          exact th_n ⟨A20, c21, A24, c25, B26, d27, A31, c32, B33, d34, g38, henv.sub ⟨rfl, rfl, rfl, rfl, rfl, rfl, rfl, rfl, rfl, rfl, rfl, trivial⟩, hst.pick [0, 1] [0, 1, 2, 3, 4, 5, 6, 7, 8] (by decide)⟩
        · refine ⟨_, rfl, rfl, op_alloc (c := #[.bool (neg (qn 0)), .slice none (zl (qn 0)) 0, .bool (neg (ql 0)), .slice none (zl (ql 0)) 0]) henv hst rfl zero_anvil_ratio_Rat qcells ?_⟩
          clear henv hst a; intro a w42 g41 henv hst
          refine ⟨.inr ⟨hst.kn.pick [1] (rg 3 4), .inr (hst.kn.pick [] [])⟩, ?_⟩
          refine sAny_one (i := 3) (by kernel_rfl) rfl rfl (op_call henv rfl Tryd.call62 rfl (over_q (x := mkRat (-3) 2) (y := ((3 : Int) : Rat)) (show ZIn _ A9 c10 (qn (mkRat (-3) 2)) from hst.pat (k := 4) rfl) (show ZIn _ B11 d12 (ql (mkRat (-3) 2)) from hst.pat (k := 3) rfl) (show ZIn _ A24 c25 (qn ((3 : Int) : Rat)) from hst.pat (k := 1) rfl) (show ZIn _ B26 d27 (ql ((3 : Int) : Rat)) from hst.pat (k := 0) rfl) qs_w qs_3 (by omega) (by decide)) ?_)
          rintro e w49 ⟨_, rfl, ⟨A43, c44, B45, d46, rfl, hz47, hz48⟩, hb⟩
          refine ⟨_, rfl, ?_⟩
          clear henv a; intro a henv
          replace hst := ((hst.call hb).addZ hz47 ⟨nou_bk rfl, nou_bk rfl, trivial⟩).addZ hz48 ⟨nou_bk rfl, nou_bk rfl, trivial⟩
          clear hz47 hz48
          clear hb
          refine ⟨.inr ⟨hst.kn.pick [1] (rg 5 4), .inr (hst.kn.pick [] [])⟩, ?_⟩
          refine tM (i := 4) [5, 6, 8, 9] rfl (by kernel_rfl) (fun _ _ _ h => h) henv rfl rfl ?_
          clear henv a; intro a henv
          refine tA (i := 5) [8, 9] (v := .agg #[.bool (neg (qn ((mkRat (-3) 2) / ((3 : Int) : Rat)))), .slice A43 (zl (qn ((mkRat (-3) 2) / ((3 : Int) : Rat)))) c44, .bool (neg (ql ((mkRat (-3) 2) / ((3 : Int) : Rat)))), .slice B45 (zl (ql ((mkRat (-3) 2) / ((3 : Int) : Rat)))) d46]) rfl (by kernel_rfl) (fun _ _ _ h => h) henv rfl (fun _ => rn_extract henv rfl rfl) ?_
          clear henv a; intro a henv
          refine tA (i := 6) [9] (v := .int .i64 0) rfl (by kernel_rfl) (fun _ _ _ h => h) henv rfl (fun _ => rn_extract henv rfl rfl) ?_
          clear henv a; intro a henv
          refine sAny_one (i := 8) (by kernel_rfl) rfl rfl (op_store (k := 0) (c' := #[.bool (neg (qn ((mkRat (-3) 2) / ((3 : Int) : Rat)))), .slice A43 (zl (qn ((mkRat (-3) 2) / ((3 : Int) : Rat)))) c44, .bool (neg (ql ((mkRat (-3) 2) / ((3 : Int) : Rat)))), .slice B45 (zl (ql ((mkRat (-3) 2) / ((3 : Int) : Rat)))) d46]) henv hst (ty_anvil_ratio_Rat.size) rfl rfl rfl rfl (by simp) rfl rfl ?_)
          clear henv hst a; intro a w50 henv hst
          refine ⟨.inr ⟨hst.kn.pick [1] (rg 5 4), .inl rfl⟩, ?_⟩
          refine tA (i := 9) [] (v := .int .i64 0) rfl (by kernel_rfl) (fun _ _ _ h => h) henv rfl (fun _ => rn_assign henv rfl) ?_
          clear henv a; intro a henv
          refine sAny_done (by kernel_rfl) ?_ _
          exact th_n ⟨A20, c21, A24, c25, B26, d27, A43, c44, B45, d46, g41, henv.sub ⟨rfl, rfl, rfl, rfl, rfl, rfl, rfl, rfl, rfl, rfl, rfl, trivial⟩, hst.pick [0, 1] [0, 1, 2, 3, 4, 5, 6, 7, 8] (by decide)⟩
      · refine ⟨_, rfl, rfl, op_alloc (c := #[.bool (neg (qn 0)), .slice none (zl (qn 0)) 0, .bool (neg (ql 0)), .slice none (zl (ql 0)) 0]) henv hst rfl zero_anvil_ratio_Rat qcells ?_⟩
        clear henv hst a; intro a w52 g51 henv hst
        refine ⟨.inr ⟨hst.kn.pick [1] (rg 1 4), .inr (hst.kn.pick [] [])⟩, ?_⟩
        refine sAny_one (i := 2) (by kernel_rfl) rfl rfl (op_call henv rfl Tryd.call65 rfl (of_int_q (z := 3) (show ZIn _ A20 c21 3 from hst.pat (k := 0) rfl)) ?_)
        rintro e w59 ⟨_, rfl, ⟨A53, c54, B55, d56, rfl, hz57, hz58⟩, hb⟩
        refine ⟨_, rfl, ?_⟩
        clear henv a; intro a henv
        replace hst := ((hst.call hb).addZ hz57 ⟨nou_bk rfl, nou_bk rfl, trivial⟩).addZ hz58 ⟨nou_bk rfl, nou_bk rfl, trivial⟩
        clear hz57 hz58
        clear hb
        refine ⟨.inr ⟨hst.kn.pick [1] (rg 3 4), .inr (hst.kn.pick [] [])⟩, ?_⟩
        refine sAny_one (i := 3) (by kernel_rfl) rfl rfl (op_call henv rfl Tryd.call62 rfl (over_q (x := mkRat (-3) 2) (y := ((3 : Int) : Rat)) (show ZIn _ A9 c10 (qn (mkRat (-3) 2)) from hst.pat (k := 4) rfl) (show ZIn _ B11 d12 (ql (mkRat (-3) 2)) from hst.pat (k := 3) rfl) (show ZIn _ A53 c54 (qn ((3 : Int) : Rat)) from hst.pat (k := 1) rfl) (show ZIn _ B55 d56 (ql ((3 : Int) : Rat)) from hst.pat (k := 0) rfl) qs_w qs_3 (by omega) (by decide)) ?_)
        rintro e w66 ⟨_, rfl, ⟨A60, c61, B62, d63, rfl, hz64, hz65⟩, hb⟩
        refine ⟨_, rfl, ?_⟩
        clear henv a; intro a henv
        replace hst := ((hst.call hb).addZ hz64 ⟨nou_bk rfl, nou_bk rfl, trivial⟩).addZ hz65 ⟨nou_bk rfl, nou_bk rfl, trivial⟩
        clear hz64 hz65
        clear hb
        refine ⟨.inr ⟨hst.kn.pick [1] (rg 5 4), .inr (hst.kn.pick [] [])⟩, ?_⟩
        refine tM (i := 4) [5, 6, 8, 9] rfl (by kernel_rfl) (fun _ _ _ h => h) henv rfl rfl ?_
        clear henv a; intro a henv
        refine tA (i := 5) [8, 9] (v := .agg #[.bool (neg (qn ((mkRat (-3) 2) / ((3 : Int) : Rat)))), .slice A60 (zl (qn ((mkRat (-3) 2) / ((3 : Int) : Rat)))) c61, .bool (neg (ql ((mkRat (-3) 2) / ((3 : Int) : Rat)))), .slice B62 (zl (ql ((mkRat (-3) 2) / ((3 : Int) : Rat)))) d63]) rfl (by kernel_rfl) (fun _ _ _ h => h) henv rfl (fun _ => rn_extract henv rfl rfl) ?_
        clear henv a; intro a henv
        refine tA (i := 6) [9] (v := .int .i64 0) rfl (by kernel_rfl) (fun _ _ _ h => h) henv rfl (fun _ => rn_extract henv rfl rfl) ?_
        clear henv a; intro a henv
        refine sAny_one (i := 8) (by kernel_rfl) rfl rfl (op_store (k := 0) (c' := #[.bool (neg (qn ((mkRat (-3) 2) / ((3 : Int) : Rat)))), .slice A60 (zl (qn ((mkRat (-3) 2) / ((3 : Int) : Rat)))) c61, .bool (neg (ql ((mkRat (-3) 2) / ((3 : Int) : Rat)))), .slice B62 (zl (ql ((mkRat (-3) 2) / ((3 : Int) : Rat)))) d63]) henv hst (ty_anvil_ratio_Rat.size) rfl rfl rfl rfl (by simp) rfl rfl ?_)
        clear henv hst a; intro a w67 henv hst
        refine ⟨.inr ⟨hst.kn.pick [1] (rg 5 4), .inl rfl⟩, ?_⟩
        refine tA (i := 9) [] (v := .int .i64 0) rfl (by kernel_rfl) (fun _ _ _ h => h) henv rfl (fun _ => rn_assign henv rfl) ?_
        clear henv a; intro a henv
        refine sAny_done (by kernel_rfl) ?_ _
        exact th_n ⟨A20, c21, A53, c54, B55, d56, A60, c61, B62, d63, g51, henv.sub ⟨rfl, rfl, rfl, rfl, rfl, rfl, rfl, rfl, rfl, rfl, rfl, trivial⟩, hst.pick [0, 1] [0, 1, 2, 3, 4, 5, 6, 7, 8] (by decide)⟩
    · refine ⟨_, rfl, rfl, op_alloc (c := #[.bool (neg (qn 0)), .slice none (zl (qn 0)) 0, .bool (neg (ql 0)), .slice none (zl (ql 0)) 0]) henv hst rfl zero_anvil_ratio_Rat qcells ?_⟩
      clear henv hst a; intro a w69 g68 henv hst
      refine ⟨.inr ⟨hst.kn.pick [1] (rg 0 4), .inr (hst.kn.pick [] [])⟩, ?_⟩
      refine sAny_one (i := 1) (by kernel_rfl) rfl rfl (op_call henv rfl Tryd.call43 rfl (of_z (n := (3 : Int)) (by decide) (by decide)) ?_)
      rintro e w73 ⟨_, rfl, ⟨A70, c71, rfl, hz72⟩, hb⟩
      refine ⟨_, rfl, ?_⟩
      clear henv a; intro a henv
      replace hst := (hst.call hb).addZ hz72 ⟨nou_bk rfl, nou_bk rfl, trivial⟩
      clear hz72
      clear hb
      refine ⟨.inr ⟨hst.kn.pick [1] (rg 1 4), .inr (hst.kn.pick [] [])⟩, ?_⟩
      refine sAny_one (i := 2) (by kernel_rfl) rfl rfl (op_call henv rfl Tryd.call65 rfl (of_int_q (z := 3) (show ZIn _ A70 c71 3 from hst.pat (k := 0) rfl)) ?_)
      rintro e w80 ⟨_, rfl, ⟨A74, c75, B76, d77, rfl, hz78, hz79⟩, hb⟩
      refine ⟨_, rfl, ?_⟩
      clear henv a; intro a henv
      replace hst := ((hst.call hb).addZ hz78 ⟨nou_bk rfl, nou_bk rfl, trivial⟩).addZ hz79 ⟨nou_bk rfl, nou_bk rfl, trivial⟩
      clear hz78 hz79
      clear hb
      refine ⟨.inr ⟨hst.kn.pick [1] (rg 3 4), .inr (hst.kn.pick [] [])⟩, ?_⟩
      refine sAny_one (i := 3) (by kernel_rfl) rfl rfl (op_call henv rfl Tryd.call62 rfl (over_q (x := mkRat (-3) 2) (y := ((3 : Int) : Rat)) (show ZIn _ A9 c10 (qn (mkRat (-3) 2)) from hst.pat (k := 4) rfl) (show ZIn _ B11 d12 (ql (mkRat (-3) 2)) from hst.pat (k := 3) rfl) (show ZIn _ A74 c75 (qn ((3 : Int) : Rat)) from hst.pat (k := 1) rfl) (show ZIn _ B76 d77 (ql ((3 : Int) : Rat)) from hst.pat (k := 0) rfl) qs_w qs_3 (by omega) (by decide)) ?_)
      rintro e w87 ⟨_, rfl, ⟨A81, c82, B83, d84, rfl, hz85, hz86⟩, hb⟩
      refine ⟨_, rfl, ?_⟩
      clear henv a; intro a henv
      replace hst := ((hst.call hb).addZ hz85 ⟨nou_bk rfl, nou_bk rfl, trivial⟩).addZ hz86 ⟨nou_bk rfl, nou_bk rfl, trivial⟩
      clear hz85 hz86
      clear hb
      refine ⟨.inr ⟨hst.kn.pick [1] (rg 5 4), .inr (hst.kn.pick [] [])⟩, ?_⟩
      refine tM (i := 4) [5, 6, 8, 9] rfl (by kernel_rfl) (fun _ _ _ h => h) henv rfl rfl ?_
      clear henv a; intro a henv
      refine tA (i := 5) [8, 9] (v := .agg #[.bool (neg (qn ((mkRat (-3) 2) / ((3 : Int) : Rat)))), .slice A81 (zl (qn ((mkRat (-3) 2) / ((3 : Int) : Rat)))) c82, .bool (neg (ql ((mkRat (-3) 2) / ((3 : Int) : Rat)))), .slice B83 (zl (ql ((mkRat (-3) 2) / ((3 : Int) : Rat)))) d84]) rfl (by kernel_rfl) (fun _ _ _ h => h) henv rfl (fun _ => rn_extract henv rfl rfl) ?_
      clear henv a; intro a henv
      refine tA (i := 6) [9] (v := .int .i64 0) rfl (by kernel_rfl) (fun _ _ _ h => h) henv rfl (fun _ => rn_extract henv rfl rfl) ?_
      clear henv a; intro a henv
      refine sAny_one (i := 8) (by kernel_rfl) rfl rfl (op_store (k := 0) (c' := #[.bool (neg (qn ((mkRat (-3) 2) / ((3 : Int) : Rat)))), .slice A81 (zl (qn ((mkRat (-3) 2) / ((3 : Int) : Rat)))) c82, .bool (neg (ql ((mkRat (-3) 2) / ((3 : Int) : Rat)))), .slice B83 (zl (ql ((mkRat (-3) 2) / ((3 : Int) : Rat)))) d84]) henv hst (ty_anvil_ratio_Rat.size) rfl rfl rfl rfl (by simp) rfl rfl ?_)
      clear henv hst a; intro a w88 henv hst
      refine ⟨.inr ⟨hst.kn.pick [1] (rg 5 4), .inl rfl⟩, ?_⟩
      refine tA (i := 9) [] (v := .int .i64 0) rfl (by kernel_rfl) (fun _ _ _ h => h) henv rfl (fun _ => rn_assign henv rfl) ?_
      clear henv a; intro a henv
      refine sAny_done (by kernel_rfl) ?_ _
      exact th_n ⟨A70, c71, A74, c75, B76, d77, A81, c82, B83, d84, g68, henv.sub ⟨rfl, rfl, rfl, rfl, rfl, rfl, rfl, rfl, rfl, rfl, rfl, trivial⟩, hst.pick [0, 1] [0, 1, 2, 3, 4, 5, 6, 7, 8] (by decide)⟩
  clear henv hst a
  rintro a w89 ⟨A20, c21, A24, c25, B26, d27, A31, c32, B33, d34, g38, henv, hst⟩
  refine wp_seq ?_
  refine region_seq ?_
  revert a
  refine sA (v := .agg #[.bool (neg (qn ((mkRat (-3) 2) / ((3 : Int) : Rat)))), .slice A31 (zl (qn ((mkRat (-3) 2) / ((3 : Int) : Rat)))) c32, .bool (neg (ql ((mkRat (-3) 2) / ((3 : Int) : Rat)))), .slice B33 (zl (ql ((mkRat (-3) 2) / ((3 : Int) : Rat)))) d34]) rfl (fun _ henv => rn_load0 henv ty_anvil_ratio_Rat rfl (hst.oat (k := 0) rfl) rfl) ?_
  refine sA (v := .agg #[.bool (neg (qn (mkRat (-3) 2))), .slice A9 (zl (qn (mkRat (-3) 2))) c10, .bool (neg (ql (mkRat (-3) 2))), .slice B11 (zl (ql (mkRat (-3) 2))) d12]) rfl (fun _ henv => rn_load0 henv ty_anvil_ratio_Rat rfl (hst.oat (k := 1) rfl) rfl) ?_
  intro a henv
  have hq96 : Qs 4 (((mkRat (-3) 2) / ((3 : Int) : Rat)) + (mkRat (-3) 2)) := by have h := (Qs.over qs_w qs_3 (by decide)).add qs_w; exact h
  refine seq_step rfl (op_call henv rfl Tryd.call58 rfl (add_q (x := (mkRat (-3) 2) / ((3 : Int) : Rat)) (y := mkRat (-3) 2) (show ZIn _ A31 c32 (qn ((mkRat (-3) 2) / ((3 : Int) : Rat))) from hst.pat (k := 1) rfl) (show ZIn _ B33 d34 (ql ((mkRat (-3) 2) / ((3 : Int) : Rat))) from hst.pat (k := 0) rfl) (show ZIn _ A9 c10 (qn (mkRat (-3) 2)) from hst.pat (k := 6) rfl) (show ZIn _ B11 d12 (ql (mkRat (-3) 2)) from hst.pat (k := 5) rfl) (Qs.over qs_w qs_3 (by decide)) qs_w (by omega)) ?_)
  rintro e w97 ⟨_, rfl, ⟨A90, c91, B92, d93, rfl, hz94, hz95⟩, hb⟩
  refine ⟨_, rfl, ?_⟩
  clear henv a; intro a henv
  replace hst := ((hst.call hb).addZ hz94 ⟨nou_bk rfl, nou_bk rfl, trivial⟩).addZ hz95 ⟨nou_bk rfl, nou_bk rfl, trivial⟩
  clear hz94 hz95
  clear hb
  refine seq_step rfl (op_alloc (c := #[.bool (neg (qn 0)), .slice none (zl (qn 0)) 0, .bool (neg (ql 0)), .slice none (zl (ql 0)) 0]) henv hst rfl zero_anvil_ratio_Rat qcells ?_)
  clear henv hst a; intro a w99 g98 henv hst
  refine seq_step rfl (op_store (k := 0) (c' := #[.bool (neg (qn (((mkRat (-3) 2) / ((3 : Int) : Rat)) + (mkRat (-3) 2)))), .slice A90 (zl (qn (((mkRat (-3) 2) / ((3 : Int) : Rat)) + (mkRat (-3) 2)))) c91, .bool (neg (ql (((mkRat (-3) 2) / ((3 : Int) : Rat)) + (mkRat (-3) 2)))), .slice B92 (zl (ql (((mkRat (-3) 2) / ((3 : Int) : Rat)) + (mkRat (-3) 2)))) d93]) henv hst (ty_anvil_ratio_Rat.size) rfl rfl rfl rfl (by simp) rfl rfl ?_)
  clear henv hst a; intro a w100 henv hst
  refine wpList_nil ?_
  refine th_n ?_
  refine wp_seq ?_
  refine region_seq ?_
  revert a
  refine mA rfl rfl ?_
  refine sA (v := .bool true) rfl (fun _ henv => rn_bin henv rfl rfl rfl) ?_
  refine mA rfl rfl ?_
  refine gA (v := .int .i64 0) rfl rfl rfl rfl (fun _ henv => rn_move henv rfl) ?_
  refine gA (v := .bool true) rfl rfl rfl rfl (fun _ henv => rn_bin henv rfl rfl rfl) ?_
  refine sA (v := .bool true) rfl (fun _ henv => rn_pick henv rfl rfl) ?_
  refine mA rfl rfl ?_
  refine gA (v := .agg #[.bool (neg (qn (mkRat (-3) 2))), .slice A9 (zl (qn (mkRat (-3) 2))) c10, .bool (neg (ql (mkRat (-3) 2))), .slice B11 (zl (ql (mkRat (-3) 2))) d12]) rfl rfl rfl rfl (fun _ henv => rn_load0 henv ty_anvil_ratio_Rat rfl (hst.oat (k := 2) rfl) rfl) ?_
  intro a henv
  refine seq_g rfl henv rfl rfl (op_call henv rfl Tryd.call92 rfl (text_q (x := mkRat (-3) 2) (show ZIn _ A9 c10 (qn (mkRat (-3) 2)) from hst.pat (k := 8) rfl) (show ZIn _ B11 d12 (ql (mkRat (-3) 2)) from hst.pat (k := 7) rfl) qs_w (by omega)) ?_)
  rintro e w101 ⟨rfl, hb⟩
  refine ⟨_, rfl, ?_⟩
  clear henv a; intro a henv
  replace hst := hst.call hb
  clear hb
  refine seq_g rfl henv rfl rfl (op_val (v := .bool (decide ((textQ (mkRat (-3) 2)) = [45, 51, 47, 50]))) henv rfl (rn_eqls (s := (textQ (mkRat (-3) 2))) (t := [45, 51, 47, 50]) henv rfl rfl) ?_)
  clear henv a; intro a henv
  rw [show (decide ((textQ (mkRat (-3) 2)) = [45, 51, 47, 50])) = true from decide_eq_true (by decide +kernel)] at henv
  revert a
  refine sA (v := .bool true) rfl (fun _ henv => rn_pick henv rfl rfl) ?_
  refine mA rfl rfl ?_
  refine gA (v := .agg #[.bool (neg (qn ((mkRat (-3) 2) / ((3 : Int) : Rat)))), .slice A31 (zl (qn ((mkRat (-3) 2) / ((3 : Int) : Rat)))) c32, .bool (neg (ql ((mkRat (-3) 2) / ((3 : Int) : Rat)))), .slice B33 (zl (ql ((mkRat (-3) 2) / ((3 : Int) : Rat)))) d34]) rfl rfl rfl rfl (fun _ henv => rn_load0 henv ty_anvil_ratio_Rat rfl (hst.oat (k := 1) rfl) rfl) ?_
  intro a henv
  refine seq_g rfl henv rfl rfl (op_call henv rfl Tryd.call92 rfl (text_q (x := (mkRat (-3) 2) / ((3 : Int) : Rat)) (show ZIn _ A31 c32 (qn ((mkRat (-3) 2) / ((3 : Int) : Rat))) from hst.pat (k := 3) rfl) (show ZIn _ B33 d34 (ql ((mkRat (-3) 2) / ((3 : Int) : Rat))) from hst.pat (k := 2) rfl) (Qs.over qs_w qs_3 (by decide)) (by omega)) ?_)
  rintro e w102 ⟨rfl, hb⟩
  refine ⟨_, rfl, ?_⟩
  clear henv a; intro a henv
  replace hst := hst.call hb
  clear hb
  refine seq_g rfl henv rfl rfl (op_val (v := .bool (decide ((textQ ((mkRat (-3) 2) / ((3 : Int) : Rat))) = [45, 49, 47, 50]))) henv rfl (rn_eqls (s := (textQ ((mkRat (-3) 2) / ((3 : Int) : Rat)))) (t := [45, 49, 47, 50]) henv rfl rfl) ?_)
  clear henv a; intro a henv
  rw [show (decide ((textQ ((mkRat (-3) 2) / ((3 : Int) : Rat))) = [45, 49, 47, 50])) = true from decide_eq_true (by decide +kernel)] at henv
  revert a
  refine sA (v := .bool true) rfl (fun _ henv => rn_pick henv rfl rfl) ?_
  refine mA rfl rfl ?_
  refine gA (v := .agg #[.bool (neg (qn (((mkRat (-3) 2) / ((3 : Int) : Rat)) + (mkRat (-3) 2)))), .slice A90 (zl (qn (((mkRat (-3) 2) / ((3 : Int) : Rat)) + (mkRat (-3) 2)))) c91, .bool (neg (ql (((mkRat (-3) 2) / ((3 : Int) : Rat)) + (mkRat (-3) 2)))), .slice B92 (zl (ql (((mkRat (-3) 2) / ((3 : Int) : Rat)) + (mkRat (-3) 2)))) d93]) rfl rfl rfl rfl (fun _ henv => rn_load0 henv ty_anvil_ratio_Rat rfl (hst.oat (k := 0) rfl) rfl) ?_
  intro a henv
  refine seq_g rfl henv rfl rfl (op_call henv rfl Tryd.call92 rfl (text_q (x := ((mkRat (-3) 2) / ((3 : Int) : Rat)) + (mkRat (-3) 2)) (show ZIn _ A90 c91 (qn (((mkRat (-3) 2) / ((3 : Int) : Rat)) + (mkRat (-3) 2))) from hst.pat (k := 1) rfl) (show ZIn _ B92 d93 (ql (((mkRat (-3) 2) / ((3 : Int) : Rat)) + (mkRat (-3) 2))) from hst.pat (k := 0) rfl) hq96 (by omega)) ?_)
  rintro e w103 ⟨rfl, hb⟩
  refine ⟨_, rfl, ?_⟩
  clear henv a; intro a henv
  replace hst := hst.call hb
  clear hb
  refine seq_g rfl henv rfl rfl (op_val (v := .bool (decide ((textQ (((mkRat (-3) 2) / ((3 : Int) : Rat)) + (mkRat (-3) 2))) = [45, 50]))) henv rfl (rn_eqls (s := (textQ (((mkRat (-3) 2) / ((3 : Int) : Rat)) + (mkRat (-3) 2)))) (t := [45, 50]) henv rfl rfl) ?_)
  clear henv a; intro a henv
  rw [show (decide ((textQ (((mkRat (-3) 2) / ((3 : Int) : Rat)) + (mkRat (-3) 2))) = [45, 50])) = true from decide_eq_true (by decide +kernel)] at henv
  revert a
  refine sA (v := .bool true) rfl (fun _ henv => rn_pick henv rfl rfl) ?_
  refine mA rfl rfl ?_
  refine gA (v := .agg #[.bool (neg (qn (((mkRat (-3) 2) / ((3 : Int) : Rat)) + (mkRat (-3) 2)))), .slice A90 (zl (qn (((mkRat (-3) 2) / ((3 : Int) : Rat)) + (mkRat (-3) 2)))) c91, .bool (neg (ql (((mkRat (-3) 2) / ((3 : Int) : Rat)) + (mkRat (-3) 2)))), .slice B92 (zl (ql (((mkRat (-3) 2) / ((3 : Int) : Rat)) + (mkRat (-3) 2)))) d93]) rfl rfl rfl rfl (fun _ henv => rn_load0 henv ty_anvil_ratio_Rat rfl (hst.oat (k := 0) rfl) rfl) ?_
  intro a henv
  refine seq_g rfl henv rfl rfl (op_call henv rfl Tryd.call67 rfl (whole_q (x := ((mkRat (-3) 2) / ((3 : Int) : Rat)) + (mkRat (-3) 2)) (show ZIn _ A90 c91 (qn (((mkRat (-3) 2) / ((3 : Int) : Rat)) + (mkRat (-3) 2))) from hst.pat (k := 1) rfl) (show ZIn _ B92 d93 (ql (((mkRat (-3) 2) / ((3 : Int) : Rat)) + (mkRat (-3) 2))) from hst.pat (k := 0) rfl)) ?_)
  rintro e w104 ⟨rfl, hb⟩
  refine ⟨_, rfl, ?_⟩
  clear henv a; intro a henv
  replace hst := hst.call hb
  clear hb
  rw [show (decide (ql (((mkRat (-3) 2) / ((3 : Int) : Rat)) + (mkRat (-3) 2)) = 0)) = true from decide_eq_true (by decide +kernel)] at henv
  revert a
  refine sA (v := .bool true) rfl (fun _ henv => rn_pick henv rfl rfl) ?_
  refine mA rfl rfl ?_
  refine gA (v := .agg #[.bool (neg (qn (((mkRat (-3) 2) / ((3 : Int) : Rat)) + (mkRat (-3) 2)))), .slice A90 (zl (qn (((mkRat (-3) 2) / ((3 : Int) : Rat)) + (mkRat (-3) 2)))) c91, .bool (neg (ql (((mkRat (-3) 2) / ((3 : Int) : Rat)) + (mkRat (-3) 2)))), .slice B92 (zl (ql (((mkRat (-3) 2) / ((3 : Int) : Rat)) + (mkRat (-3) 2)))) d93]) rfl rfl rfl rfl (fun _ henv => rn_load0 henv ty_anvil_ratio_Rat rfl (hst.oat (k := 0) rfl) rfl) ?_
  intro a henv
  have hs108 := hq96.d
  refine seq_g rfl henv rfl rfl (op_call henv rfl Tryd.call89 rfl (den_q (x := ((mkRat (-3) 2) / ((3 : Int) : Rat)) + (mkRat (-3) 2)) (show ZIn _ A90 c91 (qn (((mkRat (-3) 2) / ((3 : Int) : Rat)) + (mkRat (-3) 2))) from hst.pat (k := 1) rfl) (show ZIn _ B92 d93 (ql (((mkRat (-3) 2) / ((3 : Int) : Rat)) + (mkRat (-3) 2))) from hst.pat (k := 0) rfl) hq96 (by omega)) ?_)
  rintro e w109 ⟨_, rfl, ⟨A105, c106, rfl, hz107⟩, hb⟩
  refine ⟨_, rfl, ?_⟩
  clear henv a; intro a henv
  replace hst := (hst.call hb).addZ hz107 ⟨nou_bk rfl, nou_bk rfl, nou_bk rfl, trivial⟩
  clear hz107
  clear hb
  refine seq_g rfl henv rfl rfl (op_call henv rfl Tryd.call72 rfl (text_z (z := (qd (((mkRat (-3) 2) / ((3 : Int) : Rat)) + (mkRat (-3) 2)))) (show ZIn _ A105 c106 (qd (((mkRat (-3) 2) / ((3 : Int) : Rat)) + (mkRat (-3) 2))) from hst.pat (k := 0) rfl) (by omega)) ?_)
  rintro e w110 ⟨rfl, hb⟩
  refine ⟨_, rfl, ?_⟩
  clear henv a; intro a henv
  replace hst := hst.call hb
  clear hb
  refine seq_g rfl henv rfl rfl (op_val (v := .bool (decide ((textZ (qd (((mkRat (-3) 2) / ((3 : Int) : Rat)) + (mkRat (-3) 2)))) = [49]))) henv rfl (rn_eqls (s := (textZ (qd (((mkRat (-3) 2) / ((3 : Int) : Rat)) + (mkRat (-3) 2))))) (t := [49]) henv rfl rfl) ?_)
  clear henv a; intro a henv
  rw [show (decide ((textZ (qd (((mkRat (-3) 2) / ((3 : Int) : Rat)) + (mkRat (-3) 2)))) = [49])) = true from decide_eq_true (by decide +kernel)] at henv
  revert a
  refine sA (v := .bool true) rfl (fun _ henv => rn_pick henv rfl rfl) ?_
  refine mA rfl rfl ?_
  refine gA (v := .agg #[.bool (neg (qn (mkRat (-3) 2))), .slice A9 (zl (qn (mkRat (-3) 2))) c10, .bool (neg (ql (mkRat (-3) 2))), .slice B11 (zl (ql (mkRat (-3) 2))) d12]) rfl rfl rfl rfl (fun _ henv => rn_load0 henv ty_anvil_ratio_Rat rfl (hst.oat (k := 2) rfl) rfl) ?_
  intro a henv
  have hs114 : zl (mkRat (-3) 2).floor ≤ 1 := floor_sz qs_w
  refine seq_g rfl henv rfl rfl (op_call henv rfl Tryd.call66 rfl (floor_q (x := mkRat (-3) 2) (show ZIn _ A9 c10 (qn (mkRat (-3) 2)) from hst.pat (k := 9) rfl) (show ZIn _ B11 d12 (ql (mkRat (-3) 2)) from hst.pat (k := 8) rfl) qs_w (by omega)) ?_)
  rintro e w115 ⟨_, rfl, ⟨A111, c112, rfl, hz113⟩, hb⟩
  refine ⟨_, rfl, ?_⟩
  clear henv a; intro a henv
  replace hst := (hst.call hb).addZ hz113 ⟨nou_bk rfl, nou_bk rfl, nou_bk rfl, trivial⟩
  clear hz113
  clear hb
  refine seq_g rfl henv rfl rfl (op_call henv rfl Tryd.call72 rfl (text_z (z := (mkRat (-3) 2).floor) (show ZIn _ A111 c112 ((mkRat (-3) 2).floor) from hst.pat (k := 0) rfl) (by omega)) ?_)
  rintro e w116 ⟨rfl, hb⟩
  refine ⟨_, rfl, ?_⟩
  clear henv a; intro a henv
  replace hst := hst.call hb
  clear hb
  refine seq_g rfl henv rfl rfl (op_val (v := .bool (decide ((textZ ((mkRat (-3) 2).floor)) = [45, 50]))) henv rfl (rn_eqls (s := (textZ ((mkRat (-3) 2).floor))) (t := [45, 50]) henv rfl rfl) ?_)
  clear henv a; intro a henv
  rw [show (decide ((textZ ((mkRat (-3) 2).floor)) = [45, 50])) = true from decide_eq_true (by decide +kernel)] at henv
  revert a
  refine sA (v := .bool true) rfl (fun _ henv => rn_pick henv rfl rfl) ?_
  refine aA rfl rfl ?_
  intro a henv
  refine wpList_nil ?_
  refine th_n ?_
  refine wp_ret ?_
  refine leave henv (res1 Tryd.results55 (RV.tmp henv rfl)) ?_
  exact ⟨rfl, hst.below⟩
end Go.Proofs.YtegglooojlheoaaDoor.W

/- alone, three, same; RatioOrder, RatioField: the laws' walks. Printed by pv/gen_qlaw3.py. No condition. -/
namespace Go.Proofs.YtegglooojlheoaaDoor.W
open Go.RowKit Anv Go.Lib
theorem qs_1 : Qs 1 ((1 : Int) : Rat) := ⟨by decide, by decide⟩
theorem cmpQ_bd (x y : Rat) : -1 ≤ cmpQ x y ∧ cmpQ x y ≤ 1 := sign_bd _
theorem cmpQ_add (x y z : Rat) : cmpQ (x + z) (y + z) = cmpQ x y := by
  have h : x + z - (y + z) = x - y := by
    rw [Rat.sub_eq_add_neg, Rat.neg_add, Rat.add_assoc, ← Rat.add_assoc z, Rat.add_comm z, Rat.add_assoc, Rat.add_neg_cancel, Rat.add_zero, Rat.sub_eq_add_neg]
  rw [cmpQ_sub, cmpQ_sub, h]
theorem cmpQ_same (x y : Rat) : (cmpQ x y == 0) = decide (x = y) := by
  by_cases h : x = y
  · rw [decide_eq_true h]; exact beq_iff_eq.2 (cmpQ_eq0.2 h)
  · rw [decide_eq_false h]; exact beq_eq_false_iff_ne.2 fun e => h (cmpQ_eq0.1 e)
theorem cmpQ_whole (x : Rat) : (cmpQ (x.floor : Rat) x == 0) = decide (ql x = 0) := by
  rw [cmpQ_same]
  congr 1
  apply propext
  constructor
  · intro h; rw [← h]; rfl
  · intro h
    have hd : x.den = 1 := by unfold ql at h; omega
    have hf : x.floor = x.num := by rw [Rat.floor_def, hd]; simp
    rw [hf]
    exact Rat.ext rfl (by rw [hd]; rfl)
section
variable {P : Program} {N : Nat} {dq : List Deferred} {a : Act} {l : List (Nat × Value)} {w : World} {d : Nat} {ty : TypeId} {pos : String} {af : Array Edge} {gd : Option (Nat × Bool)}
theorem rn_negI {x : Operand} {T : Nat} {n : Int} (h : EnvD dq N a l) (hx : evl l x = some (.int .i64 n)) (hb : -1 ≤ n ∧ n ≤ 1) :
    (execOp a.eval ⟨some d, .unOp .neg T x, ty, pos, af, gd⟩).run P w = .ok (.value (.int .i64 (-n))) w :=
  rn_un h hx (by
    have e : IntKind.i64.wrap (0 - n) = -n := by rw [IntWalk.i64_in _ (by omega)]; omega
    simp only [Op.unary, Op.intArith]
    rw [e]
    rfl)
end
def IRd (s : List UInt8) (z p q : Int) : Prop := ∀ w0 : World,
    Calls Tryd.prog 113 #[.string ⟨s.toArray⟩] w0 fun e w' => ∃ v, e = .returned (.tuple #[v, .agg #[.int .i64 p, .int .i64 q]]) ∧ ZAt w' v z ∧ Below w0.heap.size w0 w'
theorem ird_any (t : List UInt8) (hmx : t.length ≤ maxLen) : ∃ z p q : Int, IRd t z p q ∧ zl z ≤ 65537 ∧ (t.length ≤ 300 → zl z ≤ 400) := by
  have h00 : zl 0 ≤ 400 := by rw [zl_zero]; omega
  rcases Nat.lt_or_ge 65536 t.length with hl | hl
  · exact ⟨0, 3, 65536, fun w0 => (iread_long hl hmx).mono fun _ _ ⟨he, hB⟩ => ⟨_, he, zin_at _, hB⟩, by omega, fun _ => h00⟩
  rcases sign_cases t with h45 | ⟨d, rfl⟩
  · rcases read_cases 0 t with ⟨b, hfb⟩ | hfb
    · exact ⟨0, 6, (b : Nat), fun w0 => (iread_fb0 h45 (by omega) hfb).mono fun _ _ ⟨he, hB⟩ => ⟨_, he, zin_at _, hB⟩, by omega, fun _ => h00⟩
    · have hb := zl_num0 (digits_of hfb.ok)
      exact ⟨_, 0, 0, fun w0 => iread_ok0 h45 (by omega) hfb, by omega, fun h => by omega⟩
  · rw [List.length_cons] at hl
    rcases read_cases 1 d with ⟨b, hfb⟩ | hfb
    · exact ⟨0, 6, (b + 1 : Nat), fun w0 => (iread_fb1 (by omega) hfb).mono fun _ _ ⟨he, hB⟩ => ⟨_, he, zin_at _, hB⟩, by omega, fun _ => h00⟩
    · have hb := zl_num1 (digits_of hfb.ok)
      exact ⟨_, 0, 0, fun w0 => iread_ok1 (by omega) hfb, by omega, fun h => by rw [List.length_cons] at h; omega⟩
set_option maxRecDepth 100000 in
set_option maxHeartbeats 2000000 in
theorem alone_a1 {s t : List UInt8} {z y ps qs pt qt : Int} {w0 : World} (hs : IRd s z ps qs) (ht : IRd t y pt qt) (_bz : zl z ≤ 65537) (_by : zl y ≤ 65537) (u1 : ps ≠ 0) (hy0 : y = 0) :
    Calls Tryd.prog 87 #[.agg #[.string ⟨s.toArray⟩, .string ⟨t.toArray⟩]] w0 fun e w' => ∃ v, e = .returned (.tuple #[v, .bool false]) ∧ QAt w' v (0) ∧ Below w0.heap.size w0 w' := by
  refine enter Tryd.func87 rfl Tryd.ntmps87 rfl ?_
  intro a henv hst
  refine wp_seq ?_
  refine region_seq ?_
  refine seq_step rfl (op_box (c := #[.string ⟨s.toArray⟩, .string ⟨t.toArray⟩]) henv hst rfl rfl rfl ?_)
  clear henv hst a; intro a w2 g1 henv hst
  refine seq_step rfl (op_alloc (c := #[.bool (neg (qn 0)), .slice none (zl (qn 0)) 0, .bool (neg (ql 0)), .slice none (zl (ql 0)) 0]) henv hst rfl zero_anvil_ratio_Rat qcells ?_)
  clear henv hst a; intro a w4 g3 henv hst
  refine sv (v := .bool false) henv rfl (rn_assign henv rfl) ?_
  clear henv a; intro a henv
  refine wpList_nil ?_
  refine th_n ?_
  refine wp_seq ?_
  refine region_seq ?_
  revert a
  refine sA (v := .pointer (some ⟨g1, 0, none⟩)) rfl (fun _ henv => rn_fieldAddr henv fd_anvil_anvillaw03_Frac_0 (ty_string.size) (by decide) rfl) ?_
  refine sA (v := .string ⟨s.toArray⟩) rfl (fun _ henv => rn_load1 henv ty_string rfl (hst.oat (k := 1) rfl) rfl) ?_
  intro a henv
  refine seq_step rfl (op_call henv rfl Tryd.call113 rfl (hs _) ?_)
  rintro e w8 ⟨_, rfl, ⟨A5, c6, rfl, hz7⟩, hb⟩
  refine ⟨_, rfl, ?_⟩
  clear henv a; intro a henv
  replace hst := (hst.call hb).addZ hz7 ⟨nou_bk rfl, nou_bk rfl, trivial⟩
  clear hz7
  clear hb
  revert a
  refine mA rfl rfl ?_
  refine sA (v := .agg #[.bool (neg z), .slice A5 (zl z) c6]) rfl (fun _ henv => rn_extract henv rfl rfl) ?_
  refine sA (v := .agg #[.int .i64 ps, .int .i64 qs]) rfl (fun _ henv => rn_extract henv rfl rfl) ?_
  intro a henv
  refine seq_step rfl (op_alloc (c := #[.bool (neg 0), .slice none (zl 0) 0]) henv hst rfl zero_anvil_integer_Int zcells ?_)
  clear henv hst a; intro a w10 g9 henv hst
  refine seq_step rfl (op_alloc (c := #[.int .i64 0, .int .i64 0]) henv hst rfl zero_anvil_api_Spot rfl ?_)
  clear henv hst a; intro a w12 g11 henv hst
  refine seq_step rfl (op_store (k := 1) (c' := #[.bool (neg z), .slice A5 (zl z) c6]) henv hst (ty_anvil_integer_Int.size) rfl rfl rfl rfl (by simp) rfl rfl ?_)
  clear henv hst a; intro a w13 henv hst
  refine seq_step rfl (op_store (k := 0) (c' := #[.int .i64 ps, .int .i64 qs]) henv hst (ty_anvil_api_Spot.size) rfl rfl rfl rfl (by simp) rfl rfl ?_)
  clear henv hst a; intro a w14 henv hst
  refine wpList_nil ?_
  refine th_n ?_
  refine wp_seq ?_
  refine region_seq ?_
  revert a
  refine sA (v := .pointer (some ⟨g1, 1, none⟩)) rfl (fun _ henv => rn_fieldAddr henv fd_anvil_anvillaw03_Frac_1 (ty_string.size) (by decide) rfl) ?_
  refine sA (v := .string ⟨t.toArray⟩) rfl (fun _ henv => rn_load1 henv ty_string rfl (hst.oat (k := 3) rfl) rfl) ?_
  intro a henv
  refine seq_step rfl (op_call henv rfl Tryd.call113 rfl (ht _) ?_)
  rintro e w18 ⟨_, rfl, ⟨A15, c16, rfl, hz17⟩, hb⟩
  refine ⟨_, rfl, ?_⟩
  clear henv a; intro a henv
  replace hst := (hst.call hb).addZ hz17 ⟨nou_bk rfl, nou_bk rfl, nou_bk rfl, nou_bk rfl, trivial⟩
  clear hz17
  clear hb
  revert a
  refine mA rfl rfl ?_
  refine sA (v := .agg #[.bool (neg y), .slice A15 (zl y) c16]) rfl (fun _ henv => rn_extract henv rfl rfl) ?_
  refine sA (v := .agg #[.int .i64 pt, .int .i64 qt]) rfl (fun _ henv => rn_extract henv rfl rfl) ?_
  intro a henv
  refine seq_step rfl (op_alloc (c := #[.bool (neg 0), .slice none (zl 0) 0]) henv hst rfl zero_anvil_integer_Int zcells ?_)
  clear henv hst a; intro a w20 g19 henv hst
  refine seq_step rfl (op_alloc (c := #[.int .i64 0, .int .i64 0]) henv hst rfl zero_anvil_api_Spot rfl ?_)
  clear henv hst a; intro a w22 g21 henv hst
  refine seq_step rfl (op_store (k := 1) (c' := #[.bool (neg y), .slice A15 (zl y) c16]) henv hst (ty_anvil_integer_Int.size) rfl rfl rfl rfl (by simp) rfl rfl ?_)
  clear henv hst a; intro a w23 henv hst
  refine seq_step rfl (op_store (k := 0) (c' := #[.int .i64 pt, .int .i64 qt]) henv hst (ty_anvil_api_Spot.size) rfl rfl rfl rfl (by simp) rfl rfl ?_)
  clear henv hst a; intro a w24 henv hst
  refine wpList_nil ?_
  refine th_n ?_
  refine wp_seq ?_
  refine region_seq ?_
  revert a
  refine sA (v := .agg #[.bool (neg z), .slice A5 (zl z) c6]) rfl (fun _ henv => rn_load0 henv ty_anvil_integer_Int rfl (hst.oat (k := 3) rfl) rfl) ?_
  refine sA (v := .agg #[.bool (neg y), .slice A15 (zl y) c16]) rfl (fun _ henv => rn_load0 henv ty_anvil_integer_Int rfl (hst.oat (k := 1) rfl) rfl) ?_
  intro a henv
  refine seq_step rfl (op_call henv rfl Tryd.call90 rfl (make_z0 (p := z) (q := y) (show ZIn _ A5 c6 z from hst.pat (k := 1) rfl) (show ZIn _ A15 c16 y from hst.pat (k := 0) rfl) hy0) ?_)
  rintro e w25 ⟨rfl, hb⟩
  refine ⟨_, rfl, ?_⟩
  clear henv a; intro a henv
  replace hst := hst.call hb
  replace hst := (hst.addZ (show ZIn _ none 0 (qn 0) from zin_none _) ⟨nou_bk rfl, nou_bk rfl, nou_bk rfl, nou_bk rfl, nou_bk rfl, nou_bk rfl, trivial⟩).addZ (show ZIn _ none 0 (ql 0) from zin_none _) ⟨nou_bk rfl, nou_bk rfl, nou_bk rfl, nou_bk rfl, nou_bk rfl, nou_bk rfl, trivial⟩
  clear hb
  revert a
  refine mA rfl rfl ?_
  refine sA (v := .agg #[.bool (neg (qn 0)), .slice none (zl (qn 0)) 0, .bool (neg (ql 0)), .slice none (zl (ql 0)) 0]) rfl (fun _ henv => rn_extract henv rfl rfl) ?_
  refine sA (v := .int .i64 2) rfl (fun _ henv => rn_extract henv rfl rfl) ?_
  intro a henv
  refine seq_step rfl (op_alloc (c := #[.bool (neg (qn 0)), .slice none (zl (qn 0)) 0, .bool (neg (ql 0)), .slice none (zl (ql 0)) 0]) henv hst rfl zero_anvil_ratio_Rat qcells ?_)
  clear henv hst a; intro a w27 g26 henv hst
  refine seq_step rfl (op_store (k := 0) (c' := #[.bool (neg (qn 0)), .slice none (zl (qn 0)) 0, .bool (neg (ql 0)), .slice none (zl (ql 0)) 0]) henv hst (ty_anvil_ratio_Rat.size) rfl rfl rfl rfl (by simp) rfl rfl ?_)
  clear henv hst a; intro a w28 henv hst
  refine sv (v := .int .i64 2) henv rfl (rn_assign henv rfl) ?_
  clear henv a; intro a henv
  refine wpList_nil ?_
  refine th_n ?_
  refine wp_seq ?_
  refine region_seq ?_
  revert a
  refine sA (v := .agg #[.bool (neg (qn 0)), .slice none (zl (qn 0)) 0, .bool (neg (ql 0)), .slice none (zl (ql 0)) 0]) rfl (fun _ henv => rn_load0 henv ty_anvil_ratio_Rat rfl (hst.oat (k := 0) rfl) rfl) ?_
  refine sA (v := .pointer (some ⟨g11, 0, none⟩)) rfl (fun _ henv => rn_fieldAddr henv fd_anvil_api_Spot_0 (ty_anvil_api_Errno.size) (by decide) rfl) ?_
  refine sA (v := .int .i64 ps) rfl (fun _ henv => rn_load1 henv ty_anvil_api_Errno rfl (hst.oat (k := 3) rfl) rfl) ?_
  refine sA (v := .bool (ps == (0 : Int))) rfl (fun _ henv => rn_bin henv rfl rfl rfl) ?_
  intro a henv
  rw [show (ps == (0 : Int)) = false from (beq_eq_false_iff_ne.2 u1)] at henv
  revert a
  refine mA rfl rfl ?_
  refine kA rfl rfl rfl rfl rfl ?_
  refine kA rfl rfl rfl rfl rfl ?_
  refine kA rfl rfl rfl rfl rfl ?_
  refine sA (v := .bool false) rfl (fun _ henv => rn_pick henv rfl rfl) ?_
  refine mA rfl rfl ?_
  refine kA rfl rfl rfl rfl rfl ?_
  refine kA rfl rfl rfl rfl rfl ?_
  refine sA (v := .bool false) rfl (fun _ henv => rn_pick henv rfl rfl) ?_
  intro a henv
  refine seq_step rfl (op_store (k := 5) (c' := #[.bool (neg (qn 0)), .slice none (zl (qn 0)) 0, .bool (neg (ql 0)), .slice none (zl (ql 0)) 0]) henv hst (ty_anvil_ratio_Rat.size) rfl rfl rfl rfl (by simp) rfl rfl ?_)
  clear henv hst a; intro a w29 henv hst
  refine sv (v := .bool false) henv rfl (rn_assign henv rfl) ?_
  clear henv a; intro a henv
  refine wpList_nil ?_
  refine th_n ?_
  refine wp_ret ?_
  refine leave henv (res2 Tryd.results87 (RV.cell henv ty_anvil_ratio_Rat rfl (hst.oat (k := 5) rfl) rfl) (RV.tmp henv rfl)) ?_
  exact ⟨_, rfl, q_at rfl rfl (hst.pat (k := 1) rfl) (hst.pat (k := 0) rfl), hst.below⟩
set_option maxRecDepth 100000 in
set_option maxHeartbeats 2000000 in
theorem alone_a0 {s t : List UInt8} {z y ps qs pt qt : Int} {w0 : World} (hs : IRd s z ps qs) (ht : IRd t y pt qt) (bz : zl z ≤ 65537) (by_ : zl y ≤ 65537) (u1 : ps ≠ 0) (hy0 : y ≠ 0) :
    Calls Tryd.prog 87 #[.agg #[.string ⟨s.toArray⟩, .string ⟨t.toArray⟩]] w0 fun e w' => ∃ v, e = .returned (.tuple #[v, .bool false]) ∧ QAt w' v (Rat.divInt z y) ∧ Below w0.heap.size w0 w' := by
  refine enter Tryd.func87 rfl Tryd.ntmps87 rfl ?_
  intro a henv hst
  refine wp_seq ?_
  refine region_seq ?_
  refine seq_step rfl (op_box (c := #[.string ⟨s.toArray⟩, .string ⟨t.toArray⟩]) henv hst rfl rfl rfl ?_)
  clear henv hst a; intro a w2 g1 henv hst
  refine seq_step rfl (op_alloc (c := #[.bool (neg (qn 0)), .slice none (zl (qn 0)) 0, .bool (neg (ql 0)), .slice none (zl (ql 0)) 0]) henv hst rfl zero_anvil_ratio_Rat qcells ?_)
  clear henv hst a; intro a w4 g3 henv hst
  refine sv (v := .bool false) henv rfl (rn_assign henv rfl) ?_
  clear henv a; intro a henv
  refine wpList_nil ?_
  refine th_n ?_
  refine wp_seq ?_
  refine region_seq ?_
  revert a
  refine sA (v := .pointer (some ⟨g1, 0, none⟩)) rfl (fun _ henv => rn_fieldAddr henv fd_anvil_anvillaw03_Frac_0 (ty_string.size) (by decide) rfl) ?_
  refine sA (v := .string ⟨s.toArray⟩) rfl (fun _ henv => rn_load1 henv ty_string rfl (hst.oat (k := 1) rfl) rfl) ?_
  intro a henv
  refine seq_step rfl (op_call henv rfl Tryd.call113 rfl (hs _) ?_)
  rintro e w8 ⟨_, rfl, ⟨A5, c6, rfl, hz7⟩, hb⟩
  refine ⟨_, rfl, ?_⟩
  clear henv a; intro a henv
  replace hst := (hst.call hb).addZ hz7 ⟨nou_bk rfl, nou_bk rfl, trivial⟩
  clear hz7
  clear hb
  revert a
  refine mA rfl rfl ?_
  refine sA (v := .agg #[.bool (neg z), .slice A5 (zl z) c6]) rfl (fun _ henv => rn_extract henv rfl rfl) ?_
  refine sA (v := .agg #[.int .i64 ps, .int .i64 qs]) rfl (fun _ henv => rn_extract henv rfl rfl) ?_
  intro a henv
  refine seq_step rfl (op_alloc (c := #[.bool (neg 0), .slice none (zl 0) 0]) henv hst rfl zero_anvil_integer_Int zcells ?_)
  clear henv hst a; intro a w10 g9 henv hst
  refine seq_step rfl (op_alloc (c := #[.int .i64 0, .int .i64 0]) henv hst rfl zero_anvil_api_Spot rfl ?_)
  clear henv hst a; intro a w12 g11 henv hst
  refine seq_step rfl (op_store (k := 1) (c' := #[.bool (neg z), .slice A5 (zl z) c6]) henv hst (ty_anvil_integer_Int.size) rfl rfl rfl rfl (by simp) rfl rfl ?_)
  clear henv hst a; intro a w13 henv hst
  refine seq_step rfl (op_store (k := 0) (c' := #[.int .i64 ps, .int .i64 qs]) henv hst (ty_anvil_api_Spot.size) rfl rfl rfl rfl (by simp) rfl rfl ?_)
  clear henv hst a; intro a w14 henv hst
  refine wpList_nil ?_
  refine th_n ?_
  refine wp_seq ?_
  refine region_seq ?_
  revert a
  refine sA (v := .pointer (some ⟨g1, 1, none⟩)) rfl (fun _ henv => rn_fieldAddr henv fd_anvil_anvillaw03_Frac_1 (ty_string.size) (by decide) rfl) ?_
  refine sA (v := .string ⟨t.toArray⟩) rfl (fun _ henv => rn_load1 henv ty_string rfl (hst.oat (k := 3) rfl) rfl) ?_
  intro a henv
  refine seq_step rfl (op_call henv rfl Tryd.call113 rfl (ht _) ?_)
  rintro e w18 ⟨_, rfl, ⟨A15, c16, rfl, hz17⟩, hb⟩
  refine ⟨_, rfl, ?_⟩
  clear henv a; intro a henv
  replace hst := (hst.call hb).addZ hz17 ⟨nou_bk rfl, nou_bk rfl, nou_bk rfl, nou_bk rfl, trivial⟩
  clear hz17
  clear hb
  revert a
  refine mA rfl rfl ?_
  refine sA (v := .agg #[.bool (neg y), .slice A15 (zl y) c16]) rfl (fun _ henv => rn_extract henv rfl rfl) ?_
  refine sA (v := .agg #[.int .i64 pt, .int .i64 qt]) rfl (fun _ henv => rn_extract henv rfl rfl) ?_
  intro a henv
  refine seq_step rfl (op_alloc (c := #[.bool (neg 0), .slice none (zl 0) 0]) henv hst rfl zero_anvil_integer_Int zcells ?_)
  clear henv hst a; intro a w20 g19 henv hst
  refine seq_step rfl (op_alloc (c := #[.int .i64 0, .int .i64 0]) henv hst rfl zero_anvil_api_Spot rfl ?_)
  clear henv hst a; intro a w22 g21 henv hst
  refine seq_step rfl (op_store (k := 1) (c' := #[.bool (neg y), .slice A15 (zl y) c16]) henv hst (ty_anvil_integer_Int.size) rfl rfl rfl rfl (by simp) rfl rfl ?_)
  clear henv hst a; intro a w23 henv hst
  refine seq_step rfl (op_store (k := 0) (c' := #[.int .i64 pt, .int .i64 qt]) henv hst (ty_anvil_api_Spot.size) rfl rfl rfl rfl (by simp) rfl rfl ?_)
  clear henv hst a; intro a w24 henv hst
  refine wpList_nil ?_
  refine th_n ?_
  refine wp_seq ?_
  refine region_seq ?_
  revert a
  refine sA (v := .agg #[.bool (neg z), .slice A5 (zl z) c6]) rfl (fun _ henv => rn_load0 henv ty_anvil_integer_Int rfl (hst.oat (k := 3) rfl) rfl) ?_
  refine sA (v := .agg #[.bool (neg y), .slice A15 (zl y) c16]) rfl (fun _ henv => rn_load0 henv ty_anvil_integer_Int rfl (hst.oat (k := 1) rfl) rfl) ?_
  intro a henv
  refine seq_step rfl (op_call henv rfl Tryd.call90 rfl (make_qr (p := z) (q := y) (r := Rat.divInt z y) (show ZIn _ A5 c6 z from hst.pat (k := 1) rfl) (show ZIn _ A15 c16 y from hst.pat (k := 0) rfl) (by omega) (by omega) hy0 rfl) ?_)
  rintro e w31 ⟨_, rfl, ⟨A25, c26, B27, d28, rfl, hz29, hz30⟩, hb⟩
  refine ⟨_, rfl, ?_⟩
  clear henv a; intro a henv
  replace hst := ((hst.call hb).addZ hz29 ⟨nou_bk rfl, nou_bk rfl, nou_bk rfl, nou_bk rfl, nou_bk rfl, nou_bk rfl, trivial⟩).addZ hz30 ⟨nou_bk rfl, nou_bk rfl, nou_bk rfl, nou_bk rfl, nou_bk rfl, nou_bk rfl, trivial⟩
  clear hz29 hz30
  clear hb
  revert a
  refine mA rfl rfl ?_
  refine sA (v := .agg #[.bool (neg (qn (Rat.divInt z y))), .slice A25 (zl (qn (Rat.divInt z y))) c26, .bool (neg (ql (Rat.divInt z y))), .slice B27 (zl (ql (Rat.divInt z y))) d28]) rfl (fun _ henv => rn_extract henv rfl rfl) ?_
  refine sA (v := .int .i64 0) rfl (fun _ henv => rn_extract henv rfl rfl) ?_
  intro a henv
  refine seq_step rfl (op_alloc (c := #[.bool (neg (qn 0)), .slice none (zl (qn 0)) 0, .bool (neg (ql 0)), .slice none (zl (ql 0)) 0]) henv hst rfl zero_anvil_ratio_Rat qcells ?_)
  clear henv hst a; intro a w33 g32 henv hst
  refine seq_step rfl (op_store (k := 0) (c' := #[.bool (neg (qn (Rat.divInt z y))), .slice A25 (zl (qn (Rat.divInt z y))) c26, .bool (neg (ql (Rat.divInt z y))), .slice B27 (zl (ql (Rat.divInt z y))) d28]) henv hst (ty_anvil_ratio_Rat.size) rfl rfl rfl rfl (by simp) rfl rfl ?_)
  clear henv hst a; intro a w34 henv hst
  refine sv (v := .int .i64 0) henv rfl (rn_assign henv rfl) ?_
  clear henv a; intro a henv
  refine wpList_nil ?_
  refine th_n ?_
  refine wp_seq ?_
  refine region_seq ?_
  revert a
  refine sA (v := .agg #[.bool (neg (qn (Rat.divInt z y))), .slice A25 (zl (qn (Rat.divInt z y))) c26, .bool (neg (ql (Rat.divInt z y))), .slice B27 (zl (ql (Rat.divInt z y))) d28]) rfl (fun _ henv => rn_load0 henv ty_anvil_ratio_Rat rfl (hst.oat (k := 0) rfl) rfl) ?_
  refine sA (v := .pointer (some ⟨g11, 0, none⟩)) rfl (fun _ henv => rn_fieldAddr henv fd_anvil_api_Spot_0 (ty_anvil_api_Errno.size) (by decide) rfl) ?_
  refine sA (v := .int .i64 ps) rfl (fun _ henv => rn_load1 henv ty_anvil_api_Errno rfl (hst.oat (k := 3) rfl) rfl) ?_
  refine sA (v := .bool (ps == (0 : Int))) rfl (fun _ henv => rn_bin henv rfl rfl rfl) ?_
  intro a henv
  rw [show (ps == (0 : Int)) = false from (beq_eq_false_iff_ne.2 u1)] at henv
  revert a
  refine mA rfl rfl ?_
  refine kA rfl rfl rfl rfl rfl ?_
  refine kA rfl rfl rfl rfl rfl ?_
  refine kA rfl rfl rfl rfl rfl ?_
  refine sA (v := .bool false) rfl (fun _ henv => rn_pick henv rfl rfl) ?_
  refine mA rfl rfl ?_
  refine kA rfl rfl rfl rfl rfl ?_
  refine kA rfl rfl rfl rfl rfl ?_
  refine sA (v := .bool false) rfl (fun _ henv => rn_pick henv rfl rfl) ?_
  intro a henv
  refine seq_step rfl (op_store (k := 5) (c' := #[.bool (neg (qn (Rat.divInt z y))), .slice A25 (zl (qn (Rat.divInt z y))) c26, .bool (neg (ql (Rat.divInt z y))), .slice B27 (zl (ql (Rat.divInt z y))) d28]) henv hst (ty_anvil_ratio_Rat.size) rfl rfl rfl rfl (by simp) rfl rfl ?_)
  clear henv hst a; intro a w35 henv hst
  refine sv (v := .bool false) henv rfl (rn_assign henv rfl) ?_
  clear henv a; intro a henv
  refine wpList_nil ?_
  refine th_n ?_
  refine wp_ret ?_
  refine leave henv (res2 Tryd.results87 (RV.cell henv ty_anvil_ratio_Rat rfl (hst.oat (k := 5) rfl) rfl) (RV.tmp henv rfl)) ?_
  exact ⟨_, rfl, q_at rfl rfl (hst.pat (k := 1) rfl) (hst.pat (k := 0) rfl), hst.below⟩
set_option maxRecDepth 100000 in
set_option maxHeartbeats 2000000 in
theorem alone_b1 {s t : List UInt8} {z y ps qs pt qt : Int} {w0 : World} (hs : IRd s z ps qs) (ht : IRd t y pt qt) (_bz : zl z ≤ 65537) (_by : zl y ≤ 65537) (u1 : ps = 0) (u2 : pt ≠ 0) (hy0 : y = 0) :
    Calls Tryd.prog 87 #[.agg #[.string ⟨s.toArray⟩, .string ⟨t.toArray⟩]] w0 fun e w' => ∃ v, e = .returned (.tuple #[v, .bool false]) ∧ QAt w' v (0) ∧ Below w0.heap.size w0 w' := by
  refine enter Tryd.func87 rfl Tryd.ntmps87 rfl ?_
  intro a henv hst
  refine wp_seq ?_
  refine region_seq ?_
  refine seq_step rfl (op_box (c := #[.string ⟨s.toArray⟩, .string ⟨t.toArray⟩]) henv hst rfl rfl rfl ?_)
  clear henv hst a; intro a w2 g1 henv hst
  refine seq_step rfl (op_alloc (c := #[.bool (neg (qn 0)), .slice none (zl (qn 0)) 0, .bool (neg (ql 0)), .slice none (zl (ql 0)) 0]) henv hst rfl zero_anvil_ratio_Rat qcells ?_)
  clear henv hst a; intro a w4 g3 henv hst
  refine sv (v := .bool false) henv rfl (rn_assign henv rfl) ?_
  clear henv a; intro a henv
  refine wpList_nil ?_
  refine th_n ?_
  refine wp_seq ?_
  refine region_seq ?_
  revert a
  refine sA (v := .pointer (some ⟨g1, 0, none⟩)) rfl (fun _ henv => rn_fieldAddr henv fd_anvil_anvillaw03_Frac_0 (ty_string.size) (by decide) rfl) ?_
  refine sA (v := .string ⟨s.toArray⟩) rfl (fun _ henv => rn_load1 henv ty_string rfl (hst.oat (k := 1) rfl) rfl) ?_
  intro a henv
  refine seq_step rfl (op_call henv rfl Tryd.call113 rfl (hs _) ?_)
  rintro e w8 ⟨_, rfl, ⟨A5, c6, rfl, hz7⟩, hb⟩
  refine ⟨_, rfl, ?_⟩
  clear henv a; intro a henv
  replace hst := (hst.call hb).addZ hz7 ⟨nou_bk rfl, nou_bk rfl, trivial⟩
  clear hz7
  clear hb
  revert a
  refine mA rfl rfl ?_
  refine sA (v := .agg #[.bool (neg z), .slice A5 (zl z) c6]) rfl (fun _ henv => rn_extract henv rfl rfl) ?_
  refine sA (v := .agg #[.int .i64 ps, .int .i64 qs]) rfl (fun _ henv => rn_extract henv rfl rfl) ?_
  intro a henv
  refine seq_step rfl (op_alloc (c := #[.bool (neg 0), .slice none (zl 0) 0]) henv hst rfl zero_anvil_integer_Int zcells ?_)
  clear henv hst a; intro a w10 g9 henv hst
  refine seq_step rfl (op_alloc (c := #[.int .i64 0, .int .i64 0]) henv hst rfl zero_anvil_api_Spot rfl ?_)
  clear henv hst a; intro a w12 g11 henv hst
  refine seq_step rfl (op_store (k := 1) (c' := #[.bool (neg z), .slice A5 (zl z) c6]) henv hst (ty_anvil_integer_Int.size) rfl rfl rfl rfl (by simp) rfl rfl ?_)
  clear henv hst a; intro a w13 henv hst
  refine seq_step rfl (op_store (k := 0) (c' := #[.int .i64 ps, .int .i64 qs]) henv hst (ty_anvil_api_Spot.size) rfl rfl rfl rfl (by simp) rfl rfl ?_)
  clear henv hst a; intro a w14 henv hst
  refine wpList_nil ?_
  refine th_n ?_
  refine wp_seq ?_
  refine region_seq ?_
  revert a
  refine sA (v := .pointer (some ⟨g1, 1, none⟩)) rfl (fun _ henv => rn_fieldAddr henv fd_anvil_anvillaw03_Frac_1 (ty_string.size) (by decide) rfl) ?_
  refine sA (v := .string ⟨t.toArray⟩) rfl (fun _ henv => rn_load1 henv ty_string rfl (hst.oat (k := 3) rfl) rfl) ?_
  intro a henv
  refine seq_step rfl (op_call henv rfl Tryd.call113 rfl (ht _) ?_)
  rintro e w18 ⟨_, rfl, ⟨A15, c16, rfl, hz17⟩, hb⟩
  refine ⟨_, rfl, ?_⟩
  clear henv a; intro a henv
  replace hst := (hst.call hb).addZ hz17 ⟨nou_bk rfl, nou_bk rfl, nou_bk rfl, nou_bk rfl, trivial⟩
  clear hz17
  clear hb
  revert a
  refine mA rfl rfl ?_
  refine sA (v := .agg #[.bool (neg y), .slice A15 (zl y) c16]) rfl (fun _ henv => rn_extract henv rfl rfl) ?_
  refine sA (v := .agg #[.int .i64 pt, .int .i64 qt]) rfl (fun _ henv => rn_extract henv rfl rfl) ?_
  intro a henv
  refine seq_step rfl (op_alloc (c := #[.bool (neg 0), .slice none (zl 0) 0]) henv hst rfl zero_anvil_integer_Int zcells ?_)
  clear henv hst a; intro a w20 g19 henv hst
  refine seq_step rfl (op_alloc (c := #[.int .i64 0, .int .i64 0]) henv hst rfl zero_anvil_api_Spot rfl ?_)
  clear henv hst a; intro a w22 g21 henv hst
  refine seq_step rfl (op_store (k := 1) (c' := #[.bool (neg y), .slice A15 (zl y) c16]) henv hst (ty_anvil_integer_Int.size) rfl rfl rfl rfl (by simp) rfl rfl ?_)
  clear henv hst a; intro a w23 henv hst
  refine seq_step rfl (op_store (k := 0) (c' := #[.int .i64 pt, .int .i64 qt]) henv hst (ty_anvil_api_Spot.size) rfl rfl rfl rfl (by simp) rfl rfl ?_)
  clear henv hst a; intro a w24 henv hst
  refine wpList_nil ?_
  refine th_n ?_
  refine wp_seq ?_
  refine region_seq ?_
  revert a
  refine sA (v := .agg #[.bool (neg z), .slice A5 (zl z) c6]) rfl (fun _ henv => rn_load0 henv ty_anvil_integer_Int rfl (hst.oat (k := 3) rfl) rfl) ?_
  refine sA (v := .agg #[.bool (neg y), .slice A15 (zl y) c16]) rfl (fun _ henv => rn_load0 henv ty_anvil_integer_Int rfl (hst.oat (k := 1) rfl) rfl) ?_
  intro a henv
  refine seq_step rfl (op_call henv rfl Tryd.call90 rfl (make_z0 (p := z) (q := y) (show ZIn _ A5 c6 z from hst.pat (k := 1) rfl) (show ZIn _ A15 c16 y from hst.pat (k := 0) rfl) hy0) ?_)
  rintro e w25 ⟨rfl, hb⟩
  refine ⟨_, rfl, ?_⟩
  clear henv a; intro a henv
  replace hst := hst.call hb
  replace hst := (hst.addZ (show ZIn _ none 0 (qn 0) from zin_none _) ⟨nou_bk rfl, nou_bk rfl, nou_bk rfl, nou_bk rfl, nou_bk rfl, nou_bk rfl, trivial⟩).addZ (show ZIn _ none 0 (ql 0) from zin_none _) ⟨nou_bk rfl, nou_bk rfl, nou_bk rfl, nou_bk rfl, nou_bk rfl, nou_bk rfl, trivial⟩
  clear hb
  revert a
  refine mA rfl rfl ?_
  refine sA (v := .agg #[.bool (neg (qn 0)), .slice none (zl (qn 0)) 0, .bool (neg (ql 0)), .slice none (zl (ql 0)) 0]) rfl (fun _ henv => rn_extract henv rfl rfl) ?_
  refine sA (v := .int .i64 2) rfl (fun _ henv => rn_extract henv rfl rfl) ?_
  intro a henv
  refine seq_step rfl (op_alloc (c := #[.bool (neg (qn 0)), .slice none (zl (qn 0)) 0, .bool (neg (ql 0)), .slice none (zl (ql 0)) 0]) henv hst rfl zero_anvil_ratio_Rat qcells ?_)
  clear henv hst a; intro a w27 g26 henv hst
  refine seq_step rfl (op_store (k := 0) (c' := #[.bool (neg (qn 0)), .slice none (zl (qn 0)) 0, .bool (neg (ql 0)), .slice none (zl (ql 0)) 0]) henv hst (ty_anvil_ratio_Rat.size) rfl rfl rfl rfl (by simp) rfl rfl ?_)
  clear henv hst a; intro a w28 henv hst
  refine sv (v := .int .i64 2) henv rfl (rn_assign henv rfl) ?_
  clear henv a; intro a henv
  refine wpList_nil ?_
  refine th_n ?_
  refine wp_seq ?_
  refine region_seq ?_
  revert a
  refine sA (v := .agg #[.bool (neg (qn 0)), .slice none (zl (qn 0)) 0, .bool (neg (ql 0)), .slice none (zl (ql 0)) 0]) rfl (fun _ henv => rn_load0 henv ty_anvil_ratio_Rat rfl (hst.oat (k := 0) rfl) rfl) ?_
  refine sA (v := .pointer (some ⟨g11, 0, none⟩)) rfl (fun _ henv => rn_fieldAddr henv fd_anvil_api_Spot_0 (ty_anvil_api_Errno.size) (by decide) rfl) ?_
  refine sA (v := .int .i64 ps) rfl (fun _ henv => rn_load1 henv ty_anvil_api_Errno rfl (hst.oat (k := 3) rfl) rfl) ?_
  refine sA (v := .bool (ps == (0 : Int))) rfl (fun _ henv => rn_bin henv rfl rfl rfl) ?_
  intro a henv
  rw [show (ps == (0 : Int)) = true from (beq_iff_eq.2 u1)] at henv
  revert a
  refine mA rfl rfl ?_
  refine gA (v := .pointer (some ⟨g21, 0, none⟩)) rfl rfl rfl rfl (fun _ henv => rn_fieldAddr henv fd_anvil_api_Spot_0 (ty_anvil_api_Errno.size) (by decide) rfl) ?_
  refine gA (v := .int .i64 pt) rfl rfl rfl rfl (fun _ henv => rn_load1 henv ty_anvil_api_Errno rfl (hst.oat (k := 1) rfl) rfl) ?_
  refine gA (v := .bool (pt == (0 : Int))) rfl rfl rfl rfl (fun _ henv => rn_bin henv rfl rfl rfl) ?_
  intro a henv
  rw [show (pt == (0 : Int)) = false from (beq_eq_false_iff_ne.2 u2)] at henv
  revert a
  refine sA (v := .bool false) rfl (fun _ henv => rn_pick henv rfl rfl) ?_
  refine mA rfl rfl ?_
  refine kA rfl rfl rfl rfl rfl ?_
  refine kA rfl rfl rfl rfl rfl ?_
  refine sA (v := .bool false) rfl (fun _ henv => rn_pick henv rfl rfl) ?_
  intro a henv
  refine seq_step rfl (op_store (k := 5) (c' := #[.bool (neg (qn 0)), .slice none (zl (qn 0)) 0, .bool (neg (ql 0)), .slice none (zl (ql 0)) 0]) henv hst (ty_anvil_ratio_Rat.size) rfl rfl rfl rfl (by simp) rfl rfl ?_)
  clear henv hst a; intro a w29 henv hst
  refine sv (v := .bool false) henv rfl (rn_assign henv rfl) ?_
  clear henv a; intro a henv
  refine wpList_nil ?_
  refine th_n ?_
  refine wp_ret ?_
  refine leave henv (res2 Tryd.results87 (RV.cell henv ty_anvil_ratio_Rat rfl (hst.oat (k := 5) rfl) rfl) (RV.tmp henv rfl)) ?_
  exact ⟨_, rfl, q_at rfl rfl (hst.pat (k := 1) rfl) (hst.pat (k := 0) rfl), hst.below⟩
set_option maxRecDepth 100000 in
set_option maxHeartbeats 2000000 in
theorem alone_b0 {s t : List UInt8} {z y ps qs pt qt : Int} {w0 : World} (hs : IRd s z ps qs) (ht : IRd t y pt qt) (bz : zl z ≤ 65537) (by_ : zl y ≤ 65537) (u1 : ps = 0) (u2 : pt ≠ 0) (hy0 : y ≠ 0) :
    Calls Tryd.prog 87 #[.agg #[.string ⟨s.toArray⟩, .string ⟨t.toArray⟩]] w0 fun e w' => ∃ v, e = .returned (.tuple #[v, .bool false]) ∧ QAt w' v (Rat.divInt z y) ∧ Below w0.heap.size w0 w' := by
  refine enter Tryd.func87 rfl Tryd.ntmps87 rfl ?_
  intro a henv hst
  refine wp_seq ?_
  refine region_seq ?_
  refine seq_step rfl (op_box (c := #[.string ⟨s.toArray⟩, .string ⟨t.toArray⟩]) henv hst rfl rfl rfl ?_)
  clear henv hst a; intro a w2 g1 henv hst
  refine seq_step rfl (op_alloc (c := #[.bool (neg (qn 0)), .slice none (zl (qn 0)) 0, .bool (neg (ql 0)), .slice none (zl (ql 0)) 0]) henv hst rfl zero_anvil_ratio_Rat qcells ?_)
  clear henv hst a; intro a w4 g3 henv hst
  refine sv (v := .bool false) henv rfl (rn_assign henv rfl) ?_
  clear henv a; intro a henv
  refine wpList_nil ?_
  refine th_n ?_
  refine wp_seq ?_
  refine region_seq ?_
  revert a
  refine sA (v := .pointer (some ⟨g1, 0, none⟩)) rfl (fun _ henv => rn_fieldAddr henv fd_anvil_anvillaw03_Frac_0 (ty_string.size) (by decide) rfl) ?_
  refine sA (v := .string ⟨s.toArray⟩) rfl (fun _ henv => rn_load1 henv ty_string rfl (hst.oat (k := 1) rfl) rfl) ?_
  intro a henv
  refine seq_step rfl (op_call henv rfl Tryd.call113 rfl (hs _) ?_)
  rintro e w8 ⟨_, rfl, ⟨A5, c6, rfl, hz7⟩, hb⟩
  refine ⟨_, rfl, ?_⟩
  clear henv a; intro a henv
  replace hst := (hst.call hb).addZ hz7 ⟨nou_bk rfl, nou_bk rfl, trivial⟩
  clear hz7
  clear hb
  revert a
  refine mA rfl rfl ?_
  refine sA (v := .agg #[.bool (neg z), .slice A5 (zl z) c6]) rfl (fun _ henv => rn_extract henv rfl rfl) ?_
  refine sA (v := .agg #[.int .i64 ps, .int .i64 qs]) rfl (fun _ henv => rn_extract henv rfl rfl) ?_
  intro a henv
  refine seq_step rfl (op_alloc (c := #[.bool (neg 0), .slice none (zl 0) 0]) henv hst rfl zero_anvil_integer_Int zcells ?_)
  clear henv hst a; intro a w10 g9 henv hst
  refine seq_step rfl (op_alloc (c := #[.int .i64 0, .int .i64 0]) henv hst rfl zero_anvil_api_Spot rfl ?_)
  clear henv hst a; intro a w12 g11 henv hst
  refine seq_step rfl (op_store (k := 1) (c' := #[.bool (neg z), .slice A5 (zl z) c6]) henv hst (ty_anvil_integer_Int.size) rfl rfl rfl rfl (by simp) rfl rfl ?_)
  clear henv hst a; intro a w13 henv hst
  refine seq_step rfl (op_store (k := 0) (c' := #[.int .i64 ps, .int .i64 qs]) henv hst (ty_anvil_api_Spot.size) rfl rfl rfl rfl (by simp) rfl rfl ?_)
  clear henv hst a; intro a w14 henv hst
  refine wpList_nil ?_
  refine th_n ?_
  refine wp_seq ?_
  refine region_seq ?_
  revert a
  refine sA (v := .pointer (some ⟨g1, 1, none⟩)) rfl (fun _ henv => rn_fieldAddr henv fd_anvil_anvillaw03_Frac_1 (ty_string.size) (by decide) rfl) ?_
  refine sA (v := .string ⟨t.toArray⟩) rfl (fun _ henv => rn_load1 henv ty_string rfl (hst.oat (k := 3) rfl) rfl) ?_
  intro a henv
  refine seq_step rfl (op_call henv rfl Tryd.call113 rfl (ht _) ?_)
  rintro e w18 ⟨_, rfl, ⟨A15, c16, rfl, hz17⟩, hb⟩
  refine ⟨_, rfl, ?_⟩
  clear henv a; intro a henv
  replace hst := (hst.call hb).addZ hz17 ⟨nou_bk rfl, nou_bk rfl, nou_bk rfl, nou_bk rfl, trivial⟩
  clear hz17
  clear hb
  revert a
  refine mA rfl rfl ?_
  refine sA (v := .agg #[.bool (neg y), .slice A15 (zl y) c16]) rfl (fun _ henv => rn_extract henv rfl rfl) ?_
  refine sA (v := .agg #[.int .i64 pt, .int .i64 qt]) rfl (fun _ henv => rn_extract henv rfl rfl) ?_
  intro a henv
  refine seq_step rfl (op_alloc (c := #[.bool (neg 0), .slice none (zl 0) 0]) henv hst rfl zero_anvil_integer_Int zcells ?_)
  clear henv hst a; intro a w20 g19 henv hst
  refine seq_step rfl (op_alloc (c := #[.int .i64 0, .int .i64 0]) henv hst rfl zero_anvil_api_Spot rfl ?_)
  clear henv hst a; intro a w22 g21 henv hst
  refine seq_step rfl (op_store (k := 1) (c' := #[.bool (neg y), .slice A15 (zl y) c16]) henv hst (ty_anvil_integer_Int.size) rfl rfl rfl rfl (by simp) rfl rfl ?_)
  clear henv hst a; intro a w23 henv hst
  refine seq_step rfl (op_store (k := 0) (c' := #[.int .i64 pt, .int .i64 qt]) henv hst (ty_anvil_api_Spot.size) rfl rfl rfl rfl (by simp) rfl rfl ?_)
  clear henv hst a; intro a w24 henv hst
  refine wpList_nil ?_
  refine th_n ?_
  refine wp_seq ?_
  refine region_seq ?_
  revert a
  refine sA (v := .agg #[.bool (neg z), .slice A5 (zl z) c6]) rfl (fun _ henv => rn_load0 henv ty_anvil_integer_Int rfl (hst.oat (k := 3) rfl) rfl) ?_
  refine sA (v := .agg #[.bool (neg y), .slice A15 (zl y) c16]) rfl (fun _ henv => rn_load0 henv ty_anvil_integer_Int rfl (hst.oat (k := 1) rfl) rfl) ?_
  intro a henv
  refine seq_step rfl (op_call henv rfl Tryd.call90 rfl (make_qr (p := z) (q := y) (r := Rat.divInt z y) (show ZIn _ A5 c6 z from hst.pat (k := 1) rfl) (show ZIn _ A15 c16 y from hst.pat (k := 0) rfl) (by omega) (by omega) hy0 rfl) ?_)
  rintro e w31 ⟨_, rfl, ⟨A25, c26, B27, d28, rfl, hz29, hz30⟩, hb⟩
  refine ⟨_, rfl, ?_⟩
  clear henv a; intro a henv
  replace hst := ((hst.call hb).addZ hz29 ⟨nou_bk rfl, nou_bk rfl, nou_bk rfl, nou_bk rfl, nou_bk rfl, nou_bk rfl, trivial⟩).addZ hz30 ⟨nou_bk rfl, nou_bk rfl, nou_bk rfl, nou_bk rfl, nou_bk rfl, nou_bk rfl, trivial⟩
  clear hz29 hz30
  clear hb
  revert a
  refine mA rfl rfl ?_
  refine sA (v := .agg #[.bool (neg (qn (Rat.divInt z y))), .slice A25 (zl (qn (Rat.divInt z y))) c26, .bool (neg (ql (Rat.divInt z y))), .slice B27 (zl (ql (Rat.divInt z y))) d28]) rfl (fun _ henv => rn_extract henv rfl rfl) ?_
  refine sA (v := .int .i64 0) rfl (fun _ henv => rn_extract henv rfl rfl) ?_
  intro a henv
  refine seq_step rfl (op_alloc (c := #[.bool (neg (qn 0)), .slice none (zl (qn 0)) 0, .bool (neg (ql 0)), .slice none (zl (ql 0)) 0]) henv hst rfl zero_anvil_ratio_Rat qcells ?_)
  clear henv hst a; intro a w33 g32 henv hst
  refine seq_step rfl (op_store (k := 0) (c' := #[.bool (neg (qn (Rat.divInt z y))), .slice A25 (zl (qn (Rat.divInt z y))) c26, .bool (neg (ql (Rat.divInt z y))), .slice B27 (zl (ql (Rat.divInt z y))) d28]) henv hst (ty_anvil_ratio_Rat.size) rfl rfl rfl rfl (by simp) rfl rfl ?_)
  clear henv hst a; intro a w34 henv hst
  refine sv (v := .int .i64 0) henv rfl (rn_assign henv rfl) ?_
  clear henv a; intro a henv
  refine wpList_nil ?_
  refine th_n ?_
  refine wp_seq ?_
  refine region_seq ?_
  revert a
  refine sA (v := .agg #[.bool (neg (qn (Rat.divInt z y))), .slice A25 (zl (qn (Rat.divInt z y))) c26, .bool (neg (ql (Rat.divInt z y))), .slice B27 (zl (ql (Rat.divInt z y))) d28]) rfl (fun _ henv => rn_load0 henv ty_anvil_ratio_Rat rfl (hst.oat (k := 0) rfl) rfl) ?_
  refine sA (v := .pointer (some ⟨g11, 0, none⟩)) rfl (fun _ henv => rn_fieldAddr henv fd_anvil_api_Spot_0 (ty_anvil_api_Errno.size) (by decide) rfl) ?_
  refine sA (v := .int .i64 ps) rfl (fun _ henv => rn_load1 henv ty_anvil_api_Errno rfl (hst.oat (k := 3) rfl) rfl) ?_
  refine sA (v := .bool (ps == (0 : Int))) rfl (fun _ henv => rn_bin henv rfl rfl rfl) ?_
  intro a henv
  rw [show (ps == (0 : Int)) = true from (beq_iff_eq.2 u1)] at henv
  revert a
  refine mA rfl rfl ?_
  refine gA (v := .pointer (some ⟨g21, 0, none⟩)) rfl rfl rfl rfl (fun _ henv => rn_fieldAddr henv fd_anvil_api_Spot_0 (ty_anvil_api_Errno.size) (by decide) rfl) ?_
  refine gA (v := .int .i64 pt) rfl rfl rfl rfl (fun _ henv => rn_load1 henv ty_anvil_api_Errno rfl (hst.oat (k := 1) rfl) rfl) ?_
  refine gA (v := .bool (pt == (0 : Int))) rfl rfl rfl rfl (fun _ henv => rn_bin henv rfl rfl rfl) ?_
  intro a henv
  rw [show (pt == (0 : Int)) = false from (beq_eq_false_iff_ne.2 u2)] at henv
  revert a
  refine sA (v := .bool false) rfl (fun _ henv => rn_pick henv rfl rfl) ?_
  refine mA rfl rfl ?_
  refine kA rfl rfl rfl rfl rfl ?_
  refine kA rfl rfl rfl rfl rfl ?_
  refine sA (v := .bool false) rfl (fun _ henv => rn_pick henv rfl rfl) ?_
  intro a henv
  refine seq_step rfl (op_store (k := 5) (c' := #[.bool (neg (qn (Rat.divInt z y))), .slice A25 (zl (qn (Rat.divInt z y))) c26, .bool (neg (ql (Rat.divInt z y))), .slice B27 (zl (ql (Rat.divInt z y))) d28]) henv hst (ty_anvil_ratio_Rat.size) rfl rfl rfl rfl (by simp) rfl rfl ?_)
  clear henv hst a; intro a w35 henv hst
  refine sv (v := .bool false) henv rfl (rn_assign henv rfl) ?_
  clear henv a; intro a henv
  refine wpList_nil ?_
  refine th_n ?_
  refine wp_ret ?_
  refine leave henv (res2 Tryd.results87 (RV.cell henv ty_anvil_ratio_Rat rfl (hst.oat (k := 5) rfl) rfl) (RV.tmp henv rfl)) ?_
  exact ⟨_, rfl, q_at rfl rfl (hst.pat (k := 1) rfl) (hst.pat (k := 0) rfl), hst.below⟩
set_option maxRecDepth 100000 in
set_option maxHeartbeats 2000000 in
theorem alone_z1 {s t : List UInt8} {z y ps qs pt qt : Int} {w0 : World} (hs : IRd s z ps qs) (ht : IRd t y pt qt) (_bz : zl z ≤ 65537) (_by : zl y ≤ 65537) (u1 : ps = 0) (u2 : pt = 0) (hy0 : y = 0) :
    Calls Tryd.prog 87 #[.agg #[.string ⟨s.toArray⟩, .string ⟨t.toArray⟩]] w0 fun e w' => ∃ v, e = .returned (.tuple #[v, .bool false]) ∧ QAt w' v (0) ∧ Below w0.heap.size w0 w' := by
  refine enter Tryd.func87 rfl Tryd.ntmps87 rfl ?_
  intro a henv hst
  refine wp_seq ?_
  refine region_seq ?_
  refine seq_step rfl (op_box (c := #[.string ⟨s.toArray⟩, .string ⟨t.toArray⟩]) henv hst rfl rfl rfl ?_)
  clear henv hst a; intro a w2 g1 henv hst
  refine seq_step rfl (op_alloc (c := #[.bool (neg (qn 0)), .slice none (zl (qn 0)) 0, .bool (neg (ql 0)), .slice none (zl (ql 0)) 0]) henv hst rfl zero_anvil_ratio_Rat qcells ?_)
  clear henv hst a; intro a w4 g3 henv hst
  refine sv (v := .bool false) henv rfl (rn_assign henv rfl) ?_
  clear henv a; intro a henv
  refine wpList_nil ?_
  refine th_n ?_
  refine wp_seq ?_
  refine region_seq ?_
  revert a
  refine sA (v := .pointer (some ⟨g1, 0, none⟩)) rfl (fun _ henv => rn_fieldAddr henv fd_anvil_anvillaw03_Frac_0 (ty_string.size) (by decide) rfl) ?_
  refine sA (v := .string ⟨s.toArray⟩) rfl (fun _ henv => rn_load1 henv ty_string rfl (hst.oat (k := 1) rfl) rfl) ?_
  intro a henv
  refine seq_step rfl (op_call henv rfl Tryd.call113 rfl (hs _) ?_)
  rintro e w8 ⟨_, rfl, ⟨A5, c6, rfl, hz7⟩, hb⟩
  refine ⟨_, rfl, ?_⟩
  clear henv a; intro a henv
  replace hst := (hst.call hb).addZ hz7 ⟨nou_bk rfl, nou_bk rfl, trivial⟩
  clear hz7
  clear hb
  revert a
  refine mA rfl rfl ?_
  refine sA (v := .agg #[.bool (neg z), .slice A5 (zl z) c6]) rfl (fun _ henv => rn_extract henv rfl rfl) ?_
  refine sA (v := .agg #[.int .i64 ps, .int .i64 qs]) rfl (fun _ henv => rn_extract henv rfl rfl) ?_
  intro a henv
  refine seq_step rfl (op_alloc (c := #[.bool (neg 0), .slice none (zl 0) 0]) henv hst rfl zero_anvil_integer_Int zcells ?_)
  clear henv hst a; intro a w10 g9 henv hst
  refine seq_step rfl (op_alloc (c := #[.int .i64 0, .int .i64 0]) henv hst rfl zero_anvil_api_Spot rfl ?_)
  clear henv hst a; intro a w12 g11 henv hst
  refine seq_step rfl (op_store (k := 1) (c' := #[.bool (neg z), .slice A5 (zl z) c6]) henv hst (ty_anvil_integer_Int.size) rfl rfl rfl rfl (by simp) rfl rfl ?_)
  clear henv hst a; intro a w13 henv hst
  refine seq_step rfl (op_store (k := 0) (c' := #[.int .i64 ps, .int .i64 qs]) henv hst (ty_anvil_api_Spot.size) rfl rfl rfl rfl (by simp) rfl rfl ?_)
  clear henv hst a; intro a w14 henv hst
  refine wpList_nil ?_
  refine th_n ?_
  refine wp_seq ?_
  refine region_seq ?_
  revert a
  refine sA (v := .pointer (some ⟨g1, 1, none⟩)) rfl (fun _ henv => rn_fieldAddr henv fd_anvil_anvillaw03_Frac_1 (ty_string.size) (by decide) rfl) ?_
  refine sA (v := .string ⟨t.toArray⟩) rfl (fun _ henv => rn_load1 henv ty_string rfl (hst.oat (k := 3) rfl) rfl) ?_
  intro a henv
  refine seq_step rfl (op_call henv rfl Tryd.call113 rfl (ht _) ?_)
  rintro e w18 ⟨_, rfl, ⟨A15, c16, rfl, hz17⟩, hb⟩
  refine ⟨_, rfl, ?_⟩
  clear henv a; intro a henv
  replace hst := (hst.call hb).addZ hz17 ⟨nou_bk rfl, nou_bk rfl, nou_bk rfl, nou_bk rfl, trivial⟩
  clear hz17
  clear hb
  revert a
  refine mA rfl rfl ?_
  refine sA (v := .agg #[.bool (neg y), .slice A15 (zl y) c16]) rfl (fun _ henv => rn_extract henv rfl rfl) ?_
  refine sA (v := .agg #[.int .i64 pt, .int .i64 qt]) rfl (fun _ henv => rn_extract henv rfl rfl) ?_
  intro a henv
  refine seq_step rfl (op_alloc (c := #[.bool (neg 0), .slice none (zl 0) 0]) henv hst rfl zero_anvil_integer_Int zcells ?_)
  clear henv hst a; intro a w20 g19 henv hst
  refine seq_step rfl (op_alloc (c := #[.int .i64 0, .int .i64 0]) henv hst rfl zero_anvil_api_Spot rfl ?_)
  clear henv hst a; intro a w22 g21 henv hst
  refine seq_step rfl (op_store (k := 1) (c' := #[.bool (neg y), .slice A15 (zl y) c16]) henv hst (ty_anvil_integer_Int.size) rfl rfl rfl rfl (by simp) rfl rfl ?_)
  clear henv hst a; intro a w23 henv hst
  refine seq_step rfl (op_store (k := 0) (c' := #[.int .i64 pt, .int .i64 qt]) henv hst (ty_anvil_api_Spot.size) rfl rfl rfl rfl (by simp) rfl rfl ?_)
  clear henv hst a; intro a w24 henv hst
  refine wpList_nil ?_
  refine th_n ?_
  refine wp_seq ?_
  refine region_seq ?_
  revert a
  refine sA (v := .agg #[.bool (neg z), .slice A5 (zl z) c6]) rfl (fun _ henv => rn_load0 henv ty_anvil_integer_Int rfl (hst.oat (k := 3) rfl) rfl) ?_
  refine sA (v := .agg #[.bool (neg y), .slice A15 (zl y) c16]) rfl (fun _ henv => rn_load0 henv ty_anvil_integer_Int rfl (hst.oat (k := 1) rfl) rfl) ?_
  intro a henv
  refine seq_step rfl (op_call henv rfl Tryd.call90 rfl (make_z0 (p := z) (q := y) (show ZIn _ A5 c6 z from hst.pat (k := 1) rfl) (show ZIn _ A15 c16 y from hst.pat (k := 0) rfl) hy0) ?_)
  rintro e w25 ⟨rfl, hb⟩
  refine ⟨_, rfl, ?_⟩
  clear henv a; intro a henv
  replace hst := hst.call hb
  replace hst := (hst.addZ (show ZIn _ none 0 (qn 0) from zin_none _) ⟨nou_bk rfl, nou_bk rfl, nou_bk rfl, nou_bk rfl, nou_bk rfl, nou_bk rfl, trivial⟩).addZ (show ZIn _ none 0 (ql 0) from zin_none _) ⟨nou_bk rfl, nou_bk rfl, nou_bk rfl, nou_bk rfl, nou_bk rfl, nou_bk rfl, trivial⟩
  clear hb
  revert a
  refine mA rfl rfl ?_
  refine sA (v := .agg #[.bool (neg (qn 0)), .slice none (zl (qn 0)) 0, .bool (neg (ql 0)), .slice none (zl (ql 0)) 0]) rfl (fun _ henv => rn_extract henv rfl rfl) ?_
  refine sA (v := .int .i64 2) rfl (fun _ henv => rn_extract henv rfl rfl) ?_
  intro a henv
  refine seq_step rfl (op_alloc (c := #[.bool (neg (qn 0)), .slice none (zl (qn 0)) 0, .bool (neg (ql 0)), .slice none (zl (ql 0)) 0]) henv hst rfl zero_anvil_ratio_Rat qcells ?_)
  clear henv hst a; intro a w27 g26 henv hst
  refine seq_step rfl (op_store (k := 0) (c' := #[.bool (neg (qn 0)), .slice none (zl (qn 0)) 0, .bool (neg (ql 0)), .slice none (zl (ql 0)) 0]) henv hst (ty_anvil_ratio_Rat.size) rfl rfl rfl rfl (by simp) rfl rfl ?_)
  clear henv hst a; intro a w28 henv hst
  refine sv (v := .int .i64 2) henv rfl (rn_assign henv rfl) ?_
  clear henv a; intro a henv
  refine wpList_nil ?_
  refine th_n ?_
  refine wp_seq ?_
  refine region_seq ?_
  revert a
  refine sA (v := .agg #[.bool (neg (qn 0)), .slice none (zl (qn 0)) 0, .bool (neg (ql 0)), .slice none (zl (ql 0)) 0]) rfl (fun _ henv => rn_load0 henv ty_anvil_ratio_Rat rfl (hst.oat (k := 0) rfl) rfl) ?_
  refine sA (v := .pointer (some ⟨g11, 0, none⟩)) rfl (fun _ henv => rn_fieldAddr henv fd_anvil_api_Spot_0 (ty_anvil_api_Errno.size) (by decide) rfl) ?_
  refine sA (v := .int .i64 ps) rfl (fun _ henv => rn_load1 henv ty_anvil_api_Errno rfl (hst.oat (k := 3) rfl) rfl) ?_
  refine sA (v := .bool (ps == (0 : Int))) rfl (fun _ henv => rn_bin henv rfl rfl rfl) ?_
  intro a henv
  rw [show (ps == (0 : Int)) = true from (beq_iff_eq.2 u1)] at henv
  revert a
  refine mA rfl rfl ?_
  refine gA (v := .pointer (some ⟨g21, 0, none⟩)) rfl rfl rfl rfl (fun _ henv => rn_fieldAddr henv fd_anvil_api_Spot_0 (ty_anvil_api_Errno.size) (by decide) rfl) ?_
  refine gA (v := .int .i64 pt) rfl rfl rfl rfl (fun _ henv => rn_load1 henv ty_anvil_api_Errno rfl (hst.oat (k := 1) rfl) rfl) ?_
  refine gA (v := .bool (pt == (0 : Int))) rfl rfl rfl rfl (fun _ henv => rn_bin henv rfl rfl rfl) ?_
  intro a henv
  rw [show (pt == (0 : Int)) = true from (beq_iff_eq.2 u2)] at henv
  revert a
  refine sA (v := .bool true) rfl (fun _ henv => rn_pick henv rfl rfl) ?_
  refine mA rfl rfl ?_
  refine gA (v := .int .i64 2) rfl rfl rfl rfl (fun _ henv => rn_move henv rfl) ?_
  refine gA (v := .bool false) rfl rfl rfl rfl (fun _ henv => rn_bin henv rfl rfl rfl) ?_
  refine sA (v := .bool false) rfl (fun _ henv => rn_pick henv rfl rfl) ?_
  intro a henv
  refine seq_step rfl (op_store (k := 5) (c' := #[.bool (neg (qn 0)), .slice none (zl (qn 0)) 0, .bool (neg (ql 0)), .slice none (zl (ql 0)) 0]) henv hst (ty_anvil_ratio_Rat.size) rfl rfl rfl rfl (by simp) rfl rfl ?_)
  clear henv hst a; intro a w29 henv hst
  refine sv (v := .bool false) henv rfl (rn_assign henv rfl) ?_
  clear henv a; intro a henv
  refine wpList_nil ?_
  refine th_n ?_
  refine wp_ret ?_
  refine leave henv (res2 Tryd.results87 (RV.cell henv ty_anvil_ratio_Rat rfl (hst.oat (k := 5) rfl) rfl) (RV.tmp henv rfl)) ?_
  exact ⟨_, rfl, q_at rfl rfl (hst.pat (k := 1) rfl) (hst.pat (k := 0) rfl), hst.below⟩
set_option maxRecDepth 100000 in
set_option maxHeartbeats 2000000 in
theorem alone_ok0 {s t : List UInt8} {z y ps qs pt qt : Int} {w0 : World} (hs : IRd s z ps qs) (ht : IRd t y pt qt) (bz : zl z ≤ 65537) (by_ : zl y ≤ 65537) (u1 : ps = 0) (u2 : pt = 0) (hy0 : y ≠ 0) :
    Calls Tryd.prog 87 #[.agg #[.string ⟨s.toArray⟩, .string ⟨t.toArray⟩]] w0 fun e w' => ∃ v, e = .returned (.tuple #[v, .bool true]) ∧ QAt w' v (Rat.divInt z y) ∧ Below w0.heap.size w0 w' := by
  refine enter Tryd.func87 rfl Tryd.ntmps87 rfl ?_
  intro a henv hst
  refine wp_seq ?_
  refine region_seq ?_
  refine seq_step rfl (op_box (c := #[.string ⟨s.toArray⟩, .string ⟨t.toArray⟩]) henv hst rfl rfl rfl ?_)
  clear henv hst a; intro a w2 g1 henv hst
  refine seq_step rfl (op_alloc (c := #[.bool (neg (qn 0)), .slice none (zl (qn 0)) 0, .bool (neg (ql 0)), .slice none (zl (ql 0)) 0]) henv hst rfl zero_anvil_ratio_Rat qcells ?_)
  clear henv hst a; intro a w4 g3 henv hst
  refine sv (v := .bool false) henv rfl (rn_assign henv rfl) ?_
  clear henv a; intro a henv
  refine wpList_nil ?_
  refine th_n ?_
  refine wp_seq ?_
  refine region_seq ?_
  revert a
  refine sA (v := .pointer (some ⟨g1, 0, none⟩)) rfl (fun _ henv => rn_fieldAddr henv fd_anvil_anvillaw03_Frac_0 (ty_string.size) (by decide) rfl) ?_
  refine sA (v := .string ⟨s.toArray⟩) rfl (fun _ henv => rn_load1 henv ty_string rfl (hst.oat (k := 1) rfl) rfl) ?_
  intro a henv
  refine seq_step rfl (op_call henv rfl Tryd.call113 rfl (hs _) ?_)
  rintro e w8 ⟨_, rfl, ⟨A5, c6, rfl, hz7⟩, hb⟩
  refine ⟨_, rfl, ?_⟩
  clear henv a; intro a henv
  replace hst := (hst.call hb).addZ hz7 ⟨nou_bk rfl, nou_bk rfl, trivial⟩
  clear hz7
  clear hb
  revert a
  refine mA rfl rfl ?_
  refine sA (v := .agg #[.bool (neg z), .slice A5 (zl z) c6]) rfl (fun _ henv => rn_extract henv rfl rfl) ?_
  refine sA (v := .agg #[.int .i64 ps, .int .i64 qs]) rfl (fun _ henv => rn_extract henv rfl rfl) ?_
  intro a henv
  refine seq_step rfl (op_alloc (c := #[.bool (neg 0), .slice none (zl 0) 0]) henv hst rfl zero_anvil_integer_Int zcells ?_)
  clear henv hst a; intro a w10 g9 henv hst
  refine seq_step rfl (op_alloc (c := #[.int .i64 0, .int .i64 0]) henv hst rfl zero_anvil_api_Spot rfl ?_)
  clear henv hst a; intro a w12 g11 henv hst
  refine seq_step rfl (op_store (k := 1) (c' := #[.bool (neg z), .slice A5 (zl z) c6]) henv hst (ty_anvil_integer_Int.size) rfl rfl rfl rfl (by simp) rfl rfl ?_)
  clear henv hst a; intro a w13 henv hst
  refine seq_step rfl (op_store (k := 0) (c' := #[.int .i64 ps, .int .i64 qs]) henv hst (ty_anvil_api_Spot.size) rfl rfl rfl rfl (by simp) rfl rfl ?_)
  clear henv hst a; intro a w14 henv hst
  refine wpList_nil ?_
  refine th_n ?_
  refine wp_seq ?_
  refine region_seq ?_
  revert a
  refine sA (v := .pointer (some ⟨g1, 1, none⟩)) rfl (fun _ henv => rn_fieldAddr henv fd_anvil_anvillaw03_Frac_1 (ty_string.size) (by decide) rfl) ?_
  refine sA (v := .string ⟨t.toArray⟩) rfl (fun _ henv => rn_load1 henv ty_string rfl (hst.oat (k := 3) rfl) rfl) ?_
  intro a henv
  refine seq_step rfl (op_call henv rfl Tryd.call113 rfl (ht _) ?_)
  rintro e w18 ⟨_, rfl, ⟨A15, c16, rfl, hz17⟩, hb⟩
  refine ⟨_, rfl, ?_⟩
  clear henv a; intro a henv
  replace hst := (hst.call hb).addZ hz17 ⟨nou_bk rfl, nou_bk rfl, nou_bk rfl, nou_bk rfl, trivial⟩
  clear hz17
  clear hb
  revert a
  refine mA rfl rfl ?_
  refine sA (v := .agg #[.bool (neg y), .slice A15 (zl y) c16]) rfl (fun _ henv => rn_extract henv rfl rfl) ?_
  refine sA (v := .agg #[.int .i64 pt, .int .i64 qt]) rfl (fun _ henv => rn_extract henv rfl rfl) ?_
  intro a henv
  refine seq_step rfl (op_alloc (c := #[.bool (neg 0), .slice none (zl 0) 0]) henv hst rfl zero_anvil_integer_Int zcells ?_)
  clear henv hst a; intro a w20 g19 henv hst
  refine seq_step rfl (op_alloc (c := #[.int .i64 0, .int .i64 0]) henv hst rfl zero_anvil_api_Spot rfl ?_)
  clear henv hst a; intro a w22 g21 henv hst
  refine seq_step rfl (op_store (k := 1) (c' := #[.bool (neg y), .slice A15 (zl y) c16]) henv hst (ty_anvil_integer_Int.size) rfl rfl rfl rfl (by simp) rfl rfl ?_)
  clear henv hst a; intro a w23 henv hst
  refine seq_step rfl (op_store (k := 0) (c' := #[.int .i64 pt, .int .i64 qt]) henv hst (ty_anvil_api_Spot.size) rfl rfl rfl rfl (by simp) rfl rfl ?_)
  clear henv hst a; intro a w24 henv hst
  refine wpList_nil ?_
  refine th_n ?_
  refine wp_seq ?_
  refine region_seq ?_
  revert a
  refine sA (v := .agg #[.bool (neg z), .slice A5 (zl z) c6]) rfl (fun _ henv => rn_load0 henv ty_anvil_integer_Int rfl (hst.oat (k := 3) rfl) rfl) ?_
  refine sA (v := .agg #[.bool (neg y), .slice A15 (zl y) c16]) rfl (fun _ henv => rn_load0 henv ty_anvil_integer_Int rfl (hst.oat (k := 1) rfl) rfl) ?_
  intro a henv
  refine seq_step rfl (op_call henv rfl Tryd.call90 rfl (make_qr (p := z) (q := y) (r := Rat.divInt z y) (show ZIn _ A5 c6 z from hst.pat (k := 1) rfl) (show ZIn _ A15 c16 y from hst.pat (k := 0) rfl) (by omega) (by omega) hy0 rfl) ?_)
  rintro e w31 ⟨_, rfl, ⟨A25, c26, B27, d28, rfl, hz29, hz30⟩, hb⟩
  refine ⟨_, rfl, ?_⟩
  clear henv a; intro a henv
  replace hst := ((hst.call hb).addZ hz29 ⟨nou_bk rfl, nou_bk rfl, nou_bk rfl, nou_bk rfl, nou_bk rfl, nou_bk rfl, trivial⟩).addZ hz30 ⟨nou_bk rfl, nou_bk rfl, nou_bk rfl, nou_bk rfl, nou_bk rfl, nou_bk rfl, trivial⟩
  clear hz29 hz30
  clear hb
  revert a
  refine mA rfl rfl ?_
  refine sA (v := .agg #[.bool (neg (qn (Rat.divInt z y))), .slice A25 (zl (qn (Rat.divInt z y))) c26, .bool (neg (ql (Rat.divInt z y))), .slice B27 (zl (ql (Rat.divInt z y))) d28]) rfl (fun _ henv => rn_extract henv rfl rfl) ?_
  refine sA (v := .int .i64 0) rfl (fun _ henv => rn_extract henv rfl rfl) ?_
  intro a henv
  refine seq_step rfl (op_alloc (c := #[.bool (neg (qn 0)), .slice none (zl (qn 0)) 0, .bool (neg (ql 0)), .slice none (zl (ql 0)) 0]) henv hst rfl zero_anvil_ratio_Rat qcells ?_)
  clear henv hst a; intro a w33 g32 henv hst
  refine seq_step rfl (op_store (k := 0) (c' := #[.bool (neg (qn (Rat.divInt z y))), .slice A25 (zl (qn (Rat.divInt z y))) c26, .bool (neg (ql (Rat.divInt z y))), .slice B27 (zl (ql (Rat.divInt z y))) d28]) henv hst (ty_anvil_ratio_Rat.size) rfl rfl rfl rfl (by simp) rfl rfl ?_)
  clear henv hst a; intro a w34 henv hst
  refine sv (v := .int .i64 0) henv rfl (rn_assign henv rfl) ?_
  clear henv a; intro a henv
  refine wpList_nil ?_
  refine th_n ?_
  refine wp_seq ?_
  refine region_seq ?_
  revert a
  refine sA (v := .agg #[.bool (neg (qn (Rat.divInt z y))), .slice A25 (zl (qn (Rat.divInt z y))) c26, .bool (neg (ql (Rat.divInt z y))), .slice B27 (zl (ql (Rat.divInt z y))) d28]) rfl (fun _ henv => rn_load0 henv ty_anvil_ratio_Rat rfl (hst.oat (k := 0) rfl) rfl) ?_
  refine sA (v := .pointer (some ⟨g11, 0, none⟩)) rfl (fun _ henv => rn_fieldAddr henv fd_anvil_api_Spot_0 (ty_anvil_api_Errno.size) (by decide) rfl) ?_
  refine sA (v := .int .i64 ps) rfl (fun _ henv => rn_load1 henv ty_anvil_api_Errno rfl (hst.oat (k := 3) rfl) rfl) ?_
  refine sA (v := .bool (ps == (0 : Int))) rfl (fun _ henv => rn_bin henv rfl rfl rfl) ?_
  intro a henv
  rw [show (ps == (0 : Int)) = true from (beq_iff_eq.2 u1)] at henv
  revert a
  refine mA rfl rfl ?_
  refine gA (v := .pointer (some ⟨g21, 0, none⟩)) rfl rfl rfl rfl (fun _ henv => rn_fieldAddr henv fd_anvil_api_Spot_0 (ty_anvil_api_Errno.size) (by decide) rfl) ?_
  refine gA (v := .int .i64 pt) rfl rfl rfl rfl (fun _ henv => rn_load1 henv ty_anvil_api_Errno rfl (hst.oat (k := 1) rfl) rfl) ?_
  refine gA (v := .bool (pt == (0 : Int))) rfl rfl rfl rfl (fun _ henv => rn_bin henv rfl rfl rfl) ?_
  intro a henv
  rw [show (pt == (0 : Int)) = true from (beq_iff_eq.2 u2)] at henv
  revert a
  refine sA (v := .bool true) rfl (fun _ henv => rn_pick henv rfl rfl) ?_
  refine mA rfl rfl ?_
  refine gA (v := .int .i64 0) rfl rfl rfl rfl (fun _ henv => rn_move henv rfl) ?_
  refine gA (v := .bool true) rfl rfl rfl rfl (fun _ henv => rn_bin henv rfl rfl rfl) ?_
  refine sA (v := .bool true) rfl (fun _ henv => rn_pick henv rfl rfl) ?_
  intro a henv
  refine seq_step rfl (op_store (k := 5) (c' := #[.bool (neg (qn (Rat.divInt z y))), .slice A25 (zl (qn (Rat.divInt z y))) c26, .bool (neg (ql (Rat.divInt z y))), .slice B27 (zl (ql (Rat.divInt z y))) d28]) henv hst (ty_anvil_ratio_Rat.size) rfl rfl rfl rfl (by simp) rfl rfl ?_)
  clear henv hst a; intro a w35 henv hst
  refine sv (v := .bool true) henv rfl (rn_assign henv rfl) ?_
  clear henv a; intro a henv
  refine wpList_nil ?_
  refine th_n ?_
  refine wp_ret ?_
  refine leave henv (res2 Tryd.results87 (RV.cell henv ty_anvil_ratio_Rat rfl (hst.oat (k := 5) rfl) rfl) (RV.tmp henv rfl)) ?_
  exact ⟨_, rfl, q_at rfl rfl (hst.pat (k := 1) rfl) (hst.pat (k := 0) rfl), hst.below⟩
def AlAs (s t : List UInt8) (x : Rat) (o : Bool) : Prop := ∀ w0 : World,
    Calls Tryd.prog 87 #[.agg #[.string ⟨s.toArray⟩, .string ⟨t.toArray⟩]] w0 fun e w' => ∃ v, e = .returned (.tuple #[v, .bool o]) ∧ QAt w' v x ∧ Below w0.heap.size w0 w'
theorem alone_any {s t : List UInt8} (h1 : s.length ≤ maxLen) (h2 : t.length ≤ maxLen) : ∃ x o, AlAs s t x o ∧ (¬ Lg (s, t) → Qs 400 x) := by
  obtain ⟨z, ps, qs, hs, bz, bz2⟩ := ird_any s h1
  obtain ⟨y, pt, qt, ht, by_, by2⟩ := ird_any t h2
  by_cases hy0 : y = 0
  · by_cases u1 : ps = 0
    · by_cases u2 : pt = 0
      · exact ⟨_, _, fun w0 => alone_z1 hs ht bz by_ u1 u2 hy0, fun _ => Qs.mono qs_zero (by decide)⟩
      · exact ⟨_, _, fun w0 => alone_b1 hs ht bz by_ u1 u2 hy0, fun _ => Qs.mono qs_zero (by decide)⟩
    · exact ⟨_, _, fun w0 => alone_a1 hs ht bz by_ u1 hy0, fun _ => Qs.mono qs_zero (by decide)⟩
  · have hq : ¬ Lg (s, t) → Qs 400 (Rat.divInt z y) := fun hl => qs_make (bz2 (Nat.not_lt.1 fun h => hl (.inl h))) (by2 (Nat.not_lt.1 fun h => hl (.inr h))) hy0
    by_cases u1 : ps = 0
    · by_cases u2 : pt = 0
      · exact ⟨_, _, fun w0 => alone_ok0 hs ht bz by_ u1 u2 hy0, hq⟩
      · exact ⟨_, _, fun w0 => alone_b0 hs ht bz by_ u1 u2 hy0, hq⟩
    · exact ⟨_, _, fun w0 => alone_a0 hs ht bz by_ u1 hy0, hq⟩
set_option maxRecDepth 100000 in
set_option maxHeartbeats 4000000 in
theorem three_f1 {s1 t1 s2 t2 s3 t3 : List UInt8} {x y z : Rat} {o2 o3 : Bool} {w0 : World} (f1 : AlAs s1 t1 x false) (f2 : AlAs s2 t2 y o2) (f3 : AlAs s3 t3 z o3) :
    Calls Tryd.prog 56 #[.agg #[.string ⟨s1.toArray⟩, .string ⟨t1.toArray⟩], .agg #[.string ⟨s2.toArray⟩, .string ⟨t2.toArray⟩], .agg #[.string ⟨s3.toArray⟩, .string ⟨t3.toArray⟩]] w0 fun e w' => ∃ v1 v2 v3, e = .returned (.tuple #[v1, v2, v3, .bool false]) ∧ QAt w' v1 x ∧ QAt w' v2 y ∧ QAt w' v3 z ∧ Below w0.heap.size w0 w' := by
  refine enter Tryd.func56 rfl Tryd.ntmps56 rfl ?_
  intro a henv hst
  refine wp_seq ?_
  refine region_seq ?_
  refine seq_step rfl (op_box (c := #[.string ⟨s1.toArray⟩, .string ⟨t1.toArray⟩]) henv hst rfl rfl rfl ?_)
  clear henv hst a; intro a w2 g1 henv hst
  refine seq_step rfl (op_box (c := #[.string ⟨s2.toArray⟩, .string ⟨t2.toArray⟩]) henv hst rfl rfl rfl ?_)
  clear henv hst a; intro a w4 g3 henv hst
  refine seq_step rfl (op_box (c := #[.string ⟨s3.toArray⟩, .string ⟨t3.toArray⟩]) henv hst rfl rfl rfl ?_)
  clear henv hst a; intro a w6 g5 henv hst
  refine seq_step rfl (op_alloc (c := #[.bool (neg (qn 0)), .slice none (zl (qn 0)) 0, .bool (neg (ql 0)), .slice none (zl (ql 0)) 0]) henv hst rfl zero_anvil_ratio_Rat qcells ?_)
  clear henv hst a; intro a w8 g7 henv hst
  refine seq_step rfl (op_alloc (c := #[.bool (neg (qn 0)), .slice none (zl (qn 0)) 0, .bool (neg (ql 0)), .slice none (zl (ql 0)) 0]) henv hst rfl zero_anvil_ratio_Rat qcells ?_)
  clear henv hst a; intro a w10 g9 henv hst
  refine seq_step rfl (op_alloc (c := #[.bool (neg (qn 0)), .slice none (zl (qn 0)) 0, .bool (neg (ql 0)), .slice none (zl (ql 0)) 0]) henv hst rfl zero_anvil_ratio_Rat qcells ?_)
  clear henv hst a; intro a w12 g11 henv hst
  refine sv (v := .bool false) henv rfl (rn_assign henv rfl) ?_
  clear henv a; intro a henv
  refine wpList_nil ?_
  refine th_n ?_
  refine wp_seq ?_
  refine region_seq ?_
  refine sv (v := .agg #[.string ⟨s1.toArray⟩, .string ⟨t1.toArray⟩]) henv rfl (rn_load0 henv ty_anvil_anvillaw03_Frac rfl (hst.oat (k := 5) rfl) rfl) ?_
  clear henv a; intro a henv
  refine seq_step rfl (op_call henv rfl Tryd.call87 rfl (f1 _) ?_)
  rintro e w19 ⟨_, rfl, ⟨A13, c14, B15, d16, rfl, hz17, hz18⟩, hb⟩
  refine ⟨_, rfl, ?_⟩
  clear henv a; intro a henv
  replace hst := ((hst.call hb).addZ hz17 ⟨nou_bk rfl, nou_bk rfl, nou_bk rfl, nou_bk rfl, nou_bk rfl, nou_bk rfl, trivial⟩).addZ hz18 ⟨nou_bk rfl, nou_bk rfl, nou_bk rfl, nou_bk rfl, nou_bk rfl, nou_bk rfl, trivial⟩
  clear hz17 hz18
  clear hb
  revert a
  refine mA rfl rfl ?_
  refine sA (v := .agg #[.bool (neg (qn x)), .slice A13 (zl (qn x)) c14, .bool (neg (ql x)), .slice B15 (zl (ql x)) d16]) rfl (fun _ henv => rn_extract henv rfl rfl) ?_
  refine sA (v := .bool false) rfl (fun _ henv => rn_extract henv rfl rfl) ?_
  intro a henv
  refine seq_step rfl (op_alloc (c := #[.bool (neg (qn 0)), .slice none (zl (qn 0)) 0, .bool (neg (ql 0)), .slice none (zl (ql 0)) 0]) henv hst rfl zero_anvil_ratio_Rat qcells ?_)
  clear henv hst a; intro a w21 g20 henv hst
  refine seq_step rfl (op_store (k := 0) (c' := #[.bool (neg (qn x)), .slice A13 (zl (qn x)) c14, .bool (neg (ql x)), .slice B15 (zl (ql x)) d16]) henv hst (ty_anvil_ratio_Rat.size) rfl rfl rfl rfl (by simp) rfl rfl ?_)
  clear henv hst a; intro a w22 henv hst
  refine sv (v := .bool false) henv rfl (rn_assign henv rfl) ?_
  clear henv a; intro a henv
  refine wpList_nil ?_
  refine th_n ?_
  refine wp_seq ?_
  refine region_seq ?_
  refine sv (v := .agg #[.string ⟨s2.toArray⟩, .string ⟨t2.toArray⟩]) henv rfl (rn_load0 henv ty_anvil_anvillaw03_Frac rfl (hst.oat (k := 5) rfl) rfl) ?_
  clear henv a; intro a henv
  refine seq_step rfl (op_call henv rfl Tryd.call87 rfl (f2 _) ?_)
  rintro e w29 ⟨_, rfl, ⟨A23, c24, B25, d26, rfl, hz27, hz28⟩, hb⟩
  refine ⟨_, rfl, ?_⟩
  clear henv a; intro a henv
  replace hst := ((hst.call hb).addZ hz27 ⟨nou_bk rfl, nou_bk rfl, nou_bk rfl, nou_bk rfl, nou_bk rfl, nou_bk rfl, nou_bk rfl, trivial⟩).addZ hz28 ⟨nou_bk rfl, nou_bk rfl, nou_bk rfl, nou_bk rfl, nou_bk rfl, nou_bk rfl, nou_bk rfl, trivial⟩
  clear hz27 hz28
  clear hb
  revert a
  refine mA rfl rfl ?_
  refine sA (v := .agg #[.bool (neg (qn y)), .slice A23 (zl (qn y)) c24, .bool (neg (ql y)), .slice B25 (zl (ql y)) d26]) rfl (fun _ henv => rn_extract henv rfl rfl) ?_
  refine sA (v := .bool o2) rfl (fun _ henv => rn_extract henv rfl rfl) ?_
  intro a henv
  refine seq_step rfl (op_alloc (c := #[.bool (neg (qn 0)), .slice none (zl (qn 0)) 0, .bool (neg (ql 0)), .slice none (zl (ql 0)) 0]) henv hst rfl zero_anvil_ratio_Rat qcells ?_)
  clear henv hst a; intro a w31 g30 henv hst
  refine seq_step rfl (op_store (k := 0) (c' := #[.bool (neg (qn y)), .slice A23 (zl (qn y)) c24, .bool (neg (ql y)), .slice B25 (zl (ql y)) d26]) henv hst (ty_anvil_ratio_Rat.size) rfl rfl rfl rfl (by simp) rfl rfl ?_)
  clear henv hst a; intro a w32 henv hst
  refine sv (v := .bool o2) henv rfl (rn_assign henv rfl) ?_
  clear henv a; intro a henv
  refine wpList_nil ?_
  refine th_n ?_
  refine wp_seq ?_
  refine region_seq ?_
  refine sv (v := .agg #[.string ⟨s3.toArray⟩, .string ⟨t3.toArray⟩]) henv rfl (rn_load0 henv ty_anvil_anvillaw03_Frac rfl (hst.oat (k := 5) rfl) rfl) ?_
  clear henv a; intro a henv
  refine seq_step rfl (op_call henv rfl Tryd.call87 rfl (f3 _) ?_)
  rintro e w39 ⟨_, rfl, ⟨A33, c34, B35, d36, rfl, hz37, hz38⟩, hb⟩
  refine ⟨_, rfl, ?_⟩
  clear henv a; intro a henv
  replace hst := ((hst.call hb).addZ hz37 ⟨nou_bk rfl, nou_bk rfl, nou_bk rfl, nou_bk rfl, nou_bk rfl, nou_bk rfl, nou_bk rfl, nou_bk rfl, trivial⟩).addZ hz38 ⟨nou_bk rfl, nou_bk rfl, nou_bk rfl, nou_bk rfl, nou_bk rfl, nou_bk rfl, nou_bk rfl, nou_bk rfl, trivial⟩
  clear hz37 hz38
  clear hb
  revert a
  refine mA rfl rfl ?_
  refine sA (v := .agg #[.bool (neg (qn z)), .slice A33 (zl (qn z)) c34, .bool (neg (ql z)), .slice B35 (zl (ql z)) d36]) rfl (fun _ henv => rn_extract henv rfl rfl) ?_
  refine sA (v := .bool o3) rfl (fun _ henv => rn_extract henv rfl rfl) ?_
  intro a henv
  refine seq_step rfl (op_alloc (c := #[.bool (neg (qn 0)), .slice none (zl (qn 0)) 0, .bool (neg (ql 0)), .slice none (zl (ql 0)) 0]) henv hst rfl zero_anvil_ratio_Rat qcells ?_)
  clear henv hst a; intro a w41 g40 henv hst
  refine seq_step rfl (op_store (k := 0) (c' := #[.bool (neg (qn z)), .slice A33 (zl (qn z)) c34, .bool (neg (ql z)), .slice B35 (zl (ql z)) d36]) henv hst (ty_anvil_ratio_Rat.size) rfl rfl rfl rfl (by simp) rfl rfl ?_)
  clear henv hst a; intro a w42 henv hst
  refine sv (v := .bool o3) henv rfl (rn_assign henv rfl) ?_
  clear henv a; intro a henv
  refine wpList_nil ?_
  refine th_n ?_
  refine wp_seq ?_
  refine region_any (n := 22) (Sk [bk g40 #[.bool (neg (qn z)), .slice A33 (zl (qn z)) c34, .bool (neg (ql z)), .slice B35 (zl (ql z)) d36] 91, bk g30 #[.bool (neg (qn y)), .slice A23 (zl (qn y)) c24, .bool (neg (ql y)), .slice B25 (zl (ql y)) d26] 91, bk g20 #[.bool (neg (qn x)), .slice A13 (zl (qn x)) c14, .bool (neg (ql x)), .slice B15 (zl (ql x)) d16] 91, bk g5 #[.string ⟨s3.toArray⟩, .string ⟨t3.toArray⟩] 89, bk g3 #[.string ⟨s2.toArray⟩, .string ⟨t2.toArray⟩] 89, bk g1 #[.string ⟨s1.toArray⟩, .string ⟨t1.toArray⟩] 89] [pfZ B35 d36 (ql z), pfZ A33 c34 (qn z), pfZ B25 d26 (ql y), pfZ A23 c24 (qn y), pfZ B15 d16 (ql x), pfZ A13 c14 (qn x)] [18, 19, 20] []) mixed rfl henv hst ?_
  clear henv hst; intro w43 henv hst
  refine tL (i := 0) 2 2 (rg 18 4) rfl (by kernel_rfl) (fun _ _ _ h => h) henv rfl ty_anvil_ratio_Rat rfl hst rfl rfl rfl ?_
  clear henv a; intro a henv
  refine tL (i := 1) 1 1 [19, 20, 21] rfl (by kernel_rfl) (fun _ _ _ h => h) henv rfl ty_anvil_ratio_Rat rfl hst rfl rfl rfl ?_
  clear henv a; intro a henv
  refine tL (i := 2) 0 0 [20, 21] rfl (by kernel_rfl) (fun _ _ _ h => h) henv rfl ty_anvil_ratio_Rat rfl hst rfl rfl rfl ?_
  clear henv a; intro a henv
  refine tM (i := 3) (rg 4 18) rfl (by kernel_rfl) (fun _ _ _ h => h) henv rfl rfl ?_
  clear henv a; intro a henv
  refine tM (i := 4) (rg 5 17) rfl (by kernel_rfl) (fun _ _ _ h => h) henv rfl rfl ?_
  clear henv a; intro a henv
  refine sAny_skipg (i := 5) [6, 7, 8, 9, 10, 11, 12, 13, 14, 15, 16, 17, 18, 19, 20, 21] rfl (by kernel_rfl) (fun _ _ _ h => h) henv rfl rfl rfl rfl rfl ?_
  clear henv a; intro a henv
  refine tA (i := 6) (rg 7 15) (v := .bool false) rfl (by kernel_rfl) (fun _ _ _ h => h) henv rfl (fun _ => rn_pick henv rfl rfl) ?_
  clear henv a; intro a henv
  refine tM (i := 7) (rg 8 14) rfl (by kernel_rfl) (fun _ _ _ h => h) henv rfl rfl ?_
  clear henv a; intro a henv
  refine sAny_skipg (i := 8) [9, 10, 11, 12, 13, 14, 15, 16, 17, 18, 19, 20, 21] rfl (by kernel_rfl) (fun _ _ _ h => h) henv rfl rfl rfl rfl rfl ?_
  clear henv a; intro a henv
  refine tA (i := 9) (rg 10 12) (v := .bool false) rfl (by kernel_rfl) (fun _ _ _ h => h) henv rfl (fun _ => rn_pick henv rfl rfl) ?_
  clear henv a; intro a henv
  refine tM (i := 10) (rg 11 11) rfl (by kernel_rfl) (fun _ _ _ h => h) henv rfl rfl ?_
  clear henv a; intro a henv
  refine sAny_skipg (i := 11) [14, 15, 16, 17, 18, 19, 20, 21] rfl (by kernel_rfl) (fun _ _ _ h => h) henv rfl rfl rfl rfl rfl ?_
  clear henv a; intro a henv
  refine sAny_skipg (i := 12) [14, 15, 16, 17, 18, 19, 20, 21] rfl (by kernel_rfl) (fun _ _ _ h => h) henv rfl rfl rfl rfl rfl ?_
  clear henv a; intro a henv
  refine sAny_skipg (i := 13) [14, 15, 16, 17, 18, 19, 20, 21] rfl (by kernel_rfl) (fun _ _ _ h => h) henv rfl rfl rfl rfl rfl ?_
  clear henv a; intro a henv
  refine sAny_skipg (i := 14) [15, 16, 17, 18, 19, 20, 21] rfl (by kernel_rfl) (fun _ _ _ h => h) henv rfl rfl rfl rfl rfl ?_
  clear henv a; intro a henv
  refine sAny_skipg (i := 15) [16, 17, 18, 19, 20, 21] rfl (by kernel_rfl) (fun _ _ _ h => h) henv rfl rfl rfl rfl rfl ?_
  clear henv a; intro a henv
  refine sAny_skipg (i := 16) [17, 21] rfl (by kernel_rfl) (fun _ _ _ h => h) henv rfl rfl rfl rfl rfl ?_
  clear henv a; intro a henv
  refine tA (i := 17) [21] (v := .bool false) rfl (by kernel_rfl) (fun _ _ _ h => h) henv rfl (fun _ => rn_pick henv rfl rfl) ?_
  clear henv a; intro a henv
  refine sAny_one (i := 18) (by kernel_rfl) rfl rfl (op_store (k := 5) (c' := #[.bool (neg (qn x)), .slice A13 (zl (qn x)) c14, .bool (neg (ql x)), .slice B15 (zl (ql x)) d16]) henv hst (ty_anvil_ratio_Rat.size) rfl rfl rfl rfl (by simp) rfl rfl ?_)
  clear henv hst a; intro a w44 henv hst
  refine ⟨.inr ⟨hst.kn.pick [0, 1, 2, 6, 7, 8] (rg 0 6), .inl rfl⟩, ?_⟩
  refine sAny_one (i := 19) (by kernel_rfl) rfl rfl (op_store (k := 4) (c' := #[.bool (neg (qn y)), .slice A23 (zl (qn y)) c24, .bool (neg (ql y)), .slice B25 (zl (ql y)) d26]) henv hst (ty_anvil_ratio_Rat.size) rfl rfl rfl rfl (by simp) rfl rfl ?_)
  clear henv hst a; intro a w45 henv hst
  refine ⟨.inr ⟨hst.kn.pick [0, 1, 2, 6, 7, 8] (rg 0 6), .inl rfl⟩, ?_⟩
  refine sAny_one (i := 20) (by kernel_rfl) rfl rfl (op_store (k := 3) (c' := #[.bool (neg (qn z)), .slice A33 (zl (qn z)) c34, .bool (neg (ql z)), .slice B35 (zl (ql z)) d36]) henv hst (ty_anvil_ratio_Rat.size) rfl rfl rfl rfl (by simp) rfl rfl ?_)
  clear henv hst a; intro a w46 henv hst
  refine ⟨.inr ⟨hst.kn.pick [0, 1, 2, 6, 7, 8] (rg 0 6), .inl rfl⟩, ?_⟩
  refine tA (i := 21) [] (v := .bool false) rfl (by kernel_rfl) (fun _ _ _ h => h) henv rfl (fun _ => rn_assign henv rfl) ?_
  clear henv a; intro a henv
  refine sAny_done (by kernel_rfl) ?_ _
  refine th_n ?_
  refine wp_ret ?_
  refine leave henv (res4 Tryd.results56 (RV.cell henv ty_anvil_ratio_Rat rfl (hst.oat (k := 5) rfl) rfl) (RV.cell henv ty_anvil_ratio_Rat rfl (hst.oat (k := 4) rfl) rfl) (RV.cell henv ty_anvil_ratio_Rat rfl (hst.oat (k := 3) rfl) rfl) (RV.tmp henv rfl)) ?_
  exact ⟨_, _, _, rfl, q_at rfl rfl (hst.pat (k := 5) rfl) (hst.pat (k := 4) rfl), q_at rfl rfl (hst.pat (k := 3) rfl) (hst.pat (k := 2) rfl), q_at rfl rfl (hst.pat (k := 1) rfl) (hst.pat (k := 0) rfl), hst.below⟩
set_option maxRecDepth 100000 in
set_option maxHeartbeats 4000000 in
theorem three_f2 {s1 t1 s2 t2 s3 t3 : List UInt8} {x y z : Rat} {o3 : Bool} {w0 : World} (f1 : AlAs s1 t1 x true) (f2 : AlAs s2 t2 y false) (f3 : AlAs s3 t3 z o3) :
    Calls Tryd.prog 56 #[.agg #[.string ⟨s1.toArray⟩, .string ⟨t1.toArray⟩], .agg #[.string ⟨s2.toArray⟩, .string ⟨t2.toArray⟩], .agg #[.string ⟨s3.toArray⟩, .string ⟨t3.toArray⟩]] w0 fun e w' => ∃ v1 v2 v3, e = .returned (.tuple #[v1, v2, v3, .bool false]) ∧ QAt w' v1 x ∧ QAt w' v2 y ∧ QAt w' v3 z ∧ Below w0.heap.size w0 w' := by
  refine enter Tryd.func56 rfl Tryd.ntmps56 rfl ?_
  intro a henv hst
  refine wp_seq ?_
  refine region_seq ?_
  refine seq_step rfl (op_box (c := #[.string ⟨s1.toArray⟩, .string ⟨t1.toArray⟩]) henv hst rfl rfl rfl ?_)
  clear henv hst a; intro a w2 g1 henv hst
  refine seq_step rfl (op_box (c := #[.string ⟨s2.toArray⟩, .string ⟨t2.toArray⟩]) henv hst rfl rfl rfl ?_)
  clear henv hst a; intro a w4 g3 henv hst
  refine seq_step rfl (op_box (c := #[.string ⟨s3.toArray⟩, .string ⟨t3.toArray⟩]) henv hst rfl rfl rfl ?_)
  clear henv hst a; intro a w6 g5 henv hst
  refine seq_step rfl (op_alloc (c := #[.bool (neg (qn 0)), .slice none (zl (qn 0)) 0, .bool (neg (ql 0)), .slice none (zl (ql 0)) 0]) henv hst rfl zero_anvil_ratio_Rat qcells ?_)
  clear henv hst a; intro a w8 g7 henv hst
  refine seq_step rfl (op_alloc (c := #[.bool (neg (qn 0)), .slice none (zl (qn 0)) 0, .bool (neg (ql 0)), .slice none (zl (ql 0)) 0]) henv hst rfl zero_anvil_ratio_Rat qcells ?_)
  clear henv hst a; intro a w10 g9 henv hst
  refine seq_step rfl (op_alloc (c := #[.bool (neg (qn 0)), .slice none (zl (qn 0)) 0, .bool (neg (ql 0)), .slice none (zl (ql 0)) 0]) henv hst rfl zero_anvil_ratio_Rat qcells ?_)
  clear henv hst a; intro a w12 g11 henv hst
  refine sv (v := .bool false) henv rfl (rn_assign henv rfl) ?_
  clear henv a; intro a henv
  refine wpList_nil ?_
  refine th_n ?_
  refine wp_seq ?_
  refine region_seq ?_
  refine sv (v := .agg #[.string ⟨s1.toArray⟩, .string ⟨t1.toArray⟩]) henv rfl (rn_load0 henv ty_anvil_anvillaw03_Frac rfl (hst.oat (k := 5) rfl) rfl) ?_
  clear henv a; intro a henv
  refine seq_step rfl (op_call henv rfl Tryd.call87 rfl (f1 _) ?_)
  rintro e w19 ⟨_, rfl, ⟨A13, c14, B15, d16, rfl, hz17, hz18⟩, hb⟩
  refine ⟨_, rfl, ?_⟩
  clear henv a; intro a henv
  replace hst := ((hst.call hb).addZ hz17 ⟨nou_bk rfl, nou_bk rfl, nou_bk rfl, nou_bk rfl, nou_bk rfl, nou_bk rfl, trivial⟩).addZ hz18 ⟨nou_bk rfl, nou_bk rfl, nou_bk rfl, nou_bk rfl, nou_bk rfl, nou_bk rfl, trivial⟩
  clear hz17 hz18
  clear hb
  revert a
  refine mA rfl rfl ?_
  refine sA (v := .agg #[.bool (neg (qn x)), .slice A13 (zl (qn x)) c14, .bool (neg (ql x)), .slice B15 (zl (ql x)) d16]) rfl (fun _ henv => rn_extract henv rfl rfl) ?_
  refine sA (v := .bool true) rfl (fun _ henv => rn_extract henv rfl rfl) ?_
  intro a henv
  refine seq_step rfl (op_alloc (c := #[.bool (neg (qn 0)), .slice none (zl (qn 0)) 0, .bool (neg (ql 0)), .slice none (zl (ql 0)) 0]) henv hst rfl zero_anvil_ratio_Rat qcells ?_)
  clear henv hst a; intro a w21 g20 henv hst
  refine seq_step rfl (op_store (k := 0) (c' := #[.bool (neg (qn x)), .slice A13 (zl (qn x)) c14, .bool (neg (ql x)), .slice B15 (zl (ql x)) d16]) henv hst (ty_anvil_ratio_Rat.size) rfl rfl rfl rfl (by simp) rfl rfl ?_)
  clear henv hst a; intro a w22 henv hst
  refine sv (v := .bool true) henv rfl (rn_assign henv rfl) ?_
  clear henv a; intro a henv
  refine wpList_nil ?_
  refine th_n ?_
  refine wp_seq ?_
  refine region_seq ?_
  refine sv (v := .agg #[.string ⟨s2.toArray⟩, .string ⟨t2.toArray⟩]) henv rfl (rn_load0 henv ty_anvil_anvillaw03_Frac rfl (hst.oat (k := 5) rfl) rfl) ?_
  clear henv a; intro a henv
  refine seq_step rfl (op_call henv rfl Tryd.call87 rfl (f2 _) ?_)
  rintro e w29 ⟨_, rfl, ⟨A23, c24, B25, d26, rfl, hz27, hz28⟩, hb⟩
  refine ⟨_, rfl, ?_⟩
  clear henv a; intro a henv
  replace hst := ((hst.call hb).addZ hz27 ⟨nou_bk rfl, nou_bk rfl, nou_bk rfl, nou_bk rfl, nou_bk rfl, nou_bk rfl, nou_bk rfl, trivial⟩).addZ hz28 ⟨nou_bk rfl, nou_bk rfl, nou_bk rfl, nou_bk rfl, nou_bk rfl, nou_bk rfl, nou_bk rfl, trivial⟩
  clear hz27 hz28
  clear hb
  revert a
  refine mA rfl rfl ?_
  refine sA (v := .agg #[.bool (neg (qn y)), .slice A23 (zl (qn y)) c24, .bool (neg (ql y)), .slice B25 (zl (ql y)) d26]) rfl (fun _ henv => rn_extract henv rfl rfl) ?_
  refine sA (v := .bool false) rfl (fun _ henv => rn_extract henv rfl rfl) ?_
  intro a henv
  refine seq_step rfl (op_alloc (c := #[.bool (neg (qn 0)), .slice none (zl (qn 0)) 0, .bool (neg (ql 0)), .slice none (zl (ql 0)) 0]) henv hst rfl zero_anvil_ratio_Rat qcells ?_)
  clear henv hst a; intro a w31 g30 henv hst
  refine seq_step rfl (op_store (k := 0) (c' := #[.bool (neg (qn y)), .slice A23 (zl (qn y)) c24, .bool (neg (ql y)), .slice B25 (zl (ql y)) d26]) henv hst (ty_anvil_ratio_Rat.size) rfl rfl rfl rfl (by simp) rfl rfl ?_)
  clear henv hst a; intro a w32 henv hst
  refine sv (v := .bool false) henv rfl (rn_assign henv rfl) ?_
  clear henv a; intro a henv
  refine wpList_nil ?_
  refine th_n ?_
  refine wp_seq ?_
  refine region_seq ?_
  refine sv (v := .agg #[.string ⟨s3.toArray⟩, .string ⟨t3.toArray⟩]) henv rfl (rn_load0 henv ty_anvil_anvillaw03_Frac rfl (hst.oat (k := 5) rfl) rfl) ?_
  clear henv a; intro a henv
  refine seq_step rfl (op_call henv rfl Tryd.call87 rfl (f3 _) ?_)
  rintro e w39 ⟨_, rfl, ⟨A33, c34, B35, d36, rfl, hz37, hz38⟩, hb⟩
  refine ⟨_, rfl, ?_⟩
  clear henv a; intro a henv
  replace hst := ((hst.call hb).addZ hz37 ⟨nou_bk rfl, nou_bk rfl, nou_bk rfl, nou_bk rfl, nou_bk rfl, nou_bk rfl, nou_bk rfl, nou_bk rfl, trivial⟩).addZ hz38 ⟨nou_bk rfl, nou_bk rfl, nou_bk rfl, nou_bk rfl, nou_bk rfl, nou_bk rfl, nou_bk rfl, nou_bk rfl, trivial⟩
  clear hz37 hz38
  clear hb
  revert a
  refine mA rfl rfl ?_
  refine sA (v := .agg #[.bool (neg (qn z)), .slice A33 (zl (qn z)) c34, .bool (neg (ql z)), .slice B35 (zl (ql z)) d36]) rfl (fun _ henv => rn_extract henv rfl rfl) ?_
  refine sA (v := .bool o3) rfl (fun _ henv => rn_extract henv rfl rfl) ?_
  intro a henv
  refine seq_step rfl (op_alloc (c := #[.bool (neg (qn 0)), .slice none (zl (qn 0)) 0, .bool (neg (ql 0)), .slice none (zl (ql 0)) 0]) henv hst rfl zero_anvil_ratio_Rat qcells ?_)
  clear henv hst a; intro a w41 g40 henv hst
  refine seq_step rfl (op_store (k := 0) (c' := #[.bool (neg (qn z)), .slice A33 (zl (qn z)) c34, .bool (neg (ql z)), .slice B35 (zl (ql z)) d36]) henv hst (ty_anvil_ratio_Rat.size) rfl rfl rfl rfl (by simp) rfl rfl ?_)
  clear henv hst a; intro a w42 henv hst
  refine sv (v := .bool o3) henv rfl (rn_assign henv rfl) ?_
  clear henv a; intro a henv
  refine wpList_nil ?_
  refine th_n ?_
  refine wp_seq ?_
  refine region_any (n := 22) (Sk [bk g40 #[.bool (neg (qn z)), .slice A33 (zl (qn z)) c34, .bool (neg (ql z)), .slice B35 (zl (ql z)) d36] 91, bk g30 #[.bool (neg (qn y)), .slice A23 (zl (qn y)) c24, .bool (neg (ql y)), .slice B25 (zl (ql y)) d26] 91, bk g20 #[.bool (neg (qn x)), .slice A13 (zl (qn x)) c14, .bool (neg (ql x)), .slice B15 (zl (ql x)) d16] 91, bk g5 #[.string ⟨s3.toArray⟩, .string ⟨t3.toArray⟩] 89, bk g3 #[.string ⟨s2.toArray⟩, .string ⟨t2.toArray⟩] 89, bk g1 #[.string ⟨s1.toArray⟩, .string ⟨t1.toArray⟩] 89] [pfZ B35 d36 (ql z), pfZ A33 c34 (qn z), pfZ B25 d26 (ql y), pfZ A23 c24 (qn y), pfZ B15 d16 (ql x), pfZ A13 c14 (qn x)] [18, 19, 20] []) mixed rfl henv hst ?_
  clear henv hst; intro w43 henv hst
  refine tL (i := 0) 2 2 (rg 18 4) rfl (by kernel_rfl) (fun _ _ _ h => h) henv rfl ty_anvil_ratio_Rat rfl hst rfl rfl rfl ?_
  clear henv a; intro a henv
  refine tL (i := 1) 1 1 [19, 20, 21] rfl (by kernel_rfl) (fun _ _ _ h => h) henv rfl ty_anvil_ratio_Rat rfl hst rfl rfl rfl ?_
  clear henv a; intro a henv
  refine tL (i := 2) 0 0 [20, 21] rfl (by kernel_rfl) (fun _ _ _ h => h) henv rfl ty_anvil_ratio_Rat rfl hst rfl rfl rfl ?_
  clear henv a; intro a henv
  refine tM (i := 3) (rg 4 18) rfl (by kernel_rfl) (fun _ _ _ h => h) henv rfl rfl ?_
  clear henv a; intro a henv
  refine tM (i := 4) (rg 5 17) rfl (by kernel_rfl) (fun _ _ _ h => h) henv rfl rfl ?_
  clear henv a; intro a henv
  refine tAg (i := 5) (rg 6 16) (v := .bool false) rfl (by kernel_rfl) (fun _ _ _ h => h) henv rfl rfl rfl rfl (fun _ => rn_move henv rfl) ?_
  clear henv a; intro a henv
  refine tA (i := 6) (rg 7 15) (v := .bool false) rfl (by kernel_rfl) (fun _ _ _ h => h) henv rfl (fun _ => rn_pick henv rfl rfl) ?_
  clear henv a; intro a henv
  refine tM (i := 7) (rg 8 14) rfl (by kernel_rfl) (fun _ _ _ h => h) henv rfl rfl ?_
  clear henv a; intro a henv
  refine sAny_skipg (i := 8) [9, 10, 11, 12, 13, 14, 15, 16, 17, 18, 19, 20, 21] rfl (by kernel_rfl) (fun _ _ _ h => h) henv rfl rfl rfl rfl rfl ?_
  clear henv a; intro a henv
  refine tA (i := 9) (rg 10 12) (v := .bool false) rfl (by kernel_rfl) (fun _ _ _ h => h) henv rfl (fun _ => rn_pick henv rfl rfl) ?_
  clear henv a; intro a henv
  refine tM (i := 10) (rg 11 11) rfl (by kernel_rfl) (fun _ _ _ h => h) henv rfl rfl ?_
  clear henv a; intro a henv
  refine sAny_skipg (i := 11) [14, 15, 16, 17, 18, 19, 20, 21] rfl (by kernel_rfl) (fun _ _ _ h => h) henv rfl rfl rfl rfl rfl ?_
  clear henv a; intro a henv
  refine sAny_skipg (i := 12) [14, 15, 16, 17, 18, 19, 20, 21] rfl (by kernel_rfl) (fun _ _ _ h => h) henv rfl rfl rfl rfl rfl ?_
  clear henv a; intro a henv
  refine sAny_skipg (i := 13) [14, 15, 16, 17, 18, 19, 20, 21] rfl (by kernel_rfl) (fun _ _ _ h => h) henv rfl rfl rfl rfl rfl ?_
  clear henv a; intro a henv
  refine sAny_skipg (i := 14) [15, 16, 17, 18, 19, 20, 21] rfl (by kernel_rfl) (fun _ _ _ h => h) henv rfl rfl rfl rfl rfl ?_
  clear henv a; intro a henv
  refine sAny_skipg (i := 15) [16, 17, 18, 19, 20, 21] rfl (by kernel_rfl) (fun _ _ _ h => h) henv rfl rfl rfl rfl rfl ?_
  clear henv a; intro a henv
  refine sAny_skipg (i := 16) [17, 21] rfl (by kernel_rfl) (fun _ _ _ h => h) henv rfl rfl rfl rfl rfl ?_
  clear henv a; intro a henv
  refine tA (i := 17) [21] (v := .bool false) rfl (by kernel_rfl) (fun _ _ _ h => h) henv rfl (fun _ => rn_pick henv rfl rfl) ?_
  clear henv a; intro a henv
  refine sAny_one (i := 18) (by kernel_rfl) rfl rfl (op_store (k := 5) (c' := #[.bool (neg (qn x)), .slice A13 (zl (qn x)) c14, .bool (neg (ql x)), .slice B15 (zl (ql x)) d16]) henv hst (ty_anvil_ratio_Rat.size) rfl rfl rfl rfl (by simp) rfl rfl ?_)
  clear henv hst a; intro a w44 henv hst
  refine ⟨.inr ⟨hst.kn.pick [0, 1, 2, 6, 7, 8] (rg 0 6), .inl rfl⟩, ?_⟩
  refine sAny_one (i := 19) (by kernel_rfl) rfl rfl (op_store (k := 4) (c' := #[.bool (neg (qn y)), .slice A23 (zl (qn y)) c24, .bool (neg (ql y)), .slice B25 (zl (ql y)) d26]) henv hst (ty_anvil_ratio_Rat.size) rfl rfl rfl rfl (by simp) rfl rfl ?_)
  clear henv hst a; intro a w45 henv hst
  refine ⟨.inr ⟨hst.kn.pick [0, 1, 2, 6, 7, 8] (rg 0 6), .inl rfl⟩, ?_⟩
  refine sAny_one (i := 20) (by kernel_rfl) rfl rfl (op_store (k := 3) (c' := #[.bool (neg (qn z)), .slice A33 (zl (qn z)) c34, .bool (neg (ql z)), .slice B35 (zl (ql z)) d36]) henv hst (ty_anvil_ratio_Rat.size) rfl rfl rfl rfl (by simp) rfl rfl ?_)
  clear henv hst a; intro a w46 henv hst
  refine ⟨.inr ⟨hst.kn.pick [0, 1, 2, 6, 7, 8] (rg 0 6), .inl rfl⟩, ?_⟩
  refine tA (i := 21) [] (v := .bool false) rfl (by kernel_rfl) (fun _ _ _ h => h) henv rfl (fun _ => rn_assign henv rfl) ?_
  clear henv a; intro a henv
  refine sAny_done (by kernel_rfl) ?_ _
  refine th_n ?_
  refine wp_ret ?_
  refine leave henv (res4 Tryd.results56 (RV.cell henv ty_anvil_ratio_Rat rfl (hst.oat (k := 5) rfl) rfl) (RV.cell henv ty_anvil_ratio_Rat rfl (hst.oat (k := 4) rfl) rfl) (RV.cell henv ty_anvil_ratio_Rat rfl (hst.oat (k := 3) rfl) rfl) (RV.tmp henv rfl)) ?_
  exact ⟨_, _, _, rfl, q_at rfl rfl (hst.pat (k := 5) rfl) (hst.pat (k := 4) rfl), q_at rfl rfl (hst.pat (k := 3) rfl) (hst.pat (k := 2) rfl), q_at rfl rfl (hst.pat (k := 1) rfl) (hst.pat (k := 0) rfl), hst.below⟩
set_option maxRecDepth 100000 in
set_option maxHeartbeats 4000000 in
theorem three_f3 {s1 t1 s2 t2 s3 t3 : List UInt8} {x y z : Rat} {w0 : World} (f1 : AlAs s1 t1 x true) (f2 : AlAs s2 t2 y true) (f3 : AlAs s3 t3 z false) :
    Calls Tryd.prog 56 #[.agg #[.string ⟨s1.toArray⟩, .string ⟨t1.toArray⟩], .agg #[.string ⟨s2.toArray⟩, .string ⟨t2.toArray⟩], .agg #[.string ⟨s3.toArray⟩, .string ⟨t3.toArray⟩]] w0 fun e w' => ∃ v1 v2 v3, e = .returned (.tuple #[v1, v2, v3, .bool false]) ∧ QAt w' v1 x ∧ QAt w' v2 y ∧ QAt w' v3 z ∧ Below w0.heap.size w0 w' := by
  refine enter Tryd.func56 rfl Tryd.ntmps56 rfl ?_
  intro a henv hst
  refine wp_seq ?_
  refine region_seq ?_
  refine seq_step rfl (op_box (c := #[.string ⟨s1.toArray⟩, .string ⟨t1.toArray⟩]) henv hst rfl rfl rfl ?_)
  clear henv hst a; intro a w2 g1 henv hst
  refine seq_step rfl (op_box (c := #[.string ⟨s2.toArray⟩, .string ⟨t2.toArray⟩]) henv hst rfl rfl rfl ?_)
  clear henv hst a; intro a w4 g3 henv hst
  refine seq_step rfl (op_box (c := #[.string ⟨s3.toArray⟩, .string ⟨t3.toArray⟩]) henv hst rfl rfl rfl ?_)
  clear henv hst a; intro a w6 g5 henv hst
  refine seq_step rfl (op_alloc (c := #[.bool (neg (qn 0)), .slice none (zl (qn 0)) 0, .bool (neg (ql 0)), .slice none (zl (ql 0)) 0]) henv hst rfl zero_anvil_ratio_Rat qcells ?_)
  clear henv hst a; intro a w8 g7 henv hst
  refine seq_step rfl (op_alloc (c := #[.bool (neg (qn 0)), .slice none (zl (qn 0)) 0, .bool (neg (ql 0)), .slice none (zl (ql 0)) 0]) henv hst rfl zero_anvil_ratio_Rat qcells ?_)
  clear henv hst a; intro a w10 g9 henv hst
  refine seq_step rfl (op_alloc (c := #[.bool (neg (qn 0)), .slice none (zl (qn 0)) 0, .bool (neg (ql 0)), .slice none (zl (ql 0)) 0]) henv hst rfl zero_anvil_ratio_Rat qcells ?_)
  clear henv hst a; intro a w12 g11 henv hst
  refine sv (v := .bool false) henv rfl (rn_assign henv rfl) ?_
  clear henv a; intro a henv
  refine wpList_nil ?_
  refine th_n ?_
  refine wp_seq ?_
  refine region_seq ?_
  refine sv (v := .agg #[.string ⟨s1.toArray⟩, .string ⟨t1.toArray⟩]) henv rfl (rn_load0 henv ty_anvil_anvillaw03_Frac rfl (hst.oat (k := 5) rfl) rfl) ?_
  clear henv a; intro a henv
  refine seq_step rfl (op_call henv rfl Tryd.call87 rfl (f1 _) ?_)
  rintro e w19 ⟨_, rfl, ⟨A13, c14, B15, d16, rfl, hz17, hz18⟩, hb⟩
  refine ⟨_, rfl, ?_⟩
  clear henv a; intro a henv
  replace hst := ((hst.call hb).addZ hz17 ⟨nou_bk rfl, nou_bk rfl, nou_bk rfl, nou_bk rfl, nou_bk rfl, nou_bk rfl, trivial⟩).addZ hz18 ⟨nou_bk rfl, nou_bk rfl, nou_bk rfl, nou_bk rfl, nou_bk rfl, nou_bk rfl, trivial⟩
  clear hz17 hz18
  clear hb
  revert a
  refine mA rfl rfl ?_
  refine sA (v := .agg #[.bool (neg (qn x)), .slice A13 (zl (qn x)) c14, .bool (neg (ql x)), .slice B15 (zl (ql x)) d16]) rfl (fun _ henv => rn_extract henv rfl rfl) ?_
  refine sA (v := .bool true) rfl (fun _ henv => rn_extract henv rfl rfl) ?_
  intro a henv
  refine seq_step rfl (op_alloc (c := #[.bool (neg (qn 0)), .slice none (zl (qn 0)) 0, .bool (neg (ql 0)), .slice none (zl (ql 0)) 0]) henv hst rfl zero_anvil_ratio_Rat qcells ?_)
  clear henv hst a; intro a w21 g20 henv hst
  refine seq_step rfl (op_store (k := 0) (c' := #[.bool (neg (qn x)), .slice A13 (zl (qn x)) c14, .bool (neg (ql x)), .slice B15 (zl (ql x)) d16]) henv hst (ty_anvil_ratio_Rat.size) rfl rfl rfl rfl (by simp) rfl rfl ?_)
  clear henv hst a; intro a w22 henv hst
  refine sv (v := .bool true) henv rfl (rn_assign henv rfl) ?_
  clear henv a; intro a henv
  refine wpList_nil ?_
  refine th_n ?_
  refine wp_seq ?_
  refine region_seq ?_
  refine sv (v := .agg #[.string ⟨s2.toArray⟩, .string ⟨t2.toArray⟩]) henv rfl (rn_load0 henv ty_anvil_anvillaw03_Frac rfl (hst.oat (k := 5) rfl) rfl) ?_
  clear henv a; intro a henv
  refine seq_step rfl (op_call henv rfl Tryd.call87 rfl (f2 _) ?_)
  rintro e w29 ⟨_, rfl, ⟨A23, c24, B25, d26, rfl, hz27, hz28⟩, hb⟩
  refine ⟨_, rfl, ?_⟩
  clear henv a; intro a henv
  replace hst := ((hst.call hb).addZ hz27 ⟨nou_bk rfl, nou_bk rfl, nou_bk rfl, nou_bk rfl, nou_bk rfl, nou_bk rfl, nou_bk rfl, trivial⟩).addZ hz28 ⟨nou_bk rfl, nou_bk rfl, nou_bk rfl, nou_bk rfl, nou_bk rfl, nou_bk rfl, nou_bk rfl, trivial⟩
  clear hz27 hz28
  clear hb
  revert a
  refine mA rfl rfl ?_
  refine sA (v := .agg #[.bool (neg (qn y)), .slice A23 (zl (qn y)) c24, .bool (neg (ql y)), .slice B25 (zl (ql y)) d26]) rfl (fun _ henv => rn_extract henv rfl rfl) ?_
  refine sA (v := .bool true) rfl (fun _ henv => rn_extract henv rfl rfl) ?_
  intro a henv
  refine seq_step rfl (op_alloc (c := #[.bool (neg (qn 0)), .slice none (zl (qn 0)) 0, .bool (neg (ql 0)), .slice none (zl (ql 0)) 0]) henv hst rfl zero_anvil_ratio_Rat qcells ?_)
  clear henv hst a; intro a w31 g30 henv hst
  refine seq_step rfl (op_store (k := 0) (c' := #[.bool (neg (qn y)), .slice A23 (zl (qn y)) c24, .bool (neg (ql y)), .slice B25 (zl (ql y)) d26]) henv hst (ty_anvil_ratio_Rat.size) rfl rfl rfl rfl (by simp) rfl rfl ?_)
  clear henv hst a; intro a w32 henv hst
  refine sv (v := .bool true) henv rfl (rn_assign henv rfl) ?_
  clear henv a; intro a henv
  refine wpList_nil ?_
  refine th_n ?_
  refine wp_seq ?_
  refine region_seq ?_
  refine sv (v := .agg #[.string ⟨s3.toArray⟩, .string ⟨t3.toArray⟩]) henv rfl (rn_load0 henv ty_anvil_anvillaw03_Frac rfl (hst.oat (k := 5) rfl) rfl) ?_
  clear henv a; intro a henv
  refine seq_step rfl (op_call henv rfl Tryd.call87 rfl (f3 _) ?_)
  rintro e w39 ⟨_, rfl, ⟨A33, c34, B35, d36, rfl, hz37, hz38⟩, hb⟩
  refine ⟨_, rfl, ?_⟩
  clear henv a; intro a henv
  replace hst := ((hst.call hb).addZ hz37 ⟨nou_bk rfl, nou_bk rfl, nou_bk rfl, nou_bk rfl, nou_bk rfl, nou_bk rfl, nou_bk rfl, nou_bk rfl, trivial⟩).addZ hz38 ⟨nou_bk rfl, nou_bk rfl, nou_bk rfl, nou_bk rfl, nou_bk rfl, nou_bk rfl, nou_bk rfl, nou_bk rfl, trivial⟩
  clear hz37 hz38
  clear hb
  revert a
  refine mA rfl rfl ?_
  refine sA (v := .agg #[.bool (neg (qn z)), .slice A33 (zl (qn z)) c34, .bool (neg (ql z)), .slice B35 (zl (ql z)) d36]) rfl (fun _ henv => rn_extract henv rfl rfl) ?_
  refine sA (v := .bool false) rfl (fun _ henv => rn_extract henv rfl rfl) ?_
  intro a henv
  refine seq_step rfl (op_alloc (c := #[.bool (neg (qn 0)), .slice none (zl (qn 0)) 0, .bool (neg (ql 0)), .slice none (zl (ql 0)) 0]) henv hst rfl zero_anvil_ratio_Rat qcells ?_)
  clear henv hst a; intro a w41 g40 henv hst
  refine seq_step rfl (op_store (k := 0) (c' := #[.bool (neg (qn z)), .slice A33 (zl (qn z)) c34, .bool (neg (ql z)), .slice B35 (zl (ql z)) d36]) henv hst (ty_anvil_ratio_Rat.size) rfl rfl rfl rfl (by simp) rfl rfl ?_)
  clear henv hst a; intro a w42 henv hst
  refine sv (v := .bool false) henv rfl (rn_assign henv rfl) ?_
  clear henv a; intro a henv
  refine wpList_nil ?_
  refine th_n ?_
  refine wp_seq ?_
  refine region_any (n := 22) (Sk [bk g40 #[.bool (neg (qn z)), .slice A33 (zl (qn z)) c34, .bool (neg (ql z)), .slice B35 (zl (ql z)) d36] 91, bk g30 #[.bool (neg (qn y)), .slice A23 (zl (qn y)) c24, .bool (neg (ql y)), .slice B25 (zl (ql y)) d26] 91, bk g20 #[.bool (neg (qn x)), .slice A13 (zl (qn x)) c14, .bool (neg (ql x)), .slice B15 (zl (ql x)) d16] 91, bk g5 #[.string ⟨s3.toArray⟩, .string ⟨t3.toArray⟩] 89, bk g3 #[.string ⟨s2.toArray⟩, .string ⟨t2.toArray⟩] 89, bk g1 #[.string ⟨s1.toArray⟩, .string ⟨t1.toArray⟩] 89] [pfZ B35 d36 (ql z), pfZ A33 c34 (qn z), pfZ B25 d26 (ql y), pfZ A23 c24 (qn y), pfZ B15 d16 (ql x), pfZ A13 c14 (qn x)] [18, 19, 20] []) mixed rfl henv hst ?_
  clear henv hst; intro w43 henv hst
  refine tL (i := 0) 2 2 (rg 18 4) rfl (by kernel_rfl) (fun _ _ _ h => h) henv rfl ty_anvil_ratio_Rat rfl hst rfl rfl rfl ?_
  clear henv a; intro a henv
  refine tL (i := 1) 1 1 [19, 20, 21] rfl (by kernel_rfl) (fun _ _ _ h => h) henv rfl ty_anvil_ratio_Rat rfl hst rfl rfl rfl ?_
  clear henv a; intro a henv
  refine tL (i := 2) 0 0 [20, 21] rfl (by kernel_rfl) (fun _ _ _ h => h) henv rfl ty_anvil_ratio_Rat rfl hst rfl rfl rfl ?_
  clear henv a; intro a henv
  refine tM (i := 3) (rg 4 18) rfl (by kernel_rfl) (fun _ _ _ h => h) henv rfl rfl ?_
  clear henv a; intro a henv
  refine tM (i := 4) (rg 5 17) rfl (by kernel_rfl) (fun _ _ _ h => h) henv rfl rfl ?_
  clear henv a; intro a henv
  refine tAg (i := 5) (rg 6 16) (v := .bool true) rfl (by kernel_rfl) (fun _ _ _ h => h) henv rfl rfl rfl rfl (fun _ => rn_move henv rfl) ?_
  clear henv a; intro a henv
  refine tA (i := 6) (rg 7 15) (v := .bool true) rfl (by kernel_rfl) (fun _ _ _ h => h) henv rfl (fun _ => rn_pick henv rfl rfl) ?_
  clear henv a; intro a henv
  refine tM (i := 7) (rg 8 14) rfl (by kernel_rfl) (fun _ _ _ h => h) henv rfl rfl ?_
  clear henv a; intro a henv
  refine tAg (i := 8) (rg 9 13) (v := .bool false) rfl (by kernel_rfl) (fun _ _ _ h => h) henv rfl rfl rfl rfl (fun _ => rn_move henv rfl) ?_
  clear henv a; intro a henv
  refine tA (i := 9) (rg 10 12) (v := .bool false) rfl (by kernel_rfl) (fun _ _ _ h => h) henv rfl (fun _ => rn_pick henv rfl rfl) ?_
  clear henv a; intro a henv
  refine tM (i := 10) (rg 11 11) rfl (by kernel_rfl) (fun _ _ _ h => h) henv rfl rfl ?_
  clear henv a; intro a henv
  refine sAny_skipg (i := 11) [14, 15, 16, 17, 18, 19, 20, 21] rfl (by kernel_rfl) (fun _ _ _ h => h) henv rfl rfl rfl rfl rfl ?_
  clear henv a; intro a henv
  refine sAny_skipg (i := 12) [14, 15, 16, 17, 18, 19, 20, 21] rfl (by kernel_rfl) (fun _ _ _ h => h) henv rfl rfl rfl rfl rfl ?_
  clear henv a; intro a henv
  refine sAny_skipg (i := 13) [14, 15, 16, 17, 18, 19, 20, 21] rfl (by kernel_rfl) (fun _ _ _ h => h) henv rfl rfl rfl rfl rfl ?_
  clear henv a; intro a henv
  refine sAny_skipg (i := 14) [15, 16, 17, 18, 19, 20, 21] rfl (by kernel_rfl) (fun _ _ _ h => h) henv rfl rfl rfl rfl rfl ?_
  clear henv a; intro a henv
  refine sAny_skipg (i := 15) [16, 17, 18, 19, 20, 21] rfl (by kernel_rfl) (fun _ _ _ h => h) henv rfl rfl rfl rfl rfl ?_
  clear henv a; intro a henv
  refine sAny_skipg (i := 16) [17, 21] rfl (by kernel_rfl) (fun _ _ _ h => h) henv rfl rfl rfl rfl rfl ?_
  clear henv a; intro a henv
  refine tA (i := 17) [21] (v := .bool false) rfl (by kernel_rfl) (fun _ _ _ h => h) henv rfl (fun _ => rn_pick henv rfl rfl) ?_
  clear henv a; intro a henv
  refine sAny_one (i := 18) (by kernel_rfl) rfl rfl (op_store (k := 5) (c' := #[.bool (neg (qn x)), .slice A13 (zl (qn x)) c14, .bool (neg (ql x)), .slice B15 (zl (ql x)) d16]) henv hst (ty_anvil_ratio_Rat.size) rfl rfl rfl rfl (by simp) rfl rfl ?_)
  clear henv hst a; intro a w44 henv hst
  refine ⟨.inr ⟨hst.kn.pick [0, 1, 2, 6, 7, 8] (rg 0 6), .inl rfl⟩, ?_⟩
  refine sAny_one (i := 19) (by kernel_rfl) rfl rfl (op_store (k := 4) (c' := #[.bool (neg (qn y)), .slice A23 (zl (qn y)) c24, .bool (neg (ql y)), .slice B25 (zl (ql y)) d26]) henv hst (ty_anvil_ratio_Rat.size) rfl rfl rfl rfl (by simp) rfl rfl ?_)
  clear henv hst a; intro a w45 henv hst
  refine ⟨.inr ⟨hst.kn.pick [0, 1, 2, 6, 7, 8] (rg 0 6), .inl rfl⟩, ?_⟩
  refine sAny_one (i := 20) (by kernel_rfl) rfl rfl (op_store (k := 3) (c' := #[.bool (neg (qn z)), .slice A33 (zl (qn z)) c34, .bool (neg (ql z)), .slice B35 (zl (ql z)) d36]) henv hst (ty_anvil_ratio_Rat.size) rfl rfl rfl rfl (by simp) rfl rfl ?_)
  clear henv hst a; intro a w46 henv hst
  refine ⟨.inr ⟨hst.kn.pick [0, 1, 2, 6, 7, 8] (rg 0 6), .inl rfl⟩, ?_⟩
  refine tA (i := 21) [] (v := .bool false) rfl (by kernel_rfl) (fun _ _ _ h => h) henv rfl (fun _ => rn_assign henv rfl) ?_
  clear henv a; intro a henv
  refine sAny_done (by kernel_rfl) ?_ _
  refine th_n ?_
  refine wp_ret ?_
  refine leave henv (res4 Tryd.results56 (RV.cell henv ty_anvil_ratio_Rat rfl (hst.oat (k := 5) rfl) rfl) (RV.cell henv ty_anvil_ratio_Rat rfl (hst.oat (k := 4) rfl) rfl) (RV.cell henv ty_anvil_ratio_Rat rfl (hst.oat (k := 3) rfl) rfl) (RV.tmp henv rfl)) ?_
  exact ⟨_, _, _, rfl, q_at rfl rfl (hst.pat (k := 5) rfl) (hst.pat (k := 4) rfl), q_at rfl rfl (hst.pat (k := 3) rfl) (hst.pat (k := 2) rfl), q_at rfl rfl (hst.pat (k := 1) rfl) (hst.pat (k := 0) rfl), hst.below⟩
set_option maxRecDepth 100000 in
set_option maxHeartbeats 4000000 in
theorem three_lg {s1 t1 s2 t2 s3 t3 : List UInt8} {x y z : Rat} {w0 : World} (f1 : AlAs s1 t1 x true) (f2 : AlAs s2 t2 y true) (f3 : AlAs s3 t3 z true) (hl : Lg (s1, t1) ∨ Lg (s2, t2) ∨ Lg (s3, t3)) :
    Calls Tryd.prog 56 #[.agg #[.string ⟨s1.toArray⟩, .string ⟨t1.toArray⟩], .agg #[.string ⟨s2.toArray⟩, .string ⟨t2.toArray⟩], .agg #[.string ⟨s3.toArray⟩, .string ⟨t3.toArray⟩]] w0 fun e w' => ∃ v1 v2 v3, e = .returned (.tuple #[v1, v2, v3, .bool false]) ∧ QAt w' v1 x ∧ QAt w' v2 y ∧ QAt w' v3 z ∧ Below w0.heap.size w0 w' := by
  refine enter Tryd.func56 rfl Tryd.ntmps56 rfl ?_
  intro a henv hst
  refine wp_seq ?_
  refine region_seq ?_
  refine seq_step rfl (op_box (c := #[.string ⟨s1.toArray⟩, .string ⟨t1.toArray⟩]) henv hst rfl rfl rfl ?_)
  clear henv hst a; intro a w2 g1 henv hst
  refine seq_step rfl (op_box (c := #[.string ⟨s2.toArray⟩, .string ⟨t2.toArray⟩]) henv hst rfl rfl rfl ?_)
  clear henv hst a; intro a w4 g3 henv hst
  refine seq_step rfl (op_box (c := #[.string ⟨s3.toArray⟩, .string ⟨t3.toArray⟩]) henv hst rfl rfl rfl ?_)
  clear henv hst a; intro a w6 g5 henv hst
  refine seq_step rfl (op_alloc (c := #[.bool (neg (qn 0)), .slice none (zl (qn 0)) 0, .bool (neg (ql 0)), .slice none (zl (ql 0)) 0]) henv hst rfl zero_anvil_ratio_Rat qcells ?_)
  clear henv hst a; intro a w8 g7 henv hst
  refine seq_step rfl (op_alloc (c := #[.bool (neg (qn 0)), .slice none (zl (qn 0)) 0, .bool (neg (ql 0)), .slice none (zl (ql 0)) 0]) henv hst rfl zero_anvil_ratio_Rat qcells ?_)
  clear henv hst a; intro a w10 g9 henv hst
  refine seq_step rfl (op_alloc (c := #[.bool (neg (qn 0)), .slice none (zl (qn 0)) 0, .bool (neg (ql 0)), .slice none (zl (ql 0)) 0]) henv hst rfl zero_anvil_ratio_Rat qcells ?_)
  clear henv hst a; intro a w12 g11 henv hst
  refine sv (v := .bool false) henv rfl (rn_assign henv rfl) ?_
  clear henv a; intro a henv
  refine wpList_nil ?_
  refine th_n ?_
  refine wp_seq ?_
  refine region_seq ?_
  refine sv (v := .agg #[.string ⟨s1.toArray⟩, .string ⟨t1.toArray⟩]) henv rfl (rn_load0 henv ty_anvil_anvillaw03_Frac rfl (hst.oat (k := 5) rfl) rfl) ?_
  clear henv a; intro a henv
  refine seq_step rfl (op_call henv rfl Tryd.call87 rfl (f1 _) ?_)
  rintro e w19 ⟨_, rfl, ⟨A13, c14, B15, d16, rfl, hz17, hz18⟩, hb⟩
  refine ⟨_, rfl, ?_⟩
  clear henv a; intro a henv
  replace hst := ((hst.call hb).addZ hz17 ⟨nou_bk rfl, nou_bk rfl, nou_bk rfl, nou_bk rfl, nou_bk rfl, nou_bk rfl, trivial⟩).addZ hz18 ⟨nou_bk rfl, nou_bk rfl, nou_bk rfl, nou_bk rfl, nou_bk rfl, nou_bk rfl, trivial⟩
  clear hz17 hz18
  clear hb
  revert a
  refine mA rfl rfl ?_
  refine sA (v := .agg #[.bool (neg (qn x)), .slice A13 (zl (qn x)) c14, .bool (neg (ql x)), .slice B15 (zl (ql x)) d16]) rfl (fun _ henv => rn_extract henv rfl rfl) ?_
  refine sA (v := .bool true) rfl (fun _ henv => rn_extract henv rfl rfl) ?_
  intro a henv
  refine seq_step rfl (op_alloc (c := #[.bool (neg (qn 0)), .slice none (zl (qn 0)) 0, .bool (neg (ql 0)), .slice none (zl (ql 0)) 0]) henv hst rfl zero_anvil_ratio_Rat qcells ?_)
  clear henv hst a; intro a w21 g20 henv hst
  refine seq_step rfl (op_store (k := 0) (c' := #[.bool (neg (qn x)), .slice A13 (zl (qn x)) c14, .bool (neg (ql x)), .slice B15 (zl (ql x)) d16]) henv hst (ty_anvil_ratio_Rat.size) rfl rfl rfl rfl (by simp) rfl rfl ?_)
  clear henv hst a; intro a w22 henv hst
  refine sv (v := .bool true) henv rfl (rn_assign henv rfl) ?_
  clear henv a; intro a henv
  refine wpList_nil ?_
  refine th_n ?_
  refine wp_seq ?_
  refine region_seq ?_
  refine sv (v := .agg #[.string ⟨s2.toArray⟩, .string ⟨t2.toArray⟩]) henv rfl (rn_load0 henv ty_anvil_anvillaw03_Frac rfl (hst.oat (k := 5) rfl) rfl) ?_
  clear henv a; intro a henv
  refine seq_step rfl (op_call henv rfl Tryd.call87 rfl (f2 _) ?_)
  rintro e w29 ⟨_, rfl, ⟨A23, c24, B25, d26, rfl, hz27, hz28⟩, hb⟩
  refine ⟨_, rfl, ?_⟩
  clear henv a; intro a henv
  replace hst := ((hst.call hb).addZ hz27 ⟨nou_bk rfl, nou_bk rfl, nou_bk rfl, nou_bk rfl, nou_bk rfl, nou_bk rfl, nou_bk rfl, trivial⟩).addZ hz28 ⟨nou_bk rfl, nou_bk rfl, nou_bk rfl, nou_bk rfl, nou_bk rfl, nou_bk rfl, nou_bk rfl, trivial⟩
  clear hz27 hz28
  clear hb
  revert a
  refine mA rfl rfl ?_
  refine sA (v := .agg #[.bool (neg (qn y)), .slice A23 (zl (qn y)) c24, .bool (neg (ql y)), .slice B25 (zl (ql y)) d26]) rfl (fun _ henv => rn_extract henv rfl rfl) ?_
  refine sA (v := .bool true) rfl (fun _ henv => rn_extract henv rfl rfl) ?_
  intro a henv
  refine seq_step rfl (op_alloc (c := #[.bool (neg (qn 0)), .slice none (zl (qn 0)) 0, .bool (neg (ql 0)), .slice none (zl (ql 0)) 0]) henv hst rfl zero_anvil_ratio_Rat qcells ?_)
  clear henv hst a; intro a w31 g30 henv hst
  refine seq_step rfl (op_store (k := 0) (c' := #[.bool (neg (qn y)), .slice A23 (zl (qn y)) c24, .bool (neg (ql y)), .slice B25 (zl (ql y)) d26]) henv hst (ty_anvil_ratio_Rat.size) rfl rfl rfl rfl (by simp) rfl rfl ?_)
  clear henv hst a; intro a w32 henv hst
  refine sv (v := .bool true) henv rfl (rn_assign henv rfl) ?_
  clear henv a; intro a henv
  refine wpList_nil ?_
  refine th_n ?_
  refine wp_seq ?_
  refine region_seq ?_
  refine sv (v := .agg #[.string ⟨s3.toArray⟩, .string ⟨t3.toArray⟩]) henv rfl (rn_load0 henv ty_anvil_anvillaw03_Frac rfl (hst.oat (k := 5) rfl) rfl) ?_
  clear henv a; intro a henv
  refine seq_step rfl (op_call henv rfl Tryd.call87 rfl (f3 _) ?_)
  rintro e w39 ⟨_, rfl, ⟨A33, c34, B35, d36, rfl, hz37, hz38⟩, hb⟩
  refine ⟨_, rfl, ?_⟩
  clear henv a; intro a henv
  replace hst := ((hst.call hb).addZ hz37 ⟨nou_bk rfl, nou_bk rfl, nou_bk rfl, nou_bk rfl, nou_bk rfl, nou_bk rfl, nou_bk rfl, nou_bk rfl, trivial⟩).addZ hz38 ⟨nou_bk rfl, nou_bk rfl, nou_bk rfl, nou_bk rfl, nou_bk rfl, nou_bk rfl, nou_bk rfl, nou_bk rfl, trivial⟩
  clear hz37 hz38
  clear hb
  revert a
  refine mA rfl rfl ?_
  refine sA (v := .agg #[.bool (neg (qn z)), .slice A33 (zl (qn z)) c34, .bool (neg (ql z)), .slice B35 (zl (ql z)) d36]) rfl (fun _ henv => rn_extract henv rfl rfl) ?_
  refine sA (v := .bool true) rfl (fun _ henv => rn_extract henv rfl rfl) ?_
  intro a henv
  refine seq_step rfl (op_alloc (c := #[.bool (neg (qn 0)), .slice none (zl (qn 0)) 0, .bool (neg (ql 0)), .slice none (zl (ql 0)) 0]) henv hst rfl zero_anvil_ratio_Rat qcells ?_)
  clear henv hst a; intro a w41 g40 henv hst
  refine seq_step rfl (op_store (k := 0) (c' := #[.bool (neg (qn z)), .slice A33 (zl (qn z)) c34, .bool (neg (ql z)), .slice B35 (zl (ql z)) d36]) henv hst (ty_anvil_ratio_Rat.size) rfl rfl rfl rfl (by simp) rfl rfl ?_)
  clear henv hst a; intro a w42 henv hst
  refine sv (v := .bool true) henv rfl (rn_assign henv rfl) ?_
  clear henv a; intro a henv
  refine wpList_nil ?_
  refine th_n ?_
  refine wp_seq ?_
  refine region_any (n := 22) (Sk [bk g40 #[.bool (neg (qn z)), .slice A33 (zl (qn z)) c34, .bool (neg (ql z)), .slice B35 (zl (ql z)) d36] 91, bk g30 #[.bool (neg (qn y)), .slice A23 (zl (qn y)) c24, .bool (neg (ql y)), .slice B25 (zl (ql y)) d26] 91, bk g20 #[.bool (neg (qn x)), .slice A13 (zl (qn x)) c14, .bool (neg (ql x)), .slice B15 (zl (ql x)) d16] 91, bk g5 #[.string ⟨s3.toArray⟩, .string ⟨t3.toArray⟩] 89, bk g3 #[.string ⟨s2.toArray⟩, .string ⟨t2.toArray⟩] 89, bk g1 #[.string ⟨s1.toArray⟩, .string ⟨t1.toArray⟩] 89] [pfZ B35 d36 (ql z), pfZ A33 c34 (qn z), pfZ B25 d26 (ql y), pfZ A23 c24 (qn y), pfZ B15 d16 (ql x), pfZ A13 c14 (qn x)] [18, 19, 20] []) mixed rfl henv hst ?_
  clear henv hst; intro w43 henv hst
  refine tL (i := 0) 2 2 (rg 18 4) rfl (by kernel_rfl) (fun _ _ _ h => h) henv rfl ty_anvil_ratio_Rat rfl hst rfl rfl rfl ?_
  clear henv a; intro a henv
  refine tL (i := 1) 1 1 [19, 20, 21] rfl (by kernel_rfl) (fun _ _ _ h => h) henv rfl ty_anvil_ratio_Rat rfl hst rfl rfl rfl ?_
  clear henv a; intro a henv
  refine tL (i := 2) 0 0 [20, 21] rfl (by kernel_rfl) (fun _ _ _ h => h) henv rfl ty_anvil_ratio_Rat rfl hst rfl rfl rfl ?_
  clear henv a; intro a henv
  refine tM (i := 3) (rg 4 18) rfl (by kernel_rfl) (fun _ _ _ h => h) henv rfl rfl ?_
  clear henv a; intro a henv
  refine tM (i := 4) (rg 5 17) rfl (by kernel_rfl) (fun _ _ _ h => h) henv rfl rfl ?_
  clear henv a; intro a henv
  refine tAg (i := 5) (rg 6 16) (v := .bool true) rfl (by kernel_rfl) (fun _ _ _ h => h) henv rfl rfl rfl rfl (fun _ => rn_move henv rfl) ?_
  clear henv a; intro a henv
  refine tA (i := 6) (rg 7 15) (v := .bool true) rfl (by kernel_rfl) (fun _ _ _ h => h) henv rfl (fun _ => rn_pick henv rfl rfl) ?_
  clear henv a; intro a henv
  refine tM (i := 7) (rg 8 14) rfl (by kernel_rfl) (fun _ _ _ h => h) henv rfl rfl ?_
  clear henv a; intro a henv
  refine tAg (i := 8) (rg 9 13) (v := .bool true) rfl (by kernel_rfl) (fun _ _ _ h => h) henv rfl rfl rfl rfl (fun _ => rn_move henv rfl) ?_
  clear henv a; intro a henv
  refine tA (i := 9) (rg 10 12) (v := .bool true) rfl (by kernel_rfl) (fun _ _ _ h => h) henv rfl (fun _ => rn_pick henv rfl rfl) ?_
  clear henv a; intro a henv
  refine tM (i := 10) (rg 11 11) rfl (by kernel_rfl) (fun _ _ _ h => h) henv rfl rfl ?_
  clear henv a; intro a henv
  refine tLg (i := 11) 5 8 (rg 14 8) rfl (by kernel_rfl) (fun _ _ _ h => h) henv rfl rfl rfl rfl ty_anvil_anvillaw03_Frac rfl hst rfl rfl rfl ?_
  clear henv a; intro a henv
  refine tLg (i := 12) 4 7 (rg 14 8) rfl (by kernel_rfl) (fun _ _ _ h => h) henv rfl rfl rfl rfl ty_anvil_anvillaw03_Frac rfl hst rfl rfl rfl ?_
  clear henv a; intro a henv
  refine tLg (i := 13) 3 6 (rg 14 8) rfl (by kernel_rfl) (fun _ _ _ h => h) henv rfl rfl rfl rfl ty_anvil_anvillaw03_Frac rfl hst rfl rfl rfl ?_
  clear henv a; intro a henv
  refine sAny_oneg (i := 14) (by kernel_rfl) rfl rfl henv rfl rfl rfl (op_buildSlice (z := 2) (pv := #[(0, .agg #[.string ⟨s1.toArray⟩, .string ⟨t1.toArray⟩]), (1, .agg #[.string ⟨s2.toArray⟩, .string ⟨t2.toArray⟩]), (2, .agg #[.string ⟨s3.toArray⟩, .string ⟨t3.toArray⟩])]) (c := #[.string ⟨s1.toArray⟩, .string ⟨t1.toArray⟩, .string ⟨s2.toArray⟩, .string ⟨t2.toArray⟩, .string ⟨s3.toArray⟩, .string ⟨t3.toArray⟩]) henv hst rfl Tryd.underlying103 (ty_anvil_anvillaw03_Frac.size) zero_anvil_anvillaw03_Frac (by decide) (by decide) rfl (by kernel_rfl) ?_)
  clear henv hst a; intro a w45 g44 henv hst
  refine ⟨.inr ⟨hst.kn.pick [1, 2, 3, 7, 8, 9] (rg 0 6), .inr (hst.kn.pick [] [])⟩, ?_⟩
  replace hst := hst.giveBk (f := fF) (F := FF) (k := 0) (n := 3) (es := [(s1, t1), (s2, t2), (s3, t3)]) rfl rfl fF_len rfl (by decide) (esT_P (fun _ => rfl) _ _) (fun _ _ _ _ => esT_foot (fun _ => rfl))
  refine sAny_oneg (i := 15) (by kernel_rfl) rfl rfl henv rfl rfl rfl (op_call henv rfl Tryd.call68 rfl (qlong_yes (hst.pat (k := 0) rfl) (by rcases hl with hl | hl | hl; exact ⟨_, List.mem_cons_self .., hl⟩; exact ⟨_, List.mem_cons_of_mem _ (List.mem_cons_self ..), hl⟩; exact ⟨_, List.mem_cons_of_mem _ (List.mem_cons_of_mem _ (List.mem_cons_self ..)), hl⟩)) ?_)
  rintro e w46 ⟨rfl, hb⟩
  refine ⟨_, rfl, ?_⟩
  clear henv a; intro a henv
  replace hst := hst.call hb
  clear hb
  refine ⟨.inr ⟨hst.kn.pick [0, 1, 2, 6, 7, 8] (rg 2 6), .inr (hst.kn.pick [] [])⟩, ?_⟩
  refine tAg (i := 16) [17, 21] (v := .bool false) rfl (by kernel_rfl) (fun _ _ _ h => h) henv rfl rfl rfl rfl (fun _ => rn_un henv rfl rfl) ?_
  clear henv a; intro a henv
  refine tA (i := 17) [21] (v := .bool false) rfl (by kernel_rfl) (fun _ _ _ h => h) henv rfl (fun _ => rn_pick henv rfl rfl) ?_
  clear henv a; intro a henv
  refine sAny_one (i := 18) (by kernel_rfl) rfl rfl (op_store (k := 5) (c' := #[.bool (neg (qn x)), .slice A13 (zl (qn x)) c14, .bool (neg (ql x)), .slice B15 (zl (ql x)) d16]) henv hst (ty_anvil_ratio_Rat.size) rfl rfl rfl rfl (by simp) rfl rfl ?_)
  clear henv hst a; intro a w47 henv hst
  refine ⟨.inr ⟨hst.kn.pick [0, 1, 2, 6, 7, 8] (rg 2 6), .inl rfl⟩, ?_⟩
  refine sAny_one (i := 19) (by kernel_rfl) rfl rfl (op_store (k := 4) (c' := #[.bool (neg (qn y)), .slice A23 (zl (qn y)) c24, .bool (neg (ql y)), .slice B25 (zl (ql y)) d26]) henv hst (ty_anvil_ratio_Rat.size) rfl rfl rfl rfl (by simp) rfl rfl ?_)
  clear henv hst a; intro a w48 henv hst
  refine ⟨.inr ⟨hst.kn.pick [0, 1, 2, 6, 7, 8] (rg 2 6), .inl rfl⟩, ?_⟩
  refine sAny_one (i := 20) (by kernel_rfl) rfl rfl (op_store (k := 3) (c' := #[.bool (neg (qn z)), .slice A33 (zl (qn z)) c34, .bool (neg (ql z)), .slice B35 (zl (ql z)) d36]) henv hst (ty_anvil_ratio_Rat.size) rfl rfl rfl rfl (by simp) rfl rfl ?_)
  clear henv hst a; intro a w49 henv hst
  refine ⟨.inr ⟨hst.kn.pick [0, 1, 2, 6, 7, 8] (rg 2 6), .inl rfl⟩, ?_⟩
  refine tA (i := 21) [] (v := .bool false) rfl (by kernel_rfl) (fun _ _ _ h => h) henv rfl (fun _ => rn_assign henv rfl) ?_
  clear henv a; intro a henv
  refine sAny_done (by kernel_rfl) ?_ _
  refine th_n ?_
  refine wp_ret ?_
  refine leave henv (res4 Tryd.results56 (RV.cell henv ty_anvil_ratio_Rat rfl (hst.oat (k := 5) rfl) rfl) (RV.cell henv ty_anvil_ratio_Rat rfl (hst.oat (k := 4) rfl) rfl) (RV.cell henv ty_anvil_ratio_Rat rfl (hst.oat (k := 3) rfl) rfl) (RV.tmp henv rfl)) ?_
  exact ⟨_, _, _, rfl, q_at rfl rfl (hst.pat (k := 7) rfl) (hst.pat (k := 6) rfl), q_at rfl rfl (hst.pat (k := 5) rfl) (hst.pat (k := 4) rfl), q_at rfl rfl (hst.pat (k := 3) rfl) (hst.pat (k := 2) rfl), hst.below⟩
set_option maxRecDepth 100000 in
set_option maxHeartbeats 4000000 in
theorem three_ok {s1 t1 s2 t2 s3 t3 : List UInt8} {x y z : Rat} {w0 : World} (f1 : AlAs s1 t1 x true) (f2 : AlAs s2 t2 y true) (f3 : AlAs s3 t3 z true) (l1 : ¬ Lg (s1, t1)) (l2 : ¬ Lg (s2, t2)) (l3 : ¬ Lg (s3, t3)) :
    Calls Tryd.prog 56 #[.agg #[.string ⟨s1.toArray⟩, .string ⟨t1.toArray⟩], .agg #[.string ⟨s2.toArray⟩, .string ⟨t2.toArray⟩], .agg #[.string ⟨s3.toArray⟩, .string ⟨t3.toArray⟩]] w0 fun e w' => ∃ v1 v2 v3, e = .returned (.tuple #[v1, v2, v3, .bool true]) ∧ QAt w' v1 x ∧ QAt w' v2 y ∧ QAt w' v3 z ∧ Below w0.heap.size w0 w' := by
  refine enter Tryd.func56 rfl Tryd.ntmps56 rfl ?_
  intro a henv hst
  refine wp_seq ?_
  refine region_seq ?_
  refine seq_step rfl (op_box (c := #[.string ⟨s1.toArray⟩, .string ⟨t1.toArray⟩]) henv hst rfl rfl rfl ?_)
  clear henv hst a; intro a w2 g1 henv hst
  refine seq_step rfl (op_box (c := #[.string ⟨s2.toArray⟩, .string ⟨t2.toArray⟩]) henv hst rfl rfl rfl ?_)
  clear henv hst a; intro a w4 g3 henv hst
  refine seq_step rfl (op_box (c := #[.string ⟨s3.toArray⟩, .string ⟨t3.toArray⟩]) henv hst rfl rfl rfl ?_)
  clear henv hst a; intro a w6 g5 henv hst
  refine seq_step rfl (op_alloc (c := #[.bool (neg (qn 0)), .slice none (zl (qn 0)) 0, .bool (neg (ql 0)), .slice none (zl (ql 0)) 0]) henv hst rfl zero_anvil_ratio_Rat qcells ?_)
  clear henv hst a; intro a w8 g7 henv hst
  refine seq_step rfl (op_alloc (c := #[.bool (neg (qn 0)), .slice none (zl (qn 0)) 0, .bool (neg (ql 0)), .slice none (zl (ql 0)) 0]) henv hst rfl zero_anvil_ratio_Rat qcells ?_)
  clear henv hst a; intro a w10 g9 henv hst
  refine seq_step rfl (op_alloc (c := #[.bool (neg (qn 0)), .slice none (zl (qn 0)) 0, .bool (neg (ql 0)), .slice none (zl (ql 0)) 0]) henv hst rfl zero_anvil_ratio_Rat qcells ?_)
  clear henv hst a; intro a w12 g11 henv hst
  refine sv (v := .bool false) henv rfl (rn_assign henv rfl) ?_
  clear henv a; intro a henv
  refine wpList_nil ?_
  refine th_n ?_
  refine wp_seq ?_
  refine region_seq ?_
  refine sv (v := .agg #[.string ⟨s1.toArray⟩, .string ⟨t1.toArray⟩]) henv rfl (rn_load0 henv ty_anvil_anvillaw03_Frac rfl (hst.oat (k := 5) rfl) rfl) ?_
  clear henv a; intro a henv
  refine seq_step rfl (op_call henv rfl Tryd.call87 rfl (f1 _) ?_)
  rintro e w19 ⟨_, rfl, ⟨A13, c14, B15, d16, rfl, hz17, hz18⟩, hb⟩
  refine ⟨_, rfl, ?_⟩
  clear henv a; intro a henv
  replace hst := ((hst.call hb).addZ hz17 ⟨nou_bk rfl, nou_bk rfl, nou_bk rfl, nou_bk rfl, nou_bk rfl, nou_bk rfl, trivial⟩).addZ hz18 ⟨nou_bk rfl, nou_bk rfl, nou_bk rfl, nou_bk rfl, nou_bk rfl, nou_bk rfl, trivial⟩
  clear hz17 hz18
  clear hb
  revert a
  refine mA rfl rfl ?_
  refine sA (v := .agg #[.bool (neg (qn x)), .slice A13 (zl (qn x)) c14, .bool (neg (ql x)), .slice B15 (zl (ql x)) d16]) rfl (fun _ henv => rn_extract henv rfl rfl) ?_
  refine sA (v := .bool true) rfl (fun _ henv => rn_extract henv rfl rfl) ?_
  intro a henv
  refine seq_step rfl (op_alloc (c := #[.bool (neg (qn 0)), .slice none (zl (qn 0)) 0, .bool (neg (ql 0)), .slice none (zl (ql 0)) 0]) henv hst rfl zero_anvil_ratio_Rat qcells ?_)
  clear henv hst a; intro a w21 g20 henv hst
  refine seq_step rfl (op_store (k := 0) (c' := #[.bool (neg (qn x)), .slice A13 (zl (qn x)) c14, .bool (neg (ql x)), .slice B15 (zl (ql x)) d16]) henv hst (ty_anvil_ratio_Rat.size) rfl rfl rfl rfl (by simp) rfl rfl ?_)
  clear henv hst a; intro a w22 henv hst
  refine sv (v := .bool true) henv rfl (rn_assign henv rfl) ?_
  clear henv a; intro a henv
  refine wpList_nil ?_
  refine th_n ?_
  refine wp_seq ?_
  refine region_seq ?_
  refine sv (v := .agg #[.string ⟨s2.toArray⟩, .string ⟨t2.toArray⟩]) henv rfl (rn_load0 henv ty_anvil_anvillaw03_Frac rfl (hst.oat (k := 5) rfl) rfl) ?_
  clear henv a; intro a henv
  refine seq_step rfl (op_call henv rfl Tryd.call87 rfl (f2 _) ?_)
  rintro e w29 ⟨_, rfl, ⟨A23, c24, B25, d26, rfl, hz27, hz28⟩, hb⟩
  refine ⟨_, rfl, ?_⟩
  clear henv a; intro a henv
  replace hst := ((hst.call hb).addZ hz27 ⟨nou_bk rfl, nou_bk rfl, nou_bk rfl, nou_bk rfl, nou_bk rfl, nou_bk rfl, nou_bk rfl, trivial⟩).addZ hz28 ⟨nou_bk rfl, nou_bk rfl, nou_bk rfl, nou_bk rfl, nou_bk rfl, nou_bk rfl, nou_bk rfl, trivial⟩
  clear hz27 hz28
  clear hb
  revert a
  refine mA rfl rfl ?_
  refine sA (v := .agg #[.bool (neg (qn y)), .slice A23 (zl (qn y)) c24, .bool (neg (ql y)), .slice B25 (zl (ql y)) d26]) rfl (fun _ henv => rn_extract henv rfl rfl) ?_
  refine sA (v := .bool true) rfl (fun _ henv => rn_extract henv rfl rfl) ?_
  intro a henv
  refine seq_step rfl (op_alloc (c := #[.bool (neg (qn 0)), .slice none (zl (qn 0)) 0, .bool (neg (ql 0)), .slice none (zl (ql 0)) 0]) henv hst rfl zero_anvil_ratio_Rat qcells ?_)
  clear henv hst a; intro a w31 g30 henv hst
  refine seq_step rfl (op_store (k := 0) (c' := #[.bool (neg (qn y)), .slice A23 (zl (qn y)) c24, .bool (neg (ql y)), .slice B25 (zl (ql y)) d26]) henv hst (ty_anvil_ratio_Rat.size) rfl rfl rfl rfl (by simp) rfl rfl ?_)
  clear henv hst a; intro a w32 henv hst
  refine sv (v := .bool true) henv rfl (rn_assign henv rfl) ?_
  clear henv a; intro a henv
  refine wpList_nil ?_
  refine th_n ?_
  refine wp_seq ?_
  refine region_seq ?_
  refine sv (v := .agg #[.string ⟨s3.toArray⟩, .string ⟨t3.toArray⟩]) henv rfl (rn_load0 henv ty_anvil_anvillaw03_Frac rfl (hst.oat (k := 5) rfl) rfl) ?_
  clear henv a; intro a henv
  refine seq_step rfl (op_call henv rfl Tryd.call87 rfl (f3 _) ?_)
  rintro e w39 ⟨_, rfl, ⟨A33, c34, B35, d36, rfl, hz37, hz38⟩, hb⟩
  refine ⟨_, rfl, ?_⟩
  clear henv a; intro a henv
  replace hst := ((hst.call hb).addZ hz37 ⟨nou_bk rfl, nou_bk rfl, nou_bk rfl, nou_bk rfl, nou_bk rfl, nou_bk rfl, nou_bk rfl, nou_bk rfl, trivial⟩).addZ hz38 ⟨nou_bk rfl, nou_bk rfl, nou_bk rfl, nou_bk rfl, nou_bk rfl, nou_bk rfl, nou_bk rfl, nou_bk rfl, trivial⟩
  clear hz37 hz38
  clear hb
  revert a
  refine mA rfl rfl ?_
  refine sA (v := .agg #[.bool (neg (qn z)), .slice A33 (zl (qn z)) c34, .bool (neg (ql z)), .slice B35 (zl (ql z)) d36]) rfl (fun _ henv => rn_extract henv rfl rfl) ?_
  refine sA (v := .bool true) rfl (fun _ henv => rn_extract henv rfl rfl) ?_
  intro a henv
  refine seq_step rfl (op_alloc (c := #[.bool (neg (qn 0)), .slice none (zl (qn 0)) 0, .bool (neg (ql 0)), .slice none (zl (ql 0)) 0]) henv hst rfl zero_anvil_ratio_Rat qcells ?_)
  clear henv hst a; intro a w41 g40 henv hst
  refine seq_step rfl (op_store (k := 0) (c' := #[.bool (neg (qn z)), .slice A33 (zl (qn z)) c34, .bool (neg (ql z)), .slice B35 (zl (ql z)) d36]) henv hst (ty_anvil_ratio_Rat.size) rfl rfl rfl rfl (by simp) rfl rfl ?_)
  clear henv hst a; intro a w42 henv hst
  refine sv (v := .bool true) henv rfl (rn_assign henv rfl) ?_
  clear henv a; intro a henv
  refine wpList_nil ?_
  refine th_n ?_
  refine wp_seq ?_
  refine region_any (n := 22) (Sk [bk g40 #[.bool (neg (qn z)), .slice A33 (zl (qn z)) c34, .bool (neg (ql z)), .slice B35 (zl (ql z)) d36] 91, bk g30 #[.bool (neg (qn y)), .slice A23 (zl (qn y)) c24, .bool (neg (ql y)), .slice B25 (zl (ql y)) d26] 91, bk g20 #[.bool (neg (qn x)), .slice A13 (zl (qn x)) c14, .bool (neg (ql x)), .slice B15 (zl (ql x)) d16] 91, bk g5 #[.string ⟨s3.toArray⟩, .string ⟨t3.toArray⟩] 89, bk g3 #[.string ⟨s2.toArray⟩, .string ⟨t2.toArray⟩] 89, bk g1 #[.string ⟨s1.toArray⟩, .string ⟨t1.toArray⟩] 89] [pfZ B35 d36 (ql z), pfZ A33 c34 (qn z), pfZ B25 d26 (ql y), pfZ A23 c24 (qn y), pfZ B15 d16 (ql x), pfZ A13 c14 (qn x)] [18, 19, 20] []) mixed rfl henv hst ?_
  clear henv hst; intro w43 henv hst
  refine tL (i := 0) 2 2 (rg 18 4) rfl (by kernel_rfl) (fun _ _ _ h => h) henv rfl ty_anvil_ratio_Rat rfl hst rfl rfl rfl ?_
  clear henv a; intro a henv
  refine tL (i := 1) 1 1 [19, 20, 21] rfl (by kernel_rfl) (fun _ _ _ h => h) henv rfl ty_anvil_ratio_Rat rfl hst rfl rfl rfl ?_
  clear henv a; intro a henv
  refine tL (i := 2) 0 0 [20, 21] rfl (by kernel_rfl) (fun _ _ _ h => h) henv rfl ty_anvil_ratio_Rat rfl hst rfl rfl rfl ?_
  clear henv a; intro a henv
  refine tM (i := 3) (rg 4 18) rfl (by kernel_rfl) (fun _ _ _ h => h) henv rfl rfl ?_
  clear henv a; intro a henv
  refine tM (i := 4) (rg 5 17) rfl (by kernel_rfl) (fun _ _ _ h => h) henv rfl rfl ?_
  clear henv a; intro a henv
  refine tAg (i := 5) (rg 6 16) (v := .bool true) rfl (by kernel_rfl) (fun _ _ _ h => h) henv rfl rfl rfl rfl (fun _ => rn_move henv rfl) ?_
  clear henv a; intro a henv
  refine tA (i := 6) (rg 7 15) (v := .bool true) rfl (by kernel_rfl) (fun _ _ _ h => h) henv rfl (fun _ => rn_pick henv rfl rfl) ?_
  clear henv a; intro a henv
  refine tM (i := 7) (rg 8 14) rfl (by kernel_rfl) (fun _ _ _ h => h) henv rfl rfl ?_
  clear henv a; intro a henv
  refine tAg (i := 8) (rg 9 13) (v := .bool true) rfl (by kernel_rfl) (fun _ _ _ h => h) henv rfl rfl rfl rfl (fun _ => rn_move henv rfl) ?_
  clear henv a; intro a henv
  refine tA (i := 9) (rg 10 12) (v := .bool true) rfl (by kernel_rfl) (fun _ _ _ h => h) henv rfl (fun _ => rn_pick henv rfl rfl) ?_
  clear henv a; intro a henv
  refine tM (i := 10) (rg 11 11) rfl (by kernel_rfl) (fun _ _ _ h => h) henv rfl rfl ?_
  clear henv a; intro a henv
  refine tLg (i := 11) 5 8 (rg 14 8) rfl (by kernel_rfl) (fun _ _ _ h => h) henv rfl rfl rfl rfl ty_anvil_anvillaw03_Frac rfl hst rfl rfl rfl ?_
  clear henv a; intro a henv
  refine tLg (i := 12) 4 7 (rg 14 8) rfl (by kernel_rfl) (fun _ _ _ h => h) henv rfl rfl rfl rfl ty_anvil_anvillaw03_Frac rfl hst rfl rfl rfl ?_
  clear henv a; intro a henv
  refine tLg (i := 13) 3 6 (rg 14 8) rfl (by kernel_rfl) (fun _ _ _ h => h) henv rfl rfl rfl rfl ty_anvil_anvillaw03_Frac rfl hst rfl rfl rfl ?_
  clear henv a; intro a henv
  refine sAny_oneg (i := 14) (by kernel_rfl) rfl rfl henv rfl rfl rfl (op_buildSlice (z := 2) (pv := #[(0, .agg #[.string ⟨s1.toArray⟩, .string ⟨t1.toArray⟩]), (1, .agg #[.string ⟨s2.toArray⟩, .string ⟨t2.toArray⟩]), (2, .agg #[.string ⟨s3.toArray⟩, .string ⟨t3.toArray⟩])]) (c := #[.string ⟨s1.toArray⟩, .string ⟨t1.toArray⟩, .string ⟨s2.toArray⟩, .string ⟨t2.toArray⟩, .string ⟨s3.toArray⟩, .string ⟨t3.toArray⟩]) henv hst rfl Tryd.underlying103 (ty_anvil_anvillaw03_Frac.size) zero_anvil_anvillaw03_Frac (by decide) (by decide) rfl (by kernel_rfl) ?_)
  clear henv hst a; intro a w45 g44 henv hst
  refine ⟨.inr ⟨hst.kn.pick [1, 2, 3, 7, 8, 9] (rg 0 6), .inr (hst.kn.pick [] [])⟩, ?_⟩
  replace hst := hst.giveBk (f := fF) (F := FF) (k := 0) (n := 3) (es := [(s1, t1), (s2, t2), (s3, t3)]) rfl rfl fF_len rfl (by decide) (esT_P (fun _ => rfl) _ _) (fun _ _ _ _ => esT_foot (fun _ => rfl))
  refine sAny_oneg (i := 15) (by kernel_rfl) rfl rfl henv rfl rfl rfl (op_call henv rfl Tryd.call68 rfl (qlong_no (hst.pat (k := 0) rfl) (by decide) (by intro e he; simp at he; rcases he with rfl | rfl | rfl; exact l1; exact l2; exact l3)) ?_)
  rintro e w46 ⟨rfl, hb⟩
  refine ⟨_, rfl, ?_⟩
  clear henv a; intro a henv
  replace hst := hst.call hb
  clear hb
  refine ⟨.inr ⟨hst.kn.pick [0, 1, 2, 6, 7, 8] (rg 2 6), .inr (hst.kn.pick [] [])⟩, ?_⟩
  refine tAg (i := 16) [17, 21] (v := .bool true) rfl (by kernel_rfl) (fun _ _ _ h => h) henv rfl rfl rfl rfl (fun _ => rn_un henv rfl rfl) ?_
  clear henv a; intro a henv
  refine tA (i := 17) [21] (v := .bool true) rfl (by kernel_rfl) (fun _ _ _ h => h) henv rfl (fun _ => rn_pick henv rfl rfl) ?_
  clear henv a; intro a henv
  refine sAny_one (i := 18) (by kernel_rfl) rfl rfl (op_store (k := 5) (c' := #[.bool (neg (qn x)), .slice A13 (zl (qn x)) c14, .bool (neg (ql x)), .slice B15 (zl (ql x)) d16]) henv hst (ty_anvil_ratio_Rat.size) rfl rfl rfl rfl (by simp) rfl rfl ?_)
  clear henv hst a; intro a w47 henv hst
  refine ⟨.inr ⟨hst.kn.pick [0, 1, 2, 6, 7, 8] (rg 2 6), .inl rfl⟩, ?_⟩
  refine sAny_one (i := 19) (by kernel_rfl) rfl rfl (op_store (k := 4) (c' := #[.bool (neg (qn y)), .slice A23 (zl (qn y)) c24, .bool (neg (ql y)), .slice B25 (zl (ql y)) d26]) henv hst (ty_anvil_ratio_Rat.size) rfl rfl rfl rfl (by simp) rfl rfl ?_)
  clear henv hst a; intro a w48 henv hst
  refine ⟨.inr ⟨hst.kn.pick [0, 1, 2, 6, 7, 8] (rg 2 6), .inl rfl⟩, ?_⟩
  refine sAny_one (i := 20) (by kernel_rfl) rfl rfl (op_store (k := 3) (c' := #[.bool (neg (qn z)), .slice A33 (zl (qn z)) c34, .bool (neg (ql z)), .slice B35 (zl (ql z)) d36]) henv hst (ty_anvil_ratio_Rat.size) rfl rfl rfl rfl (by simp) rfl rfl ?_)
  clear henv hst a; intro a w49 henv hst
  refine ⟨.inr ⟨hst.kn.pick [0, 1, 2, 6, 7, 8] (rg 2 6), .inl rfl⟩, ?_⟩
  refine tA (i := 21) [] (v := .bool true) rfl (by kernel_rfl) (fun _ _ _ h => h) henv rfl (fun _ => rn_assign henv rfl) ?_
  clear henv a; intro a henv
  refine sAny_done (by kernel_rfl) ?_ _
  refine th_n ?_
  refine wp_ret ?_
  refine leave henv (res4 Tryd.results56 (RV.cell henv ty_anvil_ratio_Rat rfl (hst.oat (k := 5) rfl) rfl) (RV.cell henv ty_anvil_ratio_Rat rfl (hst.oat (k := 4) rfl) rfl) (RV.cell henv ty_anvil_ratio_Rat rfl (hst.oat (k := 3) rfl) rfl) (RV.tmp henv rfl)) ?_
  exact ⟨_, _, _, rfl, q_at rfl rfl (hst.pat (k := 7) rfl) (hst.pat (k := 6) rfl), q_at rfl rfl (hst.pat (k := 5) rfl) (hst.pat (k := 4) rfl), q_at rfl rfl (hst.pat (k := 3) rfl) (hst.pat (k := 2) rfl), hst.below⟩
def ThAs (s1 t1 s2 t2 s3 t3 : List UInt8) (x y z : Rat) (o : Bool) : Prop := ∀ w0 : World,
    Calls Tryd.prog 56 #[.agg #[.string ⟨s1.toArray⟩, .string ⟨t1.toArray⟩], .agg #[.string ⟨s2.toArray⟩, .string ⟨t2.toArray⟩], .agg #[.string ⟨s3.toArray⟩, .string ⟨t3.toArray⟩]] w0 fun e w' => ∃ v1 v2 v3, e = .returned (.tuple #[v1, v2, v3, .bool o]) ∧ QAt w' v1 x ∧ QAt w' v2 y ∧ QAt w' v3 z ∧ Below w0.heap.size w0 w'
theorem three_any {s1 t1 s2 t2 s3 t3 : List UInt8} (a1 : s1.length ≤ maxLen) (b1 : t1.length ≤ maxLen) (a2 : s2.length ≤ maxLen) (b2 : t2.length ≤ maxLen) (a3 : s3.length ≤ maxLen) (b3 : t3.length ≤ maxLen) : ∃ x y z o, ThAs s1 t1 s2 t2 s3 t3 x y z o ∧ (o = true → Qs 400 x ∧ Qs 400 y ∧ Qs 400 z) := by
  obtain ⟨x, o1, f1, q1⟩ := alone_any a1 b1
  obtain ⟨y, o2, f2, q2⟩ := alone_any a2 b2
  obtain ⟨z, o3, f3, q3⟩ := alone_any a3 b3
  cases o1 with
  | false => exact ⟨x, y, z, false, fun w0 => three_f1 f1 f2 f3, fun h => by cases h⟩
  | true => cases o2 with
    | false => exact ⟨x, y, z, false, fun w0 => three_f2 f1 f2 f3, fun h => by cases h⟩
    | true => cases o3 with
      | false => exact ⟨x, y, z, false, fun w0 => three_f3 f1 f2 f3, fun h => by cases h⟩
      | true =>
        by_cases l1 : Lg (s1, t1)
        · exact ⟨x, y, z, false, fun w0 => three_lg f1 f2 f3 (.inl l1), fun h => by cases h⟩
        by_cases l2 : Lg (s2, t2)
        · exact ⟨x, y, z, false, fun w0 => three_lg f1 f2 f3 (.inr (.inl l2)), fun h => by cases h⟩
        by_cases l3 : Lg (s3, t3)
        · exact ⟨x, y, z, false, fun w0 => three_lg f1 f2 f3 (.inr (.inr l3)), fun h => by cases h⟩
        exact ⟨x, y, z, true, fun w0 => three_ok f1 f2 f3 l1 l2 l3, fun _ => ⟨q1 l1, q2 l2, q3 l3⟩⟩
set_option maxRecDepth 100000 in
set_option maxHeartbeats 1000000 in
theorem same_qn {A0 B0 : Option Addr} {c0 d0 : Nat} {A1 B1 : Option Addr} {c1 d1 : Nat} {x y : Rat} {w0 : World} (h0 : ZIn w0 A0 c0 (qn x)) (k0 : ZIn w0 B0 d0 (ql x)) (h1 : ZIn w0 A1 c1 (qn y)) (k1 : ZIn w0 B1 d1 (ql y)) {a b : Nat} (sx : Qs a x) (sy : Qs b y) (_hab : a + b ≤ 40000) (hn : qn x ≠ qn y) :
    Calls Tryd.prog 57 #[.agg #[.bool (neg (qn x)), .slice A0 (zl (qn x)) c0, .bool (neg (ql x)), .slice B0 (zl (ql x)) d0], .agg #[.bool (neg (qn y)), .slice A1 (zl (qn y)) c1, .bool (neg (ql y)), .slice B1 (zl (ql y)) d1]] w0 fun e w' => e = .returned (.bool false) ∧ Below w0.heap.size w0 w' := by
  refine enter Tryd.func57 rfl Tryd.ntmps57 rfl ?_
  intro a henv hst
  replace hst := hst.addZ h0 trivial
  replace hst := hst.addZ k0 trivial
  replace hst := hst.addZ h1 trivial
  replace hst := hst.addZ k1 trivial
  refine wp_seq ?_
  refine region_seq ?_
  refine seq_step rfl (op_box (c := #[.bool (neg (qn x)), .slice A0 (zl (qn x)) c0, .bool (neg (ql x)), .slice B0 (zl (ql x)) d0]) henv hst rfl rfl rfl ?_)
  clear henv hst a; intro a w2 g1 henv hst
  refine seq_step rfl (op_box (c := #[.bool (neg (qn y)), .slice A1 (zl (qn y)) c1, .bool (neg (ql y)), .slice B1 (zl (ql y)) d1]) henv hst rfl rfl rfl ?_)
  clear henv hst a; intro a w4 g3 henv hst
  refine sv (v := .bool false) henv rfl (rn_assign henv rfl) ?_
  clear henv a; intro a henv
  refine wpList_nil ?_
  refine th_n ?_
  refine wp_seq ?_
  refine region_any (n := 15) (Sk [bk g3 #[.bool (neg (qn y)), .slice A1 (zl (qn y)) c1, .bool (neg (ql y)), .slice B1 (zl (ql y)) d1] 91, bk g1 #[.bool (neg (qn x)), .slice A0 (zl (qn x)) c0, .bool (neg (ql x)), .slice B0 (zl (ql x)) d0] 91] [pfZ B1 d1 (ql y), pfZ A1 c1 (qn y), pfZ B0 d0 (ql x), pfZ A0 c0 (qn x)] [] []) mixed rfl henv hst ?_
  clear henv hst; intro w5 henv hst
  refine tL (i := 0) 1 1 [1, 3, 4, 5, 6, 7, 8, 9, 10, 11, 12, 13, 14] rfl (by kernel_rfl) (fun _ _ _ h => h) henv rfl ty_anvil_ratio_Rat rfl hst rfl rfl rfl ?_
  clear henv a; intro a henv
  refine tL (i := 2) 0 0 (rg 3 12) rfl (by kernel_rfl) (fun _ _ _ h => h) henv rfl ty_anvil_ratio_Rat rfl hst rfl rfl rfl ?_
  clear henv a; intro a henv
  have hs9 := sx.n
  refine sAny_one (i := 1) (by kernel_rfl) rfl rfl (op_call henv rfl Tryd.call88 rfl (num_q (x := x) (show ZIn _ A0 c0 (qn x) from hst.pat (k := 3) rfl) (show ZIn _ B0 d0 (ql x) from hst.pat (k := 2) rfl)) ?_)
  rintro e w10 ⟨_, rfl, ⟨A6, c7, rfl, hz8⟩, hb⟩
  refine ⟨_, rfl, ?_⟩
  clear henv a; intro a henv
  replace hst := (hst.call hb).addZ hz8 ⟨nou_bk rfl, nou_bk rfl, trivial⟩
  clear hz8
  clear hb
  refine ⟨.inr ⟨hst.kn.pick [0, 1] (rg 1 4), .inr (hst.kn.pick [] [])⟩, ?_⟩
  have hs14 := sy.n
  refine sAny_one (i := 3) (by kernel_rfl) rfl rfl (op_call henv rfl Tryd.call88 rfl (num_q (x := y) (show ZIn _ A1 c1 (qn y) from hst.pat (k := 2) rfl) (show ZIn _ B1 d1 (ql y) from hst.pat (k := 1) rfl)) ?_)
  rintro e w15 ⟨_, rfl, ⟨A11, c12, rfl, hz13⟩, hb⟩
  refine ⟨_, rfl, ?_⟩
  clear henv a; intro a henv
  replace hst := (hst.call hb).addZ hz13 ⟨nou_bk rfl, nou_bk rfl, trivial⟩
  clear hz13
  clear hb
  refine ⟨.inr ⟨hst.kn.pick [0, 1] (rg 2 4), .inr (hst.kn.pick [] [])⟩, ?_⟩
  refine sAny_one (i := 4) (by kernel_rfl) rfl rfl (op_call henv rfl Tryd.call42 rfl (cmp_z (x := (qn x)) (y := (qn y)) (show ZIn _ A6 c7 (qn x) from hst.pat (k := 1) rfl) (show ZIn _ A11 c12 (qn y) from hst.pat (k := 0) rfl)) ?_)
  rintro e w16 ⟨rfl, hb⟩
  refine ⟨_, rfl, ?_⟩
  clear henv a; intro a henv
  replace hst := hst.call hb
  clear hb
  refine ⟨.inr ⟨hst.kn.pick [0, 1] (rg 2 4), .inr (hst.kn.pick [] [])⟩, ?_⟩
  refine tA (i := 5) (rg 6 9) (v := .bool (((qn x) - (qn y)).sign == (0 : Int))) rfl (by kernel_rfl) (fun _ _ _ h => h) henv rfl (fun _ => rn_bin henv rfl rfl rfl) ?_
  clear henv a; intro a henv
  rw [show (((qn x) - (qn y)).sign == (0 : Int)) = false from (beq_eq_false_iff_ne.2 fun e => hn (by have := Int.sign_eq_zero_iff_zero.1 e; omega))] at henv
  refine tM (i := 6) (rg 7 8) rfl (by kernel_rfl) (fun _ _ _ h => h) henv rfl rfl ?_
  clear henv a; intro a henv
  refine sAny_skipg (i := 7) [8, 10, 11, 12, 13, 14] rfl (by kernel_rfl) (fun _ _ _ h => h) henv rfl rfl rfl rfl rfl ?_
  clear henv a; intro a henv
  refine sAny_skipg (i := 9) [10, 11, 12, 13, 14] rfl (by kernel_rfl) (fun _ _ _ h => h) henv rfl rfl rfl rfl rfl ?_
  clear henv a; intro a henv
  refine sAny_skipg (i := 8) [10, 11, 12, 13, 14] rfl (by kernel_rfl) (fun _ _ _ h => h) henv rfl rfl rfl rfl rfl ?_
  clear henv a; intro a henv
  refine sAny_skipg (i := 10) [11, 12, 13, 14] rfl (by kernel_rfl) (fun _ _ _ h => h) henv rfl rfl rfl rfl rfl ?_
  clear henv a; intro a henv
  refine sAny_skipg (i := 11) [12, 13, 14] rfl (by kernel_rfl) (fun _ _ _ h => h) henv rfl rfl rfl rfl rfl ?_
  clear henv a; intro a henv
  refine sAny_skipg (i := 12) [13, 14] rfl (by kernel_rfl) (fun _ _ _ h => h) henv rfl rfl rfl rfl rfl ?_
  clear henv a; intro a henv
  refine tA (i := 13) [14] (v := .bool false) rfl (by kernel_rfl) (fun _ _ _ h => h) henv rfl (fun _ => rn_pick henv rfl rfl) ?_
  clear henv a; intro a henv
  refine tA (i := 14) [] (v := .bool false) rfl (by kernel_rfl) (fun _ _ _ h => h) henv rfl (fun _ => rn_assign henv rfl) ?_
  clear henv a; intro a henv
  refine sAny_done (by kernel_rfl) ?_ _
  refine th_n ?_
  refine wp_ret ?_
  refine leave henv (res1 Tryd.results57 (RV.tmp henv rfl)) ?_
  exact ⟨rfl, hst.below⟩
set_option maxRecDepth 100000 in
set_option maxHeartbeats 1000000 in
theorem same_qd {A0 B0 : Option Addr} {c0 d0 : Nat} {A1 B1 : Option Addr} {c1 d1 : Nat} {x y : Rat} {w0 : World} (h0 : ZIn w0 A0 c0 (qn x)) (k0 : ZIn w0 B0 d0 (ql x)) (h1 : ZIn w0 A1 c1 (qn y)) (k1 : ZIn w0 B1 d1 (ql y)) {a b : Nat} (sx : Qs a x) (sy : Qs b y) (hab : a + b ≤ 40000) (hn : qn x = qn y) (hd : qd x ≠ qd y) :
    Calls Tryd.prog 57 #[.agg #[.bool (neg (qn x)), .slice A0 (zl (qn x)) c0, .bool (neg (ql x)), .slice B0 (zl (ql x)) d0], .agg #[.bool (neg (qn y)), .slice A1 (zl (qn y)) c1, .bool (neg (ql y)), .slice B1 (zl (ql y)) d1]] w0 fun e w' => e = .returned (.bool false) ∧ Below w0.heap.size w0 w' := by
  refine enter Tryd.func57 rfl Tryd.ntmps57 rfl ?_
  intro a henv hst
  replace hst := hst.addZ h0 trivial
  replace hst := hst.addZ k0 trivial
  replace hst := hst.addZ h1 trivial
  replace hst := hst.addZ k1 trivial
  refine wp_seq ?_
  refine region_seq ?_
  refine seq_step rfl (op_box (c := #[.bool (neg (qn x)), .slice A0 (zl (qn x)) c0, .bool (neg (ql x)), .slice B0 (zl (ql x)) d0]) henv hst rfl rfl rfl ?_)
  clear henv hst a; intro a w2 g1 henv hst
  refine seq_step rfl (op_box (c := #[.bool (neg (qn y)), .slice A1 (zl (qn y)) c1, .bool (neg (ql y)), .slice B1 (zl (ql y)) d1]) henv hst rfl rfl rfl ?_)
  clear henv hst a; intro a w4 g3 henv hst
  refine sv (v := .bool false) henv rfl (rn_assign henv rfl) ?_
  clear henv a; intro a henv
  refine wpList_nil ?_
  refine th_n ?_
  refine wp_seq ?_
  refine region_any (n := 15) (Sk [bk g3 #[.bool (neg (qn y)), .slice A1 (zl (qn y)) c1, .bool (neg (ql y)), .slice B1 (zl (ql y)) d1] 91, bk g1 #[.bool (neg (qn x)), .slice A0 (zl (qn x)) c0, .bool (neg (ql x)), .slice B0 (zl (ql x)) d0] 91] [pfZ B1 d1 (ql y), pfZ A1 c1 (qn y), pfZ B0 d0 (ql x), pfZ A0 c0 (qn x)] [] []) mixed rfl henv hst ?_
  clear henv hst; intro w5 henv hst
  refine tL (i := 0) 1 1 [1, 3, 4, 5, 6, 7, 8, 9, 10, 11, 12, 13, 14] rfl (by kernel_rfl) (fun _ _ _ h => h) henv rfl ty_anvil_ratio_Rat rfl hst rfl rfl rfl ?_
  clear henv a; intro a henv
  refine tL (i := 2) 0 0 (rg 3 12) rfl (by kernel_rfl) (fun _ _ _ h => h) henv rfl ty_anvil_ratio_Rat rfl hst rfl rfl rfl ?_
  clear henv a; intro a henv
  have hs9 := sx.n
  refine sAny_one (i := 1) (by kernel_rfl) rfl rfl (op_call henv rfl Tryd.call88 rfl (num_q (x := x) (show ZIn _ A0 c0 (qn x) from hst.pat (k := 3) rfl) (show ZIn _ B0 d0 (ql x) from hst.pat (k := 2) rfl)) ?_)
  rintro e w10 ⟨_, rfl, ⟨A6, c7, rfl, hz8⟩, hb⟩
  refine ⟨_, rfl, ?_⟩
  clear henv a; intro a henv
  replace hst := (hst.call hb).addZ hz8 ⟨nou_bk rfl, nou_bk rfl, trivial⟩
  clear hz8
  clear hb
  refine ⟨.inr ⟨hst.kn.pick [0, 1] (rg 1 4), .inr (hst.kn.pick [] [])⟩, ?_⟩
  have hs14 := sy.n
  refine sAny_one (i := 3) (by kernel_rfl) rfl rfl (op_call henv rfl Tryd.call88 rfl (num_q (x := y) (show ZIn _ A1 c1 (qn y) from hst.pat (k := 2) rfl) (show ZIn _ B1 d1 (ql y) from hst.pat (k := 1) rfl)) ?_)
  rintro e w15 ⟨_, rfl, ⟨A11, c12, rfl, hz13⟩, hb⟩
  refine ⟨_, rfl, ?_⟩
  clear henv a; intro a henv
  replace hst := (hst.call hb).addZ hz13 ⟨nou_bk rfl, nou_bk rfl, trivial⟩
  clear hz13
  clear hb
  refine ⟨.inr ⟨hst.kn.pick [0, 1] (rg 2 4), .inr (hst.kn.pick [] [])⟩, ?_⟩
  refine sAny_one (i := 4) (by kernel_rfl) rfl rfl (op_call henv rfl Tryd.call42 rfl (cmp_z (x := (qn x)) (y := (qn y)) (show ZIn _ A6 c7 (qn x) from hst.pat (k := 1) rfl) (show ZIn _ A11 c12 (qn y) from hst.pat (k := 0) rfl)) ?_)
  rintro e w16 ⟨rfl, hb⟩
  refine ⟨_, rfl, ?_⟩
  clear henv a; intro a henv
  replace hst := hst.call hb
  clear hb
  refine ⟨.inr ⟨hst.kn.pick [0, 1] (rg 2 4), .inr (hst.kn.pick [] [])⟩, ?_⟩
  refine tA (i := 5) (rg 6 9) (v := .bool (((qn x) - (qn y)).sign == (0 : Int))) rfl (by kernel_rfl) (fun _ _ _ h => h) henv rfl (fun _ => rn_bin henv rfl rfl rfl) ?_
  clear henv a; intro a henv
  rw [show (((qn x) - (qn y)).sign == (0 : Int)) = true from (by rw [hn, Int.sub_self]; rfl)] at henv
  refine tM (i := 6) (rg 7 8) rfl (by kernel_rfl) (fun _ _ _ h => h) henv rfl rfl ?_
  clear henv a; intro a henv
  refine tLg (i := 7) 1 1 [8, 10, 11, 12, 13, 14] rfl (by kernel_rfl) (fun _ _ _ h => h) henv rfl rfl rfl rfl ty_anvil_ratio_Rat rfl hst rfl rfl rfl ?_
  clear henv a; intro a henv
  refine tLg (i := 9) 0 0 (rg 10 5) rfl (by kernel_rfl) (fun _ _ _ h => h) henv rfl rfl rfl rfl ty_anvil_ratio_Rat rfl hst rfl rfl rfl ?_
  clear henv a; intro a henv
  have hs20 := sx.d
  refine sAny_oneg (i := 8) (by kernel_rfl) rfl rfl henv rfl rfl rfl (op_call henv rfl Tryd.call89 rfl (den_q (x := x) (show ZIn _ A0 c0 (qn x) from hst.pat (k := 5) rfl) (show ZIn _ B0 d0 (ql x) from hst.pat (k := 4) rfl) sx (by omega)) ?_)
  rintro e w21 ⟨_, rfl, ⟨A17, c18, rfl, hz19⟩, hb⟩
  refine ⟨_, rfl, ?_⟩
  clear henv a; intro a henv
  replace hst := (hst.call hb).addZ hz19 ⟨nou_bk rfl, nou_bk rfl, trivial⟩
  clear hz19
  clear hb
  refine ⟨.inr ⟨hst.kn.pick [0, 1] (rg 3 4), .inr (hst.kn.pick [] [])⟩, ?_⟩
  have hs25 := sy.d
  refine sAny_oneg (i := 10) (by kernel_rfl) rfl rfl henv rfl rfl rfl (op_call henv rfl Tryd.call89 rfl (den_q (x := y) (show ZIn _ A1 c1 (qn y) from hst.pat (k := 4) rfl) (show ZIn _ B1 d1 (ql y) from hst.pat (k := 3) rfl) sy (by omega)) ?_)
  rintro e w26 ⟨_, rfl, ⟨A22, c23, rfl, hz24⟩, hb⟩
  refine ⟨_, rfl, ?_⟩
  clear henv a; intro a henv
  replace hst := (hst.call hb).addZ hz24 ⟨nou_bk rfl, nou_bk rfl, trivial⟩
  clear hz24
  clear hb
  refine ⟨.inr ⟨hst.kn.pick [0, 1] (rg 4 4), .inr (hst.kn.pick [] [])⟩, ?_⟩
  refine sAny_oneg (i := 11) (by kernel_rfl) rfl rfl henv rfl rfl rfl (op_call henv rfl Tryd.call42 rfl (cmp_z (x := (qd x)) (y := (qd y)) (show ZIn _ A17 c18 (qd x) from hst.pat (k := 1) rfl) (show ZIn _ A22 c23 (qd y) from hst.pat (k := 0) rfl)) ?_)
  rintro e w27 ⟨rfl, hb⟩
  refine ⟨_, rfl, ?_⟩
  clear henv a; intro a henv
  replace hst := hst.call hb
  clear hb
  refine ⟨.inr ⟨hst.kn.pick [0, 1] (rg 4 4), .inr (hst.kn.pick [] [])⟩, ?_⟩
  refine tAg (i := 12) [13, 14] (v := .bool (((qd x) - (qd y)).sign == (0 : Int))) rfl (by kernel_rfl) (fun _ _ _ h => h) henv rfl rfl rfl rfl (fun _ => rn_bin henv rfl rfl rfl) ?_
  clear henv a; intro a henv
  rw [show (((qd x) - (qd y)).sign == (0 : Int)) = false from (beq_eq_false_iff_ne.2 fun e => hd (by have := Int.sign_eq_zero_iff_zero.1 e; omega))] at henv
  refine tA (i := 13) [14] (v := .bool false) rfl (by kernel_rfl) (fun _ _ _ h => h) henv rfl (fun _ => rn_pick henv rfl rfl) ?_
  clear henv a; intro a henv
  refine tA (i := 14) [] (v := .bool false) rfl (by kernel_rfl) (fun _ _ _ h => h) henv rfl (fun _ => rn_assign henv rfl) ?_
  clear henv a; intro a henv
  refine sAny_done (by kernel_rfl) ?_ _
  refine th_n ?_
  refine wp_ret ?_
  refine leave henv (res1 Tryd.results57 (RV.tmp henv rfl)) ?_
  exact ⟨rfl, hst.below⟩
set_option maxRecDepth 100000 in
set_option maxHeartbeats 1000000 in
theorem same_qe {A0 B0 : Option Addr} {c0 d0 : Nat} {A1 B1 : Option Addr} {c1 d1 : Nat} {x y : Rat} {w0 : World} (h0 : ZIn w0 A0 c0 (qn x)) (k0 : ZIn w0 B0 d0 (ql x)) (h1 : ZIn w0 A1 c1 (qn y)) (k1 : ZIn w0 B1 d1 (ql y)) {a b : Nat} (sx : Qs a x) (sy : Qs b y) (hab : a + b ≤ 40000) (hn : qn x = qn y) (hd : qd x = qd y) :
    Calls Tryd.prog 57 #[.agg #[.bool (neg (qn x)), .slice A0 (zl (qn x)) c0, .bool (neg (ql x)), .slice B0 (zl (ql x)) d0], .agg #[.bool (neg (qn y)), .slice A1 (zl (qn y)) c1, .bool (neg (ql y)), .slice B1 (zl (ql y)) d1]] w0 fun e w' => e = .returned (.bool true) ∧ Below w0.heap.size w0 w' := by
  refine enter Tryd.func57 rfl Tryd.ntmps57 rfl ?_
  intro a henv hst
  replace hst := hst.addZ h0 trivial
  replace hst := hst.addZ k0 trivial
  replace hst := hst.addZ h1 trivial
  replace hst := hst.addZ k1 trivial
  refine wp_seq ?_
  refine region_seq ?_
  refine seq_step rfl (op_box (c := #[.bool (neg (qn x)), .slice A0 (zl (qn x)) c0, .bool (neg (ql x)), .slice B0 (zl (ql x)) d0]) henv hst rfl rfl rfl ?_)
  clear henv hst a; intro a w2 g1 henv hst
  refine seq_step rfl (op_box (c := #[.bool (neg (qn y)), .slice A1 (zl (qn y)) c1, .bool (neg (ql y)), .slice B1 (zl (ql y)) d1]) henv hst rfl rfl rfl ?_)
  clear henv hst a; intro a w4 g3 henv hst
  refine sv (v := .bool false) henv rfl (rn_assign henv rfl) ?_
  clear henv a; intro a henv
  refine wpList_nil ?_
  refine th_n ?_
  refine wp_seq ?_
  refine region_any (n := 15) (Sk [bk g3 #[.bool (neg (qn y)), .slice A1 (zl (qn y)) c1, .bool (neg (ql y)), .slice B1 (zl (ql y)) d1] 91, bk g1 #[.bool (neg (qn x)), .slice A0 (zl (qn x)) c0, .bool (neg (ql x)), .slice B0 (zl (ql x)) d0] 91] [pfZ B1 d1 (ql y), pfZ A1 c1 (qn y), pfZ B0 d0 (ql x), pfZ A0 c0 (qn x)] [] []) mixed rfl henv hst ?_
  clear henv hst; intro w5 henv hst
  refine tL (i := 0) 1 1 [1, 3, 4, 5, 6, 7, 8, 9, 10, 11, 12, 13, 14] rfl (by kernel_rfl) (fun _ _ _ h => h) henv rfl ty_anvil_ratio_Rat rfl hst rfl rfl rfl ?_
  clear henv a; intro a henv
  refine tL (i := 2) 0 0 (rg 3 12) rfl (by kernel_rfl) (fun _ _ _ h => h) henv rfl ty_anvil_ratio_Rat rfl hst rfl rfl rfl ?_
  clear henv a; intro a henv
  have hs9 := sx.n
  refine sAny_one (i := 1) (by kernel_rfl) rfl rfl (op_call henv rfl Tryd.call88 rfl (num_q (x := x) (show ZIn _ A0 c0 (qn x) from hst.pat (k := 3) rfl) (show ZIn _ B0 d0 (ql x) from hst.pat (k := 2) rfl)) ?_)
  rintro e w10 ⟨_, rfl, ⟨A6, c7, rfl, hz8⟩, hb⟩
  refine ⟨_, rfl, ?_⟩
  clear henv a; intro a henv
  replace hst := (hst.call hb).addZ hz8 ⟨nou_bk rfl, nou_bk rfl, trivial⟩
  clear hz8
  clear hb
  refine ⟨.inr ⟨hst.kn.pick [0, 1] (rg 1 4), .inr (hst.kn.pick [] [])⟩, ?_⟩
  have hs14 := sy.n
  refine sAny_one (i := 3) (by kernel_rfl) rfl rfl (op_call henv rfl Tryd.call88 rfl (num_q (x := y) (show ZIn _ A1 c1 (qn y) from hst.pat (k := 2) rfl) (show ZIn _ B1 d1 (ql y) from hst.pat (k := 1) rfl)) ?_)
  rintro e w15 ⟨_, rfl, ⟨A11, c12, rfl, hz13⟩, hb⟩
  refine ⟨_, rfl, ?_⟩
  clear henv a; intro a henv
  replace hst := (hst.call hb).addZ hz13 ⟨nou_bk rfl, nou_bk rfl, trivial⟩
  clear hz13
  clear hb
  refine ⟨.inr ⟨hst.kn.pick [0, 1] (rg 2 4), .inr (hst.kn.pick [] [])⟩, ?_⟩
  refine sAny_one (i := 4) (by kernel_rfl) rfl rfl (op_call henv rfl Tryd.call42 rfl (cmp_z (x := (qn x)) (y := (qn y)) (show ZIn _ A6 c7 (qn x) from hst.pat (k := 1) rfl) (show ZIn _ A11 c12 (qn y) from hst.pat (k := 0) rfl)) ?_)
  rintro e w16 ⟨rfl, hb⟩
  refine ⟨_, rfl, ?_⟩
  clear henv a; intro a henv
  replace hst := hst.call hb
  clear hb
  refine ⟨.inr ⟨hst.kn.pick [0, 1] (rg 2 4), .inr (hst.kn.pick [] [])⟩, ?_⟩
  refine tA (i := 5) (rg 6 9) (v := .bool (((qn x) - (qn y)).sign == (0 : Int))) rfl (by kernel_rfl) (fun _ _ _ h => h) henv rfl (fun _ => rn_bin henv rfl rfl rfl) ?_
  clear henv a; intro a henv
  rw [show (((qn x) - (qn y)).sign == (0 : Int)) = true from (by rw [hn, Int.sub_self]; rfl)] at henv
  refine tM (i := 6) (rg 7 8) rfl (by kernel_rfl) (fun _ _ _ h => h) henv rfl rfl ?_
  clear henv a; intro a henv
  refine tLg (i := 7) 1 1 [8, 10, 11, 12, 13, 14] rfl (by kernel_rfl) (fun _ _ _ h => h) henv rfl rfl rfl rfl ty_anvil_ratio_Rat rfl hst rfl rfl rfl ?_
  clear henv a; intro a henv
  refine tLg (i := 9) 0 0 (rg 10 5) rfl (by kernel_rfl) (fun _ _ _ h => h) henv rfl rfl rfl rfl ty_anvil_ratio_Rat rfl hst rfl rfl rfl ?_
  clear henv a; intro a henv
  have hs20 := sx.d
  refine sAny_oneg (i := 8) (by kernel_rfl) rfl rfl henv rfl rfl rfl (op_call henv rfl Tryd.call89 rfl (den_q (x := x) (show ZIn _ A0 c0 (qn x) from hst.pat (k := 5) rfl) (show ZIn _ B0 d0 (ql x) from hst.pat (k := 4) rfl) sx (by omega)) ?_)
  rintro e w21 ⟨_, rfl, ⟨A17, c18, rfl, hz19⟩, hb⟩
  refine ⟨_, rfl, ?_⟩
  clear henv a; intro a henv
  replace hst := (hst.call hb).addZ hz19 ⟨nou_bk rfl, nou_bk rfl, trivial⟩
  clear hz19
  clear hb
  refine ⟨.inr ⟨hst.kn.pick [0, 1] (rg 3 4), .inr (hst.kn.pick [] [])⟩, ?_⟩
  have hs25 := sy.d
  refine sAny_oneg (i := 10) (by kernel_rfl) rfl rfl henv rfl rfl rfl (op_call henv rfl Tryd.call89 rfl (den_q (x := y) (show ZIn _ A1 c1 (qn y) from hst.pat (k := 4) rfl) (show ZIn _ B1 d1 (ql y) from hst.pat (k := 3) rfl) sy (by omega)) ?_)
  rintro e w26 ⟨_, rfl, ⟨A22, c23, rfl, hz24⟩, hb⟩
  refine ⟨_, rfl, ?_⟩
  clear henv a; intro a henv
  replace hst := (hst.call hb).addZ hz24 ⟨nou_bk rfl, nou_bk rfl, trivial⟩
  clear hz24
  clear hb
  refine ⟨.inr ⟨hst.kn.pick [0, 1] (rg 4 4), .inr (hst.kn.pick [] [])⟩, ?_⟩
  refine sAny_oneg (i := 11) (by kernel_rfl) rfl rfl henv rfl rfl rfl (op_call henv rfl Tryd.call42 rfl (cmp_z (x := (qd x)) (y := (qd y)) (show ZIn _ A17 c18 (qd x) from hst.pat (k := 1) rfl) (show ZIn _ A22 c23 (qd y) from hst.pat (k := 0) rfl)) ?_)
  rintro e w27 ⟨rfl, hb⟩
  refine ⟨_, rfl, ?_⟩
  clear henv a; intro a henv
  replace hst := hst.call hb
  clear hb
  refine ⟨.inr ⟨hst.kn.pick [0, 1] (rg 4 4), .inr (hst.kn.pick [] [])⟩, ?_⟩
  refine tAg (i := 12) [13, 14] (v := .bool (((qd x) - (qd y)).sign == (0 : Int))) rfl (by kernel_rfl) (fun _ _ _ h => h) henv rfl rfl rfl rfl (fun _ => rn_bin henv rfl rfl rfl) ?_
  clear henv a; intro a henv
  rw [show (((qd x) - (qd y)).sign == (0 : Int)) = true from (by rw [hd, Int.sub_self]; rfl)] at henv
  refine tA (i := 13) [14] (v := .bool true) rfl (by kernel_rfl) (fun _ _ _ h => h) henv rfl (fun _ => rn_pick henv rfl rfl) ?_
  clear henv a; intro a henv
  refine tA (i := 14) [] (v := .bool true) rfl (by kernel_rfl) (fun _ _ _ h => h) henv rfl (fun _ => rn_assign henv rfl) ?_
  clear henv a; intro a henv
  refine sAny_done (by kernel_rfl) ?_ _
  refine th_n ?_
  refine wp_ret ?_
  refine leave henv (res1 Tryd.results57 (RV.tmp henv rfl)) ?_
  exact ⟨rfl, hst.below⟩
theorem same_q {A0 B0 : Option Addr} {c0 d0 : Nat} {A1 B1 : Option Addr} {c1 d1 : Nat} {x y : Rat} {w0 : World} (h0 : ZIn w0 A0 c0 (qn x)) (k0 : ZIn w0 B0 d0 (ql x)) (h1 : ZIn w0 A1 c1 (qn y)) (k1 : ZIn w0 B1 d1 (ql y)) {a b : Nat} (sx : Qs a x) (sy : Qs b y) (hab : a + b ≤ 40000) :
    Calls Tryd.prog 57 #[.agg #[.bool (neg (qn x)), .slice A0 (zl (qn x)) c0, .bool (neg (ql x)), .slice B0 (zl (ql x)) d0], .agg #[.bool (neg (qn y)), .slice A1 (zl (qn y)) c1, .bool (neg (ql y)), .slice B1 (zl (ql y)) d1]] w0 fun e w' => e = .returned (.bool (decide (x = y))) ∧ Below w0.heap.size w0 w' := by
  by_cases hn : qn x = qn y
  · by_cases hd : qd x = qd y
    · rw [decide_eq_true (q_ext hn hd)]
      exact same_qe h0 k0 h1 k1 sx sy hab hn hd
    · rw [decide_eq_false fun e => hd (by rw [e])]
      exact same_qd h0 k0 h1 k1 sx sy hab hn hd
  · rw [decide_eq_false fun e => hn (by rw [e])]
    exact same_qn h0 k0 h1 k1 sx sy hab hn
set_option maxRecDepth 100000 in
set_option maxHeartbeats 16000000 in
theorem qorder_no {s1 t1 s2 t2 s3 t3 : List UInt8} {x y z : Rat} {w0 : World} (f1 : ThAs s1 t1 s2 t2 s3 t3 x y z false) :
    Calls Tryd.prog 10 #[.agg #[.string ⟨s1.toArray⟩, .string ⟨t1.toArray⟩], .agg #[.string ⟨s2.toArray⟩, .string ⟨t2.toArray⟩], .agg #[.string ⟨s3.toArray⟩, .string ⟨t3.toArray⟩]] w0 fun e w' => e = .returned (.bool true) ∧ Below w0.heap.size w0 w' := by
  refine enter Tryd.func10 rfl Tryd.ntmps10 rfl ?_
  intro a henv hst
  refine wp_seq ?_
  refine region_seq ?_
  refine seq_step rfl (op_box (c := #[.string ⟨s1.toArray⟩, .string ⟨t1.toArray⟩]) henv hst rfl rfl rfl ?_)
  clear henv hst a; intro a w2 g1 henv hst
  refine seq_step rfl (op_box (c := #[.string ⟨s2.toArray⟩, .string ⟨t2.toArray⟩]) henv hst rfl rfl rfl ?_)
  clear henv hst a; intro a w4 g3 henv hst
  refine seq_step rfl (op_box (c := #[.string ⟨s3.toArray⟩, .string ⟨t3.toArray⟩]) henv hst rfl rfl rfl ?_)
  clear henv hst a; intro a w6 g5 henv hst
  refine sv (v := .bool false) henv rfl (rn_assign henv rfl) ?_
  clear henv a; intro a henv
  refine wpList_nil ?_
  refine th_n ?_
  refine wp_seq ?_
  refine wp_seq ?_
  refine region_seq ?_
  refine seq_step rfl (op_call henv rfl Tryd.call55 rfl (qworks) ?_)
  rintro e w7 ⟨rfl, hb⟩
  refine ⟨_, rfl, ?_⟩
  clear henv a; intro a henv
  replace hst := hst.call hb
  clear hb
  refine sv (v := .bool false) henv rfl (rn_un henv rfl rfl) ?_
  clear henv a; intro a henv
  refine wpList_nil ?_
  refine th_n ?_
  refine if_f henv rfl (rfl) ?_
  refine wp_skip ?_
  refine th_n ?_
  refine wp_seq ?_
  refine region_seq ?_
  revert a
  refine sA (v := .agg #[.string ⟨s1.toArray⟩, .string ⟨t1.toArray⟩]) rfl (fun _ henv => rn_load0 henv ty_anvil_anvillaw03_Frac rfl (hst.oat (k := 2) rfl) rfl) ?_
  refine sA (v := .agg #[.string ⟨s2.toArray⟩, .string ⟨t2.toArray⟩]) rfl (fun _ henv => rn_load0 henv ty_anvil_anvillaw03_Frac rfl (hst.oat (k := 1) rfl) rfl) ?_
  refine sA (v := .agg #[.string ⟨s3.toArray⟩, .string ⟨t3.toArray⟩]) rfl (fun _ henv => rn_load0 henv ty_anvil_anvillaw03_Frac rfl (hst.oat (k := 0) rfl) rfl) ?_
  intro a henv
  refine seq_step rfl (op_call henv rfl Tryd.call56 rfl (f1 _) ?_)
  rintro e w26 ⟨_, _, _, rfl, ⟨A8, c9, B10, d11, rfl, hz12, hz13⟩, ⟨A14, c15, B16, d17, rfl, hz18, hz19⟩, ⟨A20, c21, B22, d23, rfl, hz24, hz25⟩, hb⟩
  refine ⟨_, rfl, ?_⟩
  clear henv a; intro a henv
  replace hst := ((((((hst.call hb).addZ hz12 ⟨nou_bk rfl, nou_bk rfl, nou_bk rfl, trivial⟩).addZ hz13 ⟨nou_bk rfl, nou_bk rfl, nou_bk rfl, trivial⟩).addZ hz18 ⟨nou_bk rfl, nou_bk rfl, nou_bk rfl, trivial⟩).addZ hz19 ⟨nou_bk rfl, nou_bk rfl, nou_bk rfl, trivial⟩).addZ hz24 ⟨nou_bk rfl, nou_bk rfl, nou_bk rfl, trivial⟩).addZ hz25 ⟨nou_bk rfl, nou_bk rfl, nou_bk rfl, trivial⟩
  clear hz12 hz13 hz18 hz19 hz24 hz25
  clear hb
  revert a
  refine mA rfl rfl ?_
  refine sA (v := .agg #[.bool (neg (qn x)), .slice A8 (zl (qn x)) c9, .bool (neg (ql x)), .slice B10 (zl (ql x)) d11]) rfl (fun _ henv => rn_extract henv rfl rfl) ?_
  refine sA (v := .agg #[.bool (neg (qn y)), .slice A14 (zl (qn y)) c15, .bool (neg (ql y)), .slice B16 (zl (ql y)) d17]) rfl (fun _ henv => rn_extract henv rfl rfl) ?_
  refine sA (v := .agg #[.bool (neg (qn z)), .slice A20 (zl (qn z)) c21, .bool (neg (ql z)), .slice B22 (zl (ql z)) d23]) rfl (fun _ henv => rn_extract henv rfl rfl) ?_
  refine sA (v := .bool false) rfl (fun _ henv => rn_extract henv rfl rfl) ?_
  intro a henv
  refine seq_step rfl (op_alloc (c := #[.bool (neg (qn 0)), .slice none (zl (qn 0)) 0, .bool (neg (ql 0)), .slice none (zl (ql 0)) 0]) henv hst rfl zero_anvil_ratio_Rat qcells ?_)
  clear henv hst a; intro a w28 g27 henv hst
  refine seq_step rfl (op_alloc (c := #[.bool (neg (qn 0)), .slice none (zl (qn 0)) 0, .bool (neg (ql 0)), .slice none (zl (ql 0)) 0]) henv hst rfl zero_anvil_ratio_Rat qcells ?_)
  clear henv hst a; intro a w30 g29 henv hst
  refine seq_step rfl (op_alloc (c := #[.bool (neg (qn 0)), .slice none (zl (qn 0)) 0, .bool (neg (ql 0)), .slice none (zl (ql 0)) 0]) henv hst rfl zero_anvil_ratio_Rat qcells ?_)
  clear henv hst a; intro a w32 g31 henv hst
  refine seq_step rfl (op_store (k := 2) (c' := #[.bool (neg (qn x)), .slice A8 (zl (qn x)) c9, .bool (neg (ql x)), .slice B10 (zl (ql x)) d11]) henv hst (ty_anvil_ratio_Rat.size) rfl rfl rfl rfl (by simp) rfl rfl ?_)
  clear henv hst a; intro a w33 henv hst
  refine seq_step rfl (op_store (k := 1) (c' := #[.bool (neg (qn y)), .slice A14 (zl (qn y)) c15, .bool (neg (ql y)), .slice B16 (zl (ql y)) d17]) henv hst (ty_anvil_ratio_Rat.size) rfl rfl rfl rfl (by simp) rfl rfl ?_)
  clear henv hst a; intro a w34 henv hst
  refine seq_step rfl (op_store (k := 0) (c' := #[.bool (neg (qn z)), .slice A20 (zl (qn z)) c21, .bool (neg (ql z)), .slice B22 (zl (ql z)) d23]) henv hst (ty_anvil_ratio_Rat.size) rfl rfl rfl rfl (by simp) rfl rfl ?_)
  clear henv hst a; intro a w35 henv hst
  refine sv (v := .bool false) henv rfl (rn_assign henv rfl) ?_
  clear henv a; intro a henv
  refine wpList_nil ?_
  refine th_n ?_
  refine wp_seq ?_
  refine wp_seq ?_
  refine region_seq ?_
  revert a
  refine mA rfl rfl ?_
  refine sA (v := .bool true) rfl (fun _ henv => rn_un henv rfl rfl) ?_
  intro a henv
  refine wpList_nil ?_
  refine th_n ?_
  refine if_t henv rfl (rfl) ?_
  refine wp_seq ?_
  refine region_seq ?_
  refine sv (v := .bool true) henv rfl (rn_assign henv rfl) ?_
  clear henv a; intro a henv
  refine wpList_nil ?_
  refine th_n ?_
  refine wp_ret ?_
  refine th_r ?_
  refine leave henv (res1 Tryd.results10 (RV.tmp henv rfl)) ?_
  exact ⟨rfl, hst.below⟩
set_option maxRecDepth 100000 in
set_option maxHeartbeats 16000000 in
theorem qorder_ok {s1 t1 s2 t2 s3 t3 : List UInt8} {x y z : Rat} {w0 : World} (f1 : ThAs s1 t1 s2 t2 s3 t3 x y z true) (sx : Qs 400 x) (sy : Qs 400 y) (sz : Qs 400 z) :
    Calls Tryd.prog 10 #[.agg #[.string ⟨s1.toArray⟩, .string ⟨t1.toArray⟩], .agg #[.string ⟨s2.toArray⟩, .string ⟨t2.toArray⟩], .agg #[.string ⟨s3.toArray⟩, .string ⟨t3.toArray⟩]] w0 fun e w' => e = .returned (.bool true) ∧ Below w0.heap.size w0 w' := by
  refine enter Tryd.func10 rfl Tryd.ntmps10 rfl ?_
  intro a henv hst
  refine wp_seq ?_
  refine region_seq ?_
  refine seq_step rfl (op_box (c := #[.string ⟨s1.toArray⟩, .string ⟨t1.toArray⟩]) henv hst rfl rfl rfl ?_)
  clear henv hst a; intro a w2 g1 henv hst
  refine seq_step rfl (op_box (c := #[.string ⟨s2.toArray⟩, .string ⟨t2.toArray⟩]) henv hst rfl rfl rfl ?_)
  clear henv hst a; intro a w4 g3 henv hst
  refine seq_step rfl (op_box (c := #[.string ⟨s3.toArray⟩, .string ⟨t3.toArray⟩]) henv hst rfl rfl rfl ?_)
  clear henv hst a; intro a w6 g5 henv hst
  refine sv (v := .bool false) henv rfl (rn_assign henv rfl) ?_
  clear henv a; intro a henv
  refine wpList_nil ?_
  refine th_n ?_
  refine wp_seq ?_
  refine wp_seq ?_
  refine region_seq ?_
  refine seq_step rfl (op_call henv rfl Tryd.call55 rfl (qworks) ?_)
  rintro e w7 ⟨rfl, hb⟩
  refine ⟨_, rfl, ?_⟩
  clear henv a; intro a henv
  replace hst := hst.call hb
  clear hb
  refine sv (v := .bool false) henv rfl (rn_un henv rfl rfl) ?_
  clear henv a; intro a henv
  refine wpList_nil ?_
  refine th_n ?_
  refine if_f henv rfl (rfl) ?_
  refine wp_skip ?_
  refine th_n ?_
  refine wp_seq ?_
  refine region_seq ?_
  revert a
  refine sA (v := .agg #[.string ⟨s1.toArray⟩, .string ⟨t1.toArray⟩]) rfl (fun _ henv => rn_load0 henv ty_anvil_anvillaw03_Frac rfl (hst.oat (k := 2) rfl) rfl) ?_
  refine sA (v := .agg #[.string ⟨s2.toArray⟩, .string ⟨t2.toArray⟩]) rfl (fun _ henv => rn_load0 henv ty_anvil_anvillaw03_Frac rfl (hst.oat (k := 1) rfl) rfl) ?_
  refine sA (v := .agg #[.string ⟨s3.toArray⟩, .string ⟨t3.toArray⟩]) rfl (fun _ henv => rn_load0 henv ty_anvil_anvillaw03_Frac rfl (hst.oat (k := 0) rfl) rfl) ?_
  intro a henv
  refine seq_step rfl (op_call henv rfl Tryd.call56 rfl (f1 _) ?_)
  rintro e w26 ⟨_, _, _, rfl, ⟨A8, c9, B10, d11, rfl, hz12, hz13⟩, ⟨A14, c15, B16, d17, rfl, hz18, hz19⟩, ⟨A20, c21, B22, d23, rfl, hz24, hz25⟩, hb⟩
  refine ⟨_, rfl, ?_⟩
  clear henv a; intro a henv
  replace hst := ((((((hst.call hb).addZ hz12 ⟨nou_bk rfl, nou_bk rfl, nou_bk rfl, trivial⟩).addZ hz13 ⟨nou_bk rfl, nou_bk rfl, nou_bk rfl, trivial⟩).addZ hz18 ⟨nou_bk rfl, nou_bk rfl, nou_bk rfl, trivial⟩).addZ hz19 ⟨nou_bk rfl, nou_bk rfl, nou_bk rfl, trivial⟩).addZ hz24 ⟨nou_bk rfl, nou_bk rfl, nou_bk rfl, trivial⟩).addZ hz25 ⟨nou_bk rfl, nou_bk rfl, nou_bk rfl, trivial⟩
  clear hz12 hz13 hz18 hz19 hz24 hz25
  clear hb
  revert a
  refine mA rfl rfl ?_
  refine sA (v := .agg #[.bool (neg (qn x)), .slice A8 (zl (qn x)) c9, .bool (neg (ql x)), .slice B10 (zl (ql x)) d11]) rfl (fun _ henv => rn_extract henv rfl rfl) ?_
  refine sA (v := .agg #[.bool (neg (qn y)), .slice A14 (zl (qn y)) c15, .bool (neg (ql y)), .slice B16 (zl (ql y)) d17]) rfl (fun _ henv => rn_extract henv rfl rfl) ?_
  refine sA (v := .agg #[.bool (neg (qn z)), .slice A20 (zl (qn z)) c21, .bool (neg (ql z)), .slice B22 (zl (ql z)) d23]) rfl (fun _ henv => rn_extract henv rfl rfl) ?_
  refine sA (v := .bool true) rfl (fun _ henv => rn_extract henv rfl rfl) ?_
  intro a henv
  refine seq_step rfl (op_alloc (c := #[.bool (neg (qn 0)), .slice none (zl (qn 0)) 0, .bool (neg (ql 0)), .slice none (zl (ql 0)) 0]) henv hst rfl zero_anvil_ratio_Rat qcells ?_)
  clear henv hst a; intro a w28 g27 henv hst
  refine seq_step rfl (op_alloc (c := #[.bool (neg (qn 0)), .slice none (zl (qn 0)) 0, .bool (neg (ql 0)), .slice none (zl (ql 0)) 0]) henv hst rfl zero_anvil_ratio_Rat qcells ?_)
  clear henv hst a; intro a w30 g29 henv hst
  refine seq_step rfl (op_alloc (c := #[.bool (neg (qn 0)), .slice none (zl (qn 0)) 0, .bool (neg (ql 0)), .slice none (zl (ql 0)) 0]) henv hst rfl zero_anvil_ratio_Rat qcells ?_)
  clear henv hst a; intro a w32 g31 henv hst
  refine seq_step rfl (op_store (k := 2) (c' := #[.bool (neg (qn x)), .slice A8 (zl (qn x)) c9, .bool (neg (ql x)), .slice B10 (zl (ql x)) d11]) henv hst (ty_anvil_ratio_Rat.size) rfl rfl rfl rfl (by simp) rfl rfl ?_)
  clear henv hst a; intro a w33 henv hst
  refine seq_step rfl (op_store (k := 1) (c' := #[.bool (neg (qn y)), .slice A14 (zl (qn y)) c15, .bool (neg (ql y)), .slice B16 (zl (ql y)) d17]) henv hst (ty_anvil_ratio_Rat.size) rfl rfl rfl rfl (by simp) rfl rfl ?_)
  clear henv hst a; intro a w34 henv hst
  refine seq_step rfl (op_store (k := 0) (c' := #[.bool (neg (qn z)), .slice A20 (zl (qn z)) c21, .bool (neg (ql z)), .slice B22 (zl (ql z)) d23]) henv hst (ty_anvil_ratio_Rat.size) rfl rfl rfl rfl (by simp) rfl rfl ?_)
  clear henv hst a; intro a w35 henv hst
  refine sv (v := .bool true) henv rfl (rn_assign henv rfl) ?_
  clear henv a; intro a henv
  refine wpList_nil ?_
  refine th_n ?_
  refine wp_seq ?_
  refine wp_seq ?_
  refine region_seq ?_
  revert a
  refine mA rfl rfl ?_
  refine sA (v := .bool false) rfl (fun _ henv => rn_un henv rfl rfl) ?_
  intro a henv
  refine wpList_nil ?_
  refine th_n ?_
  refine if_f henv rfl (rfl) ?_
  refine wp_skip ?_
  refine th_n ?_
  refine wp_seq ?_
  refine region_seq ?_
  revert a
  refine sA (v := .agg #[.bool (neg (qn x)), .slice A8 (zl (qn x)) c9, .bool (neg (ql x)), .slice B10 (zl (ql x)) d11]) rfl (fun _ henv => rn_load0 henv ty_anvil_ratio_Rat rfl (hst.oat (k := 2) rfl) rfl) ?_
  refine sA (v := .agg #[.bool (neg (qn y)), .slice A14 (zl (qn y)) c15, .bool (neg (ql y)), .slice B16 (zl (ql y)) d17]) rfl (fun _ henv => rn_load0 henv ty_anvil_ratio_Rat rfl (hst.oat (k := 1) rfl) rfl) ?_
  intro a henv
  refine seq_step rfl (op_call henv rfl Tryd.call64 rfl (cmp_q (x := x) (y := y) (show ZIn _ A8 c9 (qn x) from hst.pat (k := 5) rfl) (show ZIn _ B10 d11 (ql x) from hst.pat (k := 4) rfl) (show ZIn _ A14 c15 (qn y) from hst.pat (k := 3) rfl) (show ZIn _ B16 d17 (ql y) from hst.pat (k := 2) rfl) sx sy (by omega)) ?_)
  rintro e w36 ⟨rfl, hb⟩
  refine ⟨_, rfl, ?_⟩
  clear henv a; intro a henv
  replace hst := hst.call hb
  clear hb
  refine sv (v := .int .i64 (cmpQ x y)) henv rfl (rn_assign henv rfl) ?_
  clear henv a; intro a henv
  refine wpList_nil ?_
  refine th_n ?_
  refine wp_seq ?_
  refine region_seq ?_
  refine sv (v := .agg #[.bool (neg (qn x)), .slice A8 (zl (qn x)) c9, .bool (neg (ql x)), .slice B10 (zl (ql x)) d11]) henv rfl (rn_load0 henv ty_anvil_ratio_Rat rfl (hst.oat (k := 2) rfl) rfl) ?_
  clear henv a; intro a henv
  have hs40 : zl x.floor ≤ 400 := floor_sz sx
  refine seq_step rfl (op_call henv rfl Tryd.call66 rfl (floor_q (x := x) (show ZIn _ A8 c9 (qn x) from hst.pat (k := 5) rfl) (show ZIn _ B10 d11 (ql x) from hst.pat (k := 4) rfl) sx (by omega)) ?_)
  rintro e w41 ⟨_, rfl, ⟨A37, c38, rfl, hz39⟩, hb⟩
  refine ⟨_, rfl, ?_⟩
  clear henv a; intro a henv
  replace hst := (hst.call hb).addZ hz39 ⟨nou_bk rfl, nou_bk rfl, nou_bk rfl, nou_bk rfl, nou_bk rfl, nou_bk rfl, trivial⟩
  clear hz39
  clear hb
  have hq48 : Qs 401 (x.floor : Rat) := by have h := qs_intz (floor_sz sx); exact h
  refine seq_step rfl (op_call henv rfl Tryd.call65 rfl (of_int_q (z := x.floor) (show ZIn _ A37 c38 x.floor from hst.pat (k := 0) rfl)) ?_)
  rintro e w49 ⟨_, rfl, ⟨A42, c43, B44, d45, rfl, hz46, hz47⟩, hb⟩
  refine ⟨_, rfl, ?_⟩
  clear henv a; intro a henv
  replace hst := ((hst.call hb).addZ hz46 ⟨nou_bk rfl, nou_bk rfl, nou_bk rfl, nou_bk rfl, nou_bk rfl, nou_bk rfl, trivial⟩).addZ hz47 ⟨nou_bk rfl, nou_bk rfl, nou_bk rfl, nou_bk rfl, nou_bk rfl, nou_bk rfl, trivial⟩
  clear hz46 hz47
  clear hb
  refine seq_step rfl (op_alloc (c := #[.bool (neg (qn 0)), .slice none (zl (qn 0)) 0, .bool (neg (ql 0)), .slice none (zl (ql 0)) 0]) henv hst rfl zero_anvil_ratio_Rat qcells ?_)
  clear henv hst a; intro a w51 g50 henv hst
  refine seq_step rfl (op_store (k := 0) (c' := #[.bool (neg (qn (x.floor : Rat))), .slice A42 (zl (qn (x.floor : Rat))) c43, .bool (neg (ql (x.floor : Rat))), .slice B44 (zl (ql (x.floor : Rat))) d45]) henv hst (ty_anvil_ratio_Rat.size) rfl rfl rfl rfl (by simp) rfl rfl ?_)
  clear henv hst a; intro a w52 henv hst
  refine wpList_nil ?_
  refine th_n ?_
  refine wp_seq ?_
  refine region_any (n := 58) (Sk [bk g50 #[.bool (neg (qn (x.floor : Rat))), .slice A42 (zl (qn (x.floor : Rat))) c43, .bool (neg (ql (x.floor : Rat))), .slice B44 (zl (ql (x.floor : Rat))) d45] 91, bk g31 #[.bool (neg (qn z)), .slice A20 (zl (qn z)) c21, .bool (neg (ql z)), .slice B22 (zl (ql z)) d23] 91, bk g29 #[.bool (neg (qn y)), .slice A14 (zl (qn y)) c15, .bool (neg (ql y)), .slice B16 (zl (ql y)) d17] 91, bk g27 #[.bool (neg (qn x)), .slice A8 (zl (qn x)) c9, .bool (neg (ql x)), .slice B10 (zl (ql x)) d11] 91, bk g5 #[.string ⟨s3.toArray⟩, .string ⟨t3.toArray⟩] 89, bk g3 #[.string ⟨s2.toArray⟩, .string ⟨t2.toArray⟩] 89, bk g1 #[.string ⟨s1.toArray⟩, .string ⟨t1.toArray⟩] 89] [pfZ B44 d45 (ql (x.floor : Rat)), pfZ A42 c43 (qn (x.floor : Rat)), pfZ A37 c38 x.floor, pfZ B22 d23 (ql z), pfZ A20 c21 (qn z), pfZ B16 d17 (ql y), pfZ A14 c15 (qn y), pfZ B10 d11 (ql x), pfZ A8 c9 (qn x)] [] []) mixed rfl henv hst ?_
  clear henv hst; intro w53 henv hst
  refine tM (i := 0) (rg 5 53) rfl (by kernel_rfl) (fun _ _ _ h => h) henv rfl rfl ?_
  clear henv a; intro a henv
  refine tL (i := 1) 3 3 (rg 3 55) rfl (by kernel_rfl) (fun _ _ _ h => h) henv rfl ty_anvil_ratio_Rat rfl hst rfl rfl rfl ?_
  clear henv a; intro a henv
  refine tL (i := 2) 2 2 (rg 3 55) rfl (by kernel_rfl) (fun _ _ _ h => h) henv rfl ty_anvil_ratio_Rat rfl hst rfl rfl rfl ?_
  clear henv a; intro a henv
  have hq60 : Qs 801 (x - y) := by have h := sx.sub sy; exact h
  refine sAny_one (i := 3) (by kernel_rfl) rfl rfl (op_call henv rfl Tryd.call60 rfl (sub_q (x := x) (y := y) (show ZIn _ A8 c9 (qn x) from hst.pat (k := 8) rfl) (show ZIn _ B10 d11 (ql x) from hst.pat (k := 7) rfl) (show ZIn _ A14 c15 (qn y) from hst.pat (k := 6) rfl) (show ZIn _ B16 d17 (ql y) from hst.pat (k := 5) rfl) sx sy (by omega)) ?_)
  rintro e w61 ⟨_, rfl, ⟨A54, c55, B56, d57, rfl, hz58, hz59⟩, hb⟩
  refine ⟨_, rfl, ?_⟩
  clear henv a; intro a henv
  replace hst := ((hst.call hb).addZ hz58 ⟨nou_bk rfl, nou_bk rfl, nou_bk rfl, nou_bk rfl, nou_bk rfl, nou_bk rfl, nou_bk rfl, trivial⟩).addZ hz59 ⟨nou_bk rfl, nou_bk rfl, nou_bk rfl, nou_bk rfl, nou_bk rfl, nou_bk rfl, nou_bk rfl, trivial⟩
  clear hz58 hz59
  clear hb
  refine ⟨.inr ⟨hst.kn.pick (rg 0 7) (rg 2 9), .inr (hst.kn.pick [] [])⟩, ?_⟩
  refine sAny_one (i := 4) (by kernel_rfl) rfl rfl (op_call henv rfl Tryd.call63 rfl (sign_q (x := x - y) (show ZIn _ A54 c55 (qn (x - y)) from hst.pat (k := 1) rfl) (show ZIn _ B56 d57 (ql (x - y)) from hst.pat (k := 0) rfl)) ?_)
  rintro e w62 ⟨rfl, hb⟩
  refine ⟨_, rfl, ?_⟩
  clear henv a; intro a henv
  replace hst := hst.call hb
  clear hb
  refine ⟨.inr ⟨hst.kn.pick (rg 0 7) (rg 2 9), .inr (hst.kn.pick [] [])⟩, ?_⟩
  refine tA (i := 5) (rg 6 52) (v := .bool ((cmpQ x y) == (qn (x - y)).sign)) rfl (by kernel_rfl) (fun _ _ _ h => h) henv rfl (fun _ => rn_bin henv rfl rfl rfl) ?_
  clear henv a; intro a henv
  rw [show ((cmpQ x y) == (qn (x - y)).sign) = true from (beq_iff_eq.2 (cmpQ_sub x y))] at henv
  refine tM (i := 6) (rg 7 51) rfl (by kernel_rfl) (fun _ _ _ h => h) henv rfl rfl ?_
  clear henv a; intro a henv
  refine tLg (i := 7) 2 2 [9, 12, 13, 14, 15, 16, 17, 18, 19, 20, 21, 22, 23, 24, 25, 26, 27, 28, 29, 30, 31, 32, 33, 34, 35, 36, 37, 38, 39, 40, 41, 42, 43, 44, 45, 46, 47, 48, 49, 50, 51, 52, 53, 54, 55, 56, 57] rfl (by kernel_rfl) (fun _ _ _ h => h) henv rfl rfl rfl rfl ty_anvil_ratio_Rat rfl hst rfl rfl rfl ?_
  clear henv a; intro a henv
  refine tLg (i := 8) 3 3 [9, 12, 13, 14, 15, 16, 17, 18, 19, 20, 21, 22, 23, 24, 25, 26, 27, 28, 29, 30, 31, 32, 33, 34, 35, 36, 37, 38, 39, 40, 41, 42, 43, 44, 45, 46, 47, 48, 49, 50, 51, 52, 53, 54, 55, 56, 57] rfl (by kernel_rfl) (fun _ _ _ h => h) henv rfl rfl rfl rfl ty_anvil_ratio_Rat rfl hst rfl rfl rfl ?_
  clear henv a; intro a henv
  refine tAg (i := 10) (rg 11 47) (v := .int .i64 (cmpQ x y)) rfl (by kernel_rfl) (fun _ _ _ h => h) henv rfl rfl rfl rfl (fun _ => rn_move henv rfl) ?_
  clear henv a; intro a henv
  refine tAg (i := 11) (rg 12 46) (v := .int .i64 (-(cmpQ x y))) rfl (by kernel_rfl) (fun _ _ _ h => h) henv rfl rfl rfl rfl (fun _ => rn_negI henv rfl (cmpQ_bd _ _)) ?_
  clear henv a; intro a henv
  refine sAny_oneg (i := 9) (by kernel_rfl) rfl rfl henv rfl rfl rfl (op_call henv rfl Tryd.call64 rfl (cmp_q (x := y) (y := x) (show ZIn _ A14 c15 (qn y) from hst.pat (k := 8) rfl) (show ZIn _ B16 d17 (ql y) from hst.pat (k := 7) rfl) (show ZIn _ A8 c9 (qn x) from hst.pat (k := 10) rfl) (show ZIn _ B10 d11 (ql x) from hst.pat (k := 9) rfl) sy sx (by omega)) ?_)
  rintro e w63 ⟨rfl, hb⟩
  refine ⟨_, rfl, ?_⟩
  clear henv a; intro a henv
  replace hst := hst.call hb
  clear hb
  refine ⟨.inr ⟨hst.kn.pick (rg 0 7) (rg 2 9), .inr (hst.kn.pick [] [])⟩, ?_⟩
  refine tAg (i := 12) (rg 13 45) (v := .bool ((cmpQ y x) == (-(cmpQ x y)))) rfl (by kernel_rfl) (fun _ _ _ h => h) henv rfl rfl rfl rfl (fun _ => rn_bin henv rfl rfl rfl) ?_
  clear henv a; intro a henv
  rw [show ((cmpQ y x) == (-(cmpQ x y))) = true from (beq_iff_eq.2 (cmpQ_swap x y))] at henv
  refine tA (i := 13) (rg 14 44) (v := .bool true) rfl (by kernel_rfl) (fun _ _ _ h => h) henv rfl (fun _ => rn_pick henv rfl rfl) ?_
  clear henv a; intro a henv
  refine tM (i := 14) (rg 15 43) rfl (by kernel_rfl) (fun _ _ _ h => h) henv rfl rfl ?_
  clear henv a; intro a henv
  refine tLg (i := 15) 3 3 [17, 20, 21, 23, 24, 25, 26, 27, 28, 29, 30, 31, 32, 33, 34, 35, 36, 37, 38, 39, 40, 41, 42, 43, 44, 45, 46, 47, 48, 49, 50, 51, 52, 53, 54, 55, 56, 57] rfl (by kernel_rfl) (fun _ _ _ h => h) henv rfl rfl rfl rfl ty_anvil_ratio_Rat rfl hst rfl rfl rfl ?_
  clear henv a; intro a henv
  refine tLg (i := 16) 1 1 [17, 20, 21, 23, 24, 25, 26, 27, 28, 29, 30, 31, 32, 33, 34, 35, 36, 37, 38, 39, 40, 41, 42, 43, 44, 45, 46, 47, 48, 49, 50, 51, 52, 53, 54, 55, 56, 57] rfl (by kernel_rfl) (fun _ _ _ h => h) henv rfl rfl rfl rfl ty_anvil_ratio_Rat rfl hst rfl rfl rfl ?_
  clear henv a; intro a henv
  refine tLg (i := 18) 2 2 [20, 21, 23, 24, 25, 26, 27, 28, 29, 30, 31, 32, 33, 34, 35, 36, 37, 38, 39, 40, 41, 42, 43, 44, 45, 46, 47, 48, 49, 50, 51, 52, 53, 54, 55, 56, 57] rfl (by kernel_rfl) (fun _ _ _ h => h) henv rfl rfl rfl rfl ty_anvil_ratio_Rat rfl hst rfl rfl rfl ?_
  clear henv a; intro a henv
  refine tLg (i := 19) 1 1 [20, 21, 23, 24, 25, 26, 27, 28, 29, 30, 31, 32, 33, 34, 35, 36, 37, 38, 39, 40, 41, 42, 43, 44, 45, 46, 47, 48, 49, 50, 51, 52, 53, 54, 55, 56, 57] rfl (by kernel_rfl) (fun _ _ _ h => h) henv rfl rfl rfl rfl ty_anvil_ratio_Rat rfl hst rfl rfl rfl ?_
  clear henv a; intro a henv
  refine tAg (i := 22) (rg 23 35) (v := .int .i64 (cmpQ x y)) rfl (by kernel_rfl) (fun _ _ _ h => h) henv rfl rfl rfl rfl (fun _ => rn_move henv rfl) ?_
  clear henv a; intro a henv
  have hq70 : Qs 801 (x + z) := by have h := sx.add sz; exact h
  refine sAny_oneg (i := 17) (by kernel_rfl) rfl rfl henv rfl rfl rfl (op_call henv rfl Tryd.call58 rfl (add_q (x := x) (y := z) (show ZIn _ A8 c9 (qn x) from hst.pat (k := 10) rfl) (show ZIn _ B10 d11 (ql x) from hst.pat (k := 9) rfl) (show ZIn _ A20 c21 (qn z) from hst.pat (k := 6) rfl) (show ZIn _ B22 d23 (ql z) from hst.pat (k := 5) rfl) sx sz (by omega)) ?_)
  rintro e w71 ⟨_, rfl, ⟨A64, c65, B66, d67, rfl, hz68, hz69⟩, hb⟩
  refine ⟨_, rfl, ?_⟩
  clear henv a; intro a henv
  replace hst := ((hst.call hb).addZ hz68 ⟨nou_bk rfl, nou_bk rfl, nou_bk rfl, nou_bk rfl, nou_bk rfl, nou_bk rfl, nou_bk rfl, trivial⟩).addZ hz69 ⟨nou_bk rfl, nou_bk rfl, nou_bk rfl, nou_bk rfl, nou_bk rfl, nou_bk rfl, nou_bk rfl, trivial⟩
  clear hz68 hz69
  clear hb
  refine ⟨.inr ⟨hst.kn.pick (rg 0 7) (rg 4 9), .inr (hst.kn.pick [] [])⟩, ?_⟩
  have hq78 : Qs 801 (y + z) := by have h := sy.add sz; exact h
  refine sAny_oneg (i := 20) (by kernel_rfl) rfl rfl henv rfl rfl rfl (op_call henv rfl Tryd.call58 rfl (add_q (x := y) (y := z) (show ZIn _ A14 c15 (qn y) from hst.pat (k := 10) rfl) (show ZIn _ B16 d17 (ql y) from hst.pat (k := 9) rfl) (show ZIn _ A20 c21 (qn z) from hst.pat (k := 8) rfl) (show ZIn _ B22 d23 (ql z) from hst.pat (k := 7) rfl) sy sz (by omega)) ?_)
  rintro e w79 ⟨_, rfl, ⟨A72, c73, B74, d75, rfl, hz76, hz77⟩, hb⟩
  refine ⟨_, rfl, ?_⟩
  clear henv a; intro a henv
  replace hst := ((hst.call hb).addZ hz76 ⟨nou_bk rfl, nou_bk rfl, nou_bk rfl, nou_bk rfl, nou_bk rfl, nou_bk rfl, nou_bk rfl, trivial⟩).addZ hz77 ⟨nou_bk rfl, nou_bk rfl, nou_bk rfl, nou_bk rfl, nou_bk rfl, nou_bk rfl, nou_bk rfl, trivial⟩
  clear hz76 hz77
  clear hb
  refine ⟨.inr ⟨hst.kn.pick (rg 0 7) (rg 6 9), .inr (hst.kn.pick [] [])⟩, ?_⟩
  refine sAny_oneg (i := 21) (by kernel_rfl) rfl rfl henv rfl rfl rfl (op_call henv rfl Tryd.call64 rfl (cmp_q (x := x + z) (y := y + z) (show ZIn _ A64 c65 (qn (x + z)) from hst.pat (k := 3) rfl) (show ZIn _ B66 d67 (ql (x + z)) from hst.pat (k := 2) rfl) (show ZIn _ A72 c73 (qn (y + z)) from hst.pat (k := 1) rfl) (show ZIn _ B74 d75 (ql (y + z)) from hst.pat (k := 0) rfl) hq70 hq78 (by omega)) ?_)
  rintro e w80 ⟨rfl, hb⟩
  refine ⟨_, rfl, ?_⟩
  clear henv a; intro a henv
  replace hst := hst.call hb
  clear hb
  refine ⟨.inr ⟨hst.kn.pick (rg 0 7) (rg 6 9), .inr (hst.kn.pick [] [])⟩, ?_⟩
  refine tAg (i := 23) (rg 24 34) (v := .bool ((cmpQ (x + z) (y + z)) == (cmpQ x y))) rfl (by kernel_rfl) (fun _ _ _ h => h) henv rfl rfl rfl rfl (fun _ => rn_bin henv rfl rfl rfl) ?_
  clear henv a; intro a henv
  rw [show ((cmpQ (x + z) (y + z)) == (cmpQ x y)) = true from (beq_iff_eq.2 (cmpQ_add x y z))] at henv
  refine tA (i := 24) (rg 25 33) (v := .bool true) rfl (by kernel_rfl) (fun _ _ _ h => h) henv rfl (fun _ => rn_pick henv rfl rfl) ?_
  clear henv a; intro a henv
  refine tM (i := 25) (rg 26 32) rfl (by kernel_rfl) (fun _ _ _ h => h) henv rfl rfl ?_
  clear henv a; intro a henv
  refine tAg (i := 26) [27, 31, 32, 33, 34, 35, 36, 37, 38, 39, 40, 41, 42, 43, 44, 45, 46, 47, 48, 49, 50, 51, 52, 53, 54, 55, 56, 57] (v := .int .i64 (cmpQ x y)) rfl (by kernel_rfl) (fun _ _ _ h => h) henv rfl rfl rfl rfl (fun _ => rn_move henv rfl) ?_
  clear henv a; intro a henv
  refine tAg (i := 27) (rg 31 27) (v := .bool ((cmpQ x y) == (0 : Int))) rfl (by kernel_rfl) (fun _ _ _ h => h) henv rfl rfl rfl rfl (fun _ => rn_bin henv rfl rfl rfl) ?_
  clear henv a; intro a henv
  refine tLg (i := 28) 3 3 (rg 30 28) rfl (by kernel_rfl) (fun _ _ _ h => h) henv rfl rfl rfl rfl ty_anvil_ratio_Rat rfl hst rfl rfl rfl ?_
  clear henv a; intro a henv
  refine tLg (i := 29) 2 2 (rg 30 28) rfl (by kernel_rfl) (fun _ _ _ h => h) henv rfl rfl rfl rfl ty_anvil_ratio_Rat rfl hst rfl rfl rfl ?_
  clear henv a; intro a henv
  refine sAny_oneg (i := 30) (by kernel_rfl) rfl rfl henv rfl rfl rfl (op_call henv rfl Tryd.call57 rfl (same_q (x := x) (y := y) (show ZIn _ A8 c9 (qn x) from hst.pat (k := 14) rfl) (show ZIn _ B10 d11 (ql x) from hst.pat (k := 13) rfl) (show ZIn _ A14 c15 (qn y) from hst.pat (k := 12) rfl) (show ZIn _ B16 d17 (ql y) from hst.pat (k := 11) rfl) sx sy (by omega)) ?_)
  rintro e w81 ⟨rfl, hb⟩
  refine ⟨_, rfl, ?_⟩
  clear henv a; intro a henv
  replace hst := hst.call hb
  clear hb
  refine ⟨.inr ⟨hst.kn.pick (rg 0 7) (rg 6 9), .inr (hst.kn.pick [] [])⟩, ?_⟩
  refine tAg (i := 31) (rg 32 26) (v := .bool (((cmpQ x y) == (0 : Int)) == (decide (x = y)))) rfl (by kernel_rfl) (fun _ _ _ h => h) henv rfl rfl rfl rfl (fun _ => rn_eqlb henv Tryd.underlying4 rfl rfl) ?_
  clear henv a; intro a henv
  rw [show (((cmpQ x y) == (0 : Int)) == (decide (x = y))) = true from (beq_iff_eq.2 (cmpQ_same x y))] at henv
  refine tA (i := 32) (rg 33 25) (v := .bool true) rfl (by kernel_rfl) (fun _ _ _ h => h) henv rfl (fun _ => rn_pick henv rfl rfl) ?_
  clear henv a; intro a henv
  refine tM (i := 33) (rg 34 24) rfl (by kernel_rfl) (fun _ _ _ h => h) henv rfl rfl ?_
  clear henv a; intro a henv
  refine tLg (i := 34) 0 0 (rg 36 22) rfl (by kernel_rfl) (fun _ _ _ h => h) henv rfl rfl rfl rfl ty_anvil_ratio_Rat rfl hst rfl rfl rfl ?_
  clear henv a; intro a henv
  refine tLg (i := 35) 3 3 (rg 36 22) rfl (by kernel_rfl) (fun _ _ _ h => h) henv rfl rfl rfl rfl ty_anvil_ratio_Rat rfl hst rfl rfl rfl ?_
  clear henv a; intro a henv
  refine sAny_oneg (i := 36) (by kernel_rfl) rfl rfl henv rfl rfl rfl (op_call henv rfl Tryd.call64 rfl (cmp_q (x := (x.floor : Rat)) (y := x) (show ZIn _ A42 c43 (qn (x.floor : Rat)) from hst.pat (k := 7) rfl) (show ZIn _ B44 d45 (ql (x.floor : Rat)) from hst.pat (k := 6) rfl) (show ZIn _ A8 c9 (qn x) from hst.pat (k := 14) rfl) (show ZIn _ B10 d11 (ql x) from hst.pat (k := 13) rfl) hq48 sx (by omega)) ?_)
  rintro e w82 ⟨rfl, hb⟩
  refine ⟨_, rfl, ?_⟩
  clear henv a; intro a henv
  replace hst := hst.call hb
  clear hb
  refine ⟨.inr ⟨hst.kn.pick (rg 0 7) (rg 6 9), .inr (hst.kn.pick [] [])⟩, ?_⟩
  refine tAg (i := 37) (rg 38 20) (v := .bool (decide ((cmpQ (x.floor : Rat) x) ≤ (0 : Int)))) rfl (by kernel_rfl) (fun _ _ _ h => h) henv rfl rfl rfl rfl (fun _ => rn_bin henv rfl rfl rfl) ?_
  clear henv a; intro a henv
  rw [show (decide ((cmpQ (x.floor : Rat) x) ≤ (0 : Int))) = true from decide_eq_true (cmpQ_le.2 (Rat.floor_le x))] at henv
  refine tA (i := 38) (rg 39 19) (v := .bool true) rfl (by kernel_rfl) (fun _ _ _ h => h) henv rfl (fun _ => rn_pick henv rfl rfl) ?_
  clear henv a; intro a henv
  refine tM (i := 39) (rg 40 18) rfl (by kernel_rfl) (fun _ _ _ h => h) henv rfl rfl ?_
  clear henv a; intro a henv
  refine tLg (i := 40) 0 0 [43, 45, 46, 47, 48, 49, 50, 51, 52, 53, 54, 55, 56, 57] rfl (by kernel_rfl) (fun _ _ _ h => h) henv rfl rfl rfl rfl ty_anvil_ratio_Rat rfl hst rfl rfl rfl ?_
  clear henv a; intro a henv
  refine tLg (i := 44) 3 3 (rg 45 13) rfl (by kernel_rfl) (fun _ _ _ h => h) henv rfl rfl rfl rfl ty_anvil_ratio_Rat rfl hst rfl rfl rfl ?_
  clear henv a; intro a henv
  refine sAny_oneg (i := 41) (by kernel_rfl) rfl rfl henv rfl rfl rfl (op_call henv rfl Tryd.call43 rfl (of_z (n := (1 : Int)) (by decide) (by decide)) ?_)
  rintro e w86 ⟨_, rfl, ⟨A83, c84, rfl, hz85⟩, hb⟩
  refine ⟨_, rfl, ?_⟩
  clear henv a; intro a henv
  replace hst := (hst.call hb).addZ hz85 ⟨nou_bk rfl, nou_bk rfl, nou_bk rfl, nou_bk rfl, nou_bk rfl, nou_bk rfl, nou_bk rfl, trivial⟩
  clear hz85
  clear hb
  refine ⟨.inr ⟨hst.kn.pick (rg 0 7) (rg 7 9), .inr (hst.kn.pick [] [])⟩, ?_⟩
  refine sAny_oneg (i := 42) (by kernel_rfl) rfl rfl henv rfl rfl rfl (op_call henv rfl Tryd.call65 rfl (of_int_q (z := 1) (show ZIn _ A83 c84 1 from hst.pat (k := 0) rfl)) ?_)
  rintro e w93 ⟨_, rfl, ⟨A87, c88, B89, d90, rfl, hz91, hz92⟩, hb⟩
  refine ⟨_, rfl, ?_⟩
  clear henv a; intro a henv
  replace hst := ((hst.call hb).addZ hz91 ⟨nou_bk rfl, nou_bk rfl, nou_bk rfl, nou_bk rfl, nou_bk rfl, nou_bk rfl, nou_bk rfl, trivial⟩).addZ hz92 ⟨nou_bk rfl, nou_bk rfl, nou_bk rfl, nou_bk rfl, nou_bk rfl, nou_bk rfl, nou_bk rfl, trivial⟩
  clear hz91 hz92
  clear hb
  refine ⟨.inr ⟨hst.kn.pick (rg 0 7) (rg 9 9), .inr (hst.kn.pick [] [])⟩, ?_⟩
  have hq100 : Qs 403 ((x.floor : Rat) + ((1 : Int) : Rat)) := by have h := hq48.add qs_1; exact h
  refine sAny_oneg (i := 43) (by kernel_rfl) rfl rfl henv rfl rfl rfl (op_call henv rfl Tryd.call58 rfl (add_q (x := (x.floor : Rat)) (y := ((1 : Int) : Rat)) (show ZIn _ A42 c43 (qn (x.floor : Rat)) from hst.pat (k := 10) rfl) (show ZIn _ B44 d45 (ql (x.floor : Rat)) from hst.pat (k := 9) rfl) (show ZIn _ A87 c88 (qn ((1 : Int) : Rat)) from hst.pat (k := 1) rfl) (show ZIn _ B89 d90 (ql ((1 : Int) : Rat)) from hst.pat (k := 0) rfl) hq48 qs_1 (by omega)) ?_)
  rintro e w101 ⟨_, rfl, ⟨A94, c95, B96, d97, rfl, hz98, hz99⟩, hb⟩
  refine ⟨_, rfl, ?_⟩
  clear henv a; intro a henv
  replace hst := ((hst.call hb).addZ hz98 ⟨nou_bk rfl, nou_bk rfl, nou_bk rfl, nou_bk rfl, nou_bk rfl, nou_bk rfl, nou_bk rfl, trivial⟩).addZ hz99 ⟨nou_bk rfl, nou_bk rfl, nou_bk rfl, nou_bk rfl, nou_bk rfl, nou_bk rfl, nou_bk rfl, trivial⟩
  clear hz98 hz99
  clear hb
  refine ⟨.inr ⟨hst.kn.pick (rg 0 7) (rg 11 9), .inr (hst.kn.pick [] [])⟩, ?_⟩
  refine sAny_oneg (i := 45) (by kernel_rfl) rfl rfl henv rfl rfl rfl (op_call henv rfl Tryd.call64 rfl (cmp_q (x := (x.floor : Rat) + ((1 : Int) : Rat)) (y := x) (show ZIn _ A94 c95 (qn ((x.floor : Rat) + ((1 : Int) : Rat))) from hst.pat (k := 1) rfl) (show ZIn _ B96 d97 (ql ((x.floor : Rat) + ((1 : Int) : Rat))) from hst.pat (k := 0) rfl) (show ZIn _ A8 c9 (qn x) from hst.pat (k := 19) rfl) (show ZIn _ B10 d11 (ql x) from hst.pat (k := 18) rfl) hq100 sx (by omega)) ?_)
  rintro e w102 ⟨rfl, hb⟩
  refine ⟨_, rfl, ?_⟩
  clear henv a; intro a henv
  replace hst := hst.call hb
  clear hb
  refine ⟨.inr ⟨hst.kn.pick (rg 0 7) (rg 11 9), .inr (hst.kn.pick [] [])⟩, ?_⟩
  refine tAg (i := 46) (rg 47 11) (v := .bool (decide ((cmpQ ((x.floor : Rat) + ((1 : Int) : Rat)) x) > (0 : Int)))) rfl (by kernel_rfl) (fun _ _ _ h => h) henv rfl rfl rfl rfl (fun _ => rn_bin henv rfl rfl rfl) ?_
  clear henv a; intro a henv
  rw [show (decide ((cmpQ ((x.floor : Rat) + ((1 : Int) : Rat)) x) > (0 : Int))) = true from decide_eq_true (cmpQ_lt.2 (by have := Rat.lt_floor_add_one x; rwa [Rat.intCast_add] at this))] at henv
  refine tA (i := 47) (rg 48 10) (v := .bool true) rfl (by kernel_rfl) (fun _ _ _ h => h) henv rfl (fun _ => rn_pick henv rfl rfl) ?_
  clear henv a; intro a henv
  refine tM (i := 48) (rg 49 9) rfl (by kernel_rfl) (fun _ _ _ h => h) henv rfl rfl ?_
  clear henv a; intro a henv
  refine tLg (i := 49) 0 0 [51, 52, 54, 55, 56, 57] rfl (by kernel_rfl) (fun _ _ _ h => h) henv rfl rfl rfl rfl ty_anvil_ratio_Rat rfl hst rfl rfl rfl ?_
  clear henv a; intro a henv
  refine tLg (i := 50) 3 3 [51, 52, 54, 55, 56, 57] rfl (by kernel_rfl) (fun _ _ _ h => h) henv rfl rfl rfl rfl ty_anvil_ratio_Rat rfl hst rfl rfl rfl ?_
  clear henv a; intro a henv
  refine tLg (i := 53) 3 3 (rg 54 4) rfl (by kernel_rfl) (fun _ _ _ h => h) henv rfl rfl rfl rfl ty_anvil_ratio_Rat rfl hst rfl rfl rfl ?_
  clear henv a; intro a henv
  refine sAny_oneg (i := 51) (by kernel_rfl) rfl rfl henv rfl rfl rfl (op_call henv rfl Tryd.call64 rfl (cmp_q (x := (x.floor : Rat)) (y := x) (show ZIn _ A42 c43 (qn (x.floor : Rat)) from hst.pat (k := 12) rfl) (show ZIn _ B44 d45 (ql (x.floor : Rat)) from hst.pat (k := 11) rfl) (show ZIn _ A8 c9 (qn x) from hst.pat (k := 19) rfl) (show ZIn _ B10 d11 (ql x) from hst.pat (k := 18) rfl) hq48 sx (by omega)) ?_)
  rintro e w103 ⟨rfl, hb⟩
  refine ⟨_, rfl, ?_⟩
  clear henv a; intro a henv
  replace hst := hst.call hb
  clear hb
  refine ⟨.inr ⟨hst.kn.pick (rg 0 7) (rg 11 9), .inr (hst.kn.pick [] [])⟩, ?_⟩
  refine tAg (i := 52) [55, 56, 57] (v := .bool ((cmpQ (x.floor : Rat) x) == (0 : Int))) rfl (by kernel_rfl) (fun _ _ _ h => h) henv rfl rfl rfl rfl (fun _ => rn_bin henv rfl rfl rfl) ?_
  clear henv a; intro a henv
  refine sAny_oneg (i := 54) (by kernel_rfl) rfl rfl henv rfl rfl rfl (op_call henv rfl Tryd.call67 rfl (whole_q (x := x) (show ZIn _ A8 c9 (qn x) from hst.pat (k := 19) rfl) (show ZIn _ B10 d11 (ql x) from hst.pat (k := 18) rfl)) ?_)
  rintro e w104 ⟨rfl, hb⟩
  refine ⟨_, rfl, ?_⟩
  clear henv a; intro a henv
  replace hst := hst.call hb
  clear hb
  refine ⟨.inr ⟨hst.kn.pick (rg 0 7) (rg 11 9), .inr (hst.kn.pick [] [])⟩, ?_⟩
  refine tAg (i := 55) [56, 57] (v := .bool (((cmpQ (x.floor : Rat) x) == (0 : Int)) == (decide (ql x = 0)))) rfl (by kernel_rfl) (fun _ _ _ h => h) henv rfl rfl rfl rfl (fun _ => rn_eqlb henv Tryd.underlying4 rfl rfl) ?_
  clear henv a; intro a henv
  rw [show (((cmpQ (x.floor : Rat) x) == (0 : Int)) == (decide (ql x = 0))) = true from (beq_iff_eq.2 (cmpQ_whole x))] at henv
  refine tA (i := 56) [57] (v := .bool true) rfl (by kernel_rfl) (fun _ _ _ h => h) henv rfl (fun _ => rn_pick henv rfl rfl) ?_
  clear henv a; intro a henv
  refine tA (i := 57) [] (v := .bool true) rfl (by kernel_rfl) (fun _ _ _ h => h) henv rfl (fun _ => rn_assign henv rfl) ?_
  clear henv a; intro a henv
  refine sAny_done (by kernel_rfl) ?_ _
  refine th_n ?_
  refine wp_ret ?_
  refine leave henv (res1 Tryd.results10 (RV.tmp henv rfl)) ?_
  exact ⟨rfl, hst.below⟩
theorem qorder {s1 t1 s2 t2 s3 t3 : List UInt8} {w0 : World} (a1 : s1.length ≤ maxLen) (b1 : t1.length ≤ maxLen) (a2 : s2.length ≤ maxLen) (b2 : t2.length ≤ maxLen) (a3 : s3.length ≤ maxLen) (b3 : t3.length ≤ maxLen) :
    Calls Tryd.prog 10 #[.agg #[.string ⟨s1.toArray⟩, .string ⟨t1.toArray⟩], .agg #[.string ⟨s2.toArray⟩, .string ⟨t2.toArray⟩], .agg #[.string ⟨s3.toArray⟩, .string ⟨t3.toArray⟩]] w0 fun e w' => e = .returned (.bool true) ∧ Below w0.heap.size w0 w' := by
  obtain ⟨x, y, z, o, f, hq⟩ := three_any a1 b1 a2 b2 a3 b3
  cases o with
  | false => exact qorder_no f
  | true => exact qorder_ok f (hq rfl).1 (hq rfl).2.1 (hq rfl).2.2
end Go.Proofs.YtegglooojlheoaaDoor.W
