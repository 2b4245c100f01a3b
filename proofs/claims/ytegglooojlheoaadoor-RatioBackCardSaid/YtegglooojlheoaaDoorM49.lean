/- Package anvilref03: what its functions leave, over core's Rat. Printed by pv/gen_ratio.py. No condition. -/
import Derived.Test.YtegglooojlheoaaDoorM44
import Derived.Test.YtegglooojlheoaaDoorM15
import Derived.Test.YtegglooojlheoaaDoorM48
import Derived.Test.YtegglooojlheoaaDoorM38
import Derived.Test.YtegglooojlheoaaDoorM36
import Derived.Test.YtegglooojlheoaaDoorM31

namespace Go.Proofs.YtegglooojlheoaaDoor.W
open Go.RowKit Anv Go.Lib
section
variable {N : Nat} {dq : List Deferred} {a : Act} {l : List (Nat × Value)} {w : World} {d : Nat} {ty : TypeId} {pos : String} {af : Array Edge} {gd : Option (Nat × Bool)}
end
end Go.Proofs.YtegglooojlheoaaDoor.W

/- The laws of anvillaw03: their helpers. Printed by pv/gen_qlaw.py. No condition. -/
namespace Go.Proofs.YtegglooojlheoaaDoor.W
open Go.RowKit Anv Go.Lib
theorem qs_zero : Qs 1 0 := ⟨by decide, by decide⟩
theorem qs_w : Qs 1 (mkRat (-3) 2) := ⟨by decide, by decide⟩
theorem qs_3 : Qs 1 ((3 : Int) : Rat) := ⟨by decide, by decide⟩
theorem floor_sz {k : Nat} {r : Rat} (h : Qs k r) : zl r.floor ≤ k := by
  rw [← q_floor]
  exact Nat.le_trans (zl_ediv _ _) h.n
def RdAs (s : List UInt8) (z p q b : Int) : Prop := ∀ w0 : World,
    (Calls Tryd.prog 113 #[.string ⟨s.toArray⟩] w0 fun e w' => ∃ v, e = .returned (.tuple #[v, .agg #[.int .i64 p, .int .i64 q]]) ∧ ZAt w' v z ∧ Below w0.heap.size w0 w') ∧
    (Calls Tryd.prog 115 #[.string ⟨s.toArray⟩] w0 fun e w' => ∃ v, e = .returned (.tuple #[v, .int .i64 b]) ∧ RAt w' v z ∧ Below w0.heap.size w0 w')
theorem zin_at (w : World) : ZAt w (.agg #[.bool (neg 0), .slice none (zl 0) 0]) 0 := ⟨_, _, rfl, zin_none _⟩
set_option maxRecDepth 100000 in
theorem qlong_one1 {s t : List UInt8} {w0 : World} (h : 300 < s.length) :
    Calls Tryd.prog 119 #[.agg #[.string ⟨s.toArray⟩, .string ⟨t.toArray⟩]] w0 fun e w' => e = .returned (.bool true) ∧ Below w0.heap.size w0 w' := by
  refine enter Tryd.func119 rfl Tryd.ntmps119 rfl ?_
  intro a henv hst
  refine wp_seq ?_
  refine region_seq ?_
  refine seq_step rfl (op_box (c := #[.string ⟨s.toArray⟩, .string ⟨t.toArray⟩]) henv hst rfl rfl rfl ?_)
  clear henv hst a; intro a w2 g1 henv hst
  refine sv (v := .bool false) henv rfl (rn_assign henv rfl) ?_
  clear henv a; intro a henv
  refine wpList_nil ?_
  refine th_n ?_
  refine wp_seq ?_
  refine region_seq ?_
  revert a
  refine sA (v := .pointer (some ⟨g1, 0, none⟩)) rfl (fun _ henv => rn_fieldAddr henv fd_anvil_anvillaw03_Frac_0 (ty_string.size) (by decide) rfl) ?_
  refine sA (v := .string ⟨s.toArray⟩) rfl (fun _ henv => rn_load1 henv ty_string rfl (hst.oat (k := 0) rfl) rfl) ?_
  refine sA (v := .int .i64 (s.length : Nat)) rfl (fun _ henv => rn_lenS henv Tryd.underlying9 rfl) ?_
  refine sA (v := .bool (decide (((s.length : Nat) : Int) > (300 : Int)))) rfl (fun _ henv => rn_bin henv rfl rfl rfl) ?_
  intro a henv
  rw [show (decide (((s.length : Nat) : Int) > (300 : Int))) = true from decide_eq_true (by omega)] at henv
  revert a
  refine mA rfl rfl ?_
  refine kA rfl rfl rfl rfl rfl ?_
  refine kA rfl rfl rfl rfl rfl ?_
  refine kA rfl rfl rfl rfl rfl ?_
  refine kA rfl rfl rfl rfl rfl ?_
  refine sA (v := .bool true) rfl (fun _ henv => rn_pick henv rfl rfl) ?_
  refine aA rfl rfl ?_
  intro a henv
  refine wpList_nil ?_
  refine th_n ?_
  refine wp_ret ?_
  refine leave henv (res1 Tryd.results119 (RV.tmp henv rfl)) ?_
  exact ⟨rfl, hst.below⟩
set_option maxRecDepth 100000 in
theorem qlong_one0 {s t : List UInt8} {w0 : World} (h : ¬ 300 < s.length) :
    Calls Tryd.prog 119 #[.agg #[.string ⟨s.toArray⟩, .string ⟨t.toArray⟩]] w0 fun e w' => e = .returned (.bool (decide (((t.length : Nat) : Int) > (300 : Int)))) ∧ Below w0.heap.size w0 w' := by
  refine enter Tryd.func119 rfl Tryd.ntmps119 rfl ?_
  intro a henv hst
  refine wp_seq ?_
  refine region_seq ?_
  refine seq_step rfl (op_box (c := #[.string ⟨s.toArray⟩, .string ⟨t.toArray⟩]) henv hst rfl rfl rfl ?_)
  clear henv hst a; intro a w2 g1 henv hst
  refine sv (v := .bool false) henv rfl (rn_assign henv rfl) ?_
  clear henv a; intro a henv
  refine wpList_nil ?_
  refine th_n ?_
  refine wp_seq ?_
  refine region_seq ?_
  revert a
  refine sA (v := .pointer (some ⟨g1, 0, none⟩)) rfl (fun _ henv => rn_fieldAddr henv fd_anvil_anvillaw03_Frac_0 (ty_string.size) (by decide) rfl) ?_
  refine sA (v := .string ⟨s.toArray⟩) rfl (fun _ henv => rn_load1 henv ty_string rfl (hst.oat (k := 0) rfl) rfl) ?_
  refine sA (v := .int .i64 (s.length : Nat)) rfl (fun _ henv => rn_lenS henv Tryd.underlying9 rfl) ?_
  refine sA (v := .bool (decide (((s.length : Nat) : Int) > (300 : Int)))) rfl (fun _ henv => rn_bin henv rfl rfl rfl) ?_
  intro a henv
  rw [show (decide (((s.length : Nat) : Int) > (300 : Int))) = false from decide_eq_false (by omega)] at henv
  revert a
  refine mA rfl rfl ?_
  refine gA (v := .pointer (some ⟨g1, 1, none⟩)) rfl rfl rfl rfl (fun _ henv => rn_fieldAddr henv fd_anvil_anvillaw03_Frac_1 (ty_string.size) (by decide) rfl) ?_
  refine gA (v := .string ⟨t.toArray⟩) rfl rfl rfl rfl (fun _ henv => rn_load1 henv ty_string rfl (hst.oat (k := 0) rfl) rfl) ?_
  refine gA (v := .int .i64 (t.length : Nat)) rfl rfl rfl rfl (fun _ henv => rn_lenS henv Tryd.underlying9 rfl) ?_
  refine gA (v := .bool (decide (((t.length : Nat) : Int) > (300 : Int)))) rfl rfl rfl rfl (fun _ henv => rn_bin henv rfl rfl rfl) ?_
  refine sA (v := .bool (decide (((t.length : Nat) : Int) > (300 : Int)))) rfl (fun _ henv => rn_pick henv rfl rfl) ?_
  refine aA rfl rfl ?_
  intro a henv
  refine wpList_nil ?_
  refine th_n ?_
  refine wp_ret ?_
  refine leave henv (res1 Tryd.results119 (RV.tmp henv rfl)) ?_
  exact ⟨rfl, hst.below⟩
def Lg (e : FE) : Prop := 300 < e.1.length ∨ 300 < e.2.length
theorem qlong_one {s t : List UInt8} {w0 : World} :
    Calls Tryd.prog 119 #[.agg #[.string ⟨s.toArray⟩, .string ⟨t.toArray⟩]] w0 fun e w' => ∃ b : Bool, e = .returned (.bool b) ∧ (b = true ↔ Lg (s, t)) ∧ Below w0.heap.size w0 w' := by
  by_cases h : 300 < s.length
  · exact (qlong_one1 h).mono fun _ _ ⟨he, hB⟩ => ⟨_, he, ⟨fun _ => .inl h, fun _ => rfl⟩, hB⟩
  · refine (qlong_one0 h).mono fun _ _ ⟨he, hB⟩ => ⟨_, he, ⟨fun hd => .inr (show 300 < t.length by have := of_decide_eq_true hd; omega), fun hd => ?_⟩, hB⟩
    rcases hd with hd | hd
    · exact absurd hd h
    · exact decide_eq_true (by have : 300 < t.length := hd; omega)
set_option maxRecDepth 100000 in
set_option maxHeartbeats 4000000 in
theorem qlong_index {A : Option Addr} {n c : Nat} {es : List FE} {w0 : World} (hr : (pfRow fF FF 2 A n c es).P w0) :
    Calls Tryd.prog 148 #[.slice A n c, .func (.func 119) #[] #[]] w0 fun e w' => ∃ r : Int, e = .returned (.int .i64 r) ∧ (0 ≤ r ↔ ∃ e ∈ es, Lg e) ∧ Below w0.heap.size w0 w' := by
  refine enter Tryd.func148 rfl Tryd.ntmps148 rfl ?_
  intro a henv hst
  have hlen := hr.2.1
  have hbig := Nat.le_trans hr.1.cap hr.1.big
  unfold maxLen at hbig
  replace hst := hst.argRow hr
  clear hr
  refine wp_seq ?_
  refine region_seq ?_
  refine sv (v := .int .i64 0) henv rfl (rn_assign henv rfl) ?_
  clear henv a; intro a henv
  refine wpList_nil ?_
  refine th_n ?_
  refine wp_seq ?_
  refine wp_seq ?_
  refine region_seq ?_
  revert a
  refine mA rfl rfl ?_
  refine sA (v := .int .i64 (n : Nat)) rfl (fun _ henv => rn_len henv Tryd.underlying103 rfl) ?_
  refine mA rfl rfl ?_
  intro a henv
  refine wpList_nil ?_
  refine th_n ?_
  refine wp_block ?_
  refine wp_loop_ghost (fun mz a w => ∃ j : Nat, n - j = mz ∧ Env 19 a [(0, .slice A n c), (1, .func (.func 119) #[] #[]), (7, .int .i64 (n : Nat)), (8, .int .i64 (j : Nat))] ∧ St w0 w [] [pfRow fF FF 2 A n c es] ∧ j ≤ n ∧ (∀ i e, i < j → es[i]? = some e → ¬ Lg e)) _ ⟨0, rfl, henv.sub ⟨rfl, rfl, rfl, rfl, trivial⟩, hst.pick [] [0] (by decide), (Nat.zero_le _), (fun i _ hi => absurd hi (Nat.not_lt_zero _))⟩ ?_
  clear henv hst a
  rintro mz a w1 ⟨j, rfl, henv, hst, hj, hz⟩
  refine wp_seq ?_
  refine region_seq ?_
  refine sv (v := .bool (decide (((j : Nat) : Int) < ((n : Nat) : Int)))) henv rfl (rn_bin henv rfl rfl rfl) ?_
  clear henv a; intro a henv
  refine wpList_nil ?_
  refine th_n ?_
  refine wp_seq ?_
  refine if_split henv rfl (fun hc2 => ?_) (fun hc2 => ?_)
  · have hlt : j < n := by have := of_decide_eq_true hc2; omega
    obtain ⟨⟨s, t⟩, he⟩ : ∃ e, es[j]? = some e := ⟨_, List.getElem?_eq_getElem (by omega)⟩
    refine wp_skip ?_
    refine th_n ?_
    refine wp_seq ?_
    refine wp_block ?_
    refine wp_seq ?_
    refine region_seq ?_
    revert a
    refine mA rfl rfl ?_
    refine aA rfl rfl ?_
    intro a henv
    refine wpList_nil ?_
    refine th_n ?_
    refine wp_seq ?_
    refine region_seq ?_
    revert a
    refine mA rfl rfl ?_
    refine mA rfl rfl ?_
    refine mA rfl rfl ?_
    refine sA (v := .pointer (some ⟨ab A, ao A + j * 2, none⟩)) rfl (fun _ henv => rn_idxR (i := j) henv Tryd.underlying103 (ty_anvil_anvillaw03_Frac.size) rfl rfl (by omega) rfl (show (pfRow fF FF 2 A n c es).P _ from (hst.pat (k := 0) rfl)).1) ?_
    refine sA (v := .agg #[.string ⟨s.toArray⟩, .string ⟨t.toArray⟩]) rfl (fun _ henv => rn_loadE (i := j) (e := (s, t)) henv ty_anvil_anvillaw03_Frac rfl rfl fF_len (show (pfRow fF FF 2 A n c es).P _ from (hst.pat (k := 0) rfl)).1 (by omega) he rfl) ?_
    intro a henv
    refine seq_step rfl (op_callv henv rfl Tryd.call119 rfl rfl (qlong_one (s := s) (t := t)) ?_)
    rintro e w3 ⟨b, rfl, hb1, hb⟩
    refine ⟨_, rfl, ?_⟩
    clear henv a; intro a henv
    replace hst := hst.call hb
    clear hb
    refine wpList_nil ?_
    refine th_n ?_
    refine if_split henv rfl (fun hc4 => ?_) (fun hc4 => ?_)
    · have hyes := hb1.1 hc4
      refine wp_seq ?_
      refine region_seq ?_
      revert a
      refine mA rfl rfl ?_
      refine aA rfl rfl ?_
      intro a henv
      refine wpList_nil ?_
      refine th_n ?_
      refine wp_ret ?_
      refine bl_r (th_r (th_r (bl_r (th_r ?_))))
      refine leave henv (res1 Tryd.results148 (RV.tmp henv rfl)) ?_
      exact ⟨_, rfl, ⟨fun _ => ⟨_, List.mem_of_getElem? he, hyes⟩, fun _ => by omega⟩, hst.below⟩
    · have hno : ¬ Lg (s, t) := fun h1 => by rw [hb1.2 h1] at hc4; cases hc4
      refine wp_skip ?_
      refine bl_n (th_n ?_)
      refine region_seq ?_
      revert a
      refine sA (v := .int .i64 (j + 1 : Nat)) rfl (fun _ henv => rn_add henv rfl rfl (by rw [IntWalk.i64_in _ (by omega)]; omega)) ?_
      refine mA rfl rfl ?_
      intro a henv
      refine wpList_nil ?_
      exact th_n ⟨_, (by omega), ⟨j + 1, rfl, henv.sub ⟨rfl, rfl, rfl, rfl, trivial⟩, hst.pick [] [0] (by decide), (by omega), (fun i e hi h1 => by rcases Nat.lt_or_ge i j with h2 | h2; exact hz i e h2 h1; obtain rfl : i = j := (by omega); rw [he] at h1; cases h1; exact hno)⟩⟩
  · obtain rfl : j = n := by have := of_decide_eq_false hc2; omega
    refine wp_exit ?_
    refine th_x (th_x (bl_x (th_n ?_)))
    refine wp_seq ?_
    refine region_seq ?_
    refine sv (v := .int .i64 (-1)) henv rfl (rn_assign henv rfl) ?_
    clear henv a; intro a henv
    refine wpList_nil ?_
    refine th_n ?_
    refine wp_ret ?_
    refine leave henv (res1 Tryd.results148 (RV.tmp henv rfl)) ?_
    exact ⟨_, rfl, ⟨fun h => by omega, fun ⟨e, h1, h2⟩ => by obtain ⟨i, hi⟩ := List.getElem?_of_mem h1; exact absurd h2 (hz i e (by have := (List.getElem?_eq_some_iff.1 hi).1; omega) hi)⟩, hst.below⟩
set_option maxRecDepth 100000 in
theorem qlong_contains {A : Option Addr} {n c : Nat} {es : List FE} {w0 : World} (hr : (pfRow fF FF 2 A n c es).P w0) :
    Calls Tryd.prog 118 #[.slice A n c, .func (.func 119) #[] #[]] w0 fun e w' => ∃ b : Bool, e = .returned (.bool b) ∧ (b = true ↔ ∃ e ∈ es, Lg e) ∧ Below w0.heap.size w0 w' := by
  refine enter Tryd.func118 rfl Tryd.ntmps118 rfl ?_
  intro a henv hst
  have hlen := hr.2.1
  have hbig := Nat.le_trans hr.1.cap hr.1.big
  unfold maxLen at hbig
  replace hst := hst.argRow hr
  clear hr
  refine wp_seq ?_
  refine region_seq ?_
  refine sv (v := .bool false) henv rfl (rn_assign henv rfl) ?_
  clear henv a; intro a henv
  refine wpList_nil ?_
  refine th_n ?_
  refine wp_seq ?_
  refine region_seq ?_
  revert a
  refine mA rfl rfl ?_
  refine mA rfl rfl ?_
  intro a henv
  refine seq_step rfl (op_call henv rfl Tryd.call148 rfl (qlong_index (hst.pat (k := 0) rfl)) ?_)
  rintro e w1 ⟨r, rfl, hr, hb⟩
  refine ⟨_, rfl, ?_⟩
  clear henv a; intro a henv
  replace hst := hst.call hb
  clear hb
  revert a
  refine sA (v := .bool (decide (r ≥ (0 : Int)))) rfl (fun _ henv => rn_bin henv rfl rfl rfl) ?_
  refine aA rfl rfl ?_
  intro a henv
  refine wpList_nil ?_
  refine th_n ?_
  refine wp_ret ?_
  refine leave henv (res1 Tryd.results118 (RV.tmp henv rfl)) ?_
  exact ⟨_, rfl, (by rw [gt_iff r]; exact hr), hst.below⟩
set_option maxRecDepth 100000 in
theorem qlong_many {A : Option Addr} {n c : Nat} {es : List FE} {w0 : World} (hr : (pfRow fF FF 2 A n c es).P w0) (hn : 12 < n) :
    Calls Tryd.prog 68 #[.slice A n c] w0 fun e w' => e = .returned (.bool true) ∧ Below w0.heap.size w0 w' := by
  refine enter Tryd.func68 rfl Tryd.ntmps68 rfl ?_
  intro a henv hst
  have hlen := hr.2.1
  have hbig := Nat.le_trans hr.1.cap hr.1.big
  unfold maxLen at hbig
  replace hst := hst.argRow hr
  clear hr
  refine wp_seq ?_
  refine region_seq ?_
  refine sv (v := .bool false) henv rfl (rn_assign henv rfl) ?_
  clear henv a; intro a henv
  refine wpList_nil ?_
  refine th_n ?_
  refine wp_seq ?_
  refine region_seq ?_
  revert a
  refine mA rfl rfl ?_
  refine sA (v := .int .i64 (n : Nat)) rfl (fun _ henv => rn_len henv Tryd.underlying103 rfl) ?_
  refine sA (v := .bool (decide (((n : Nat) : Int) > (12 : Int)))) rfl (fun _ henv => rn_bin henv rfl rfl rfl) ?_
  intro a henv
  rw [show (decide (((n : Nat) : Int) > (12 : Int))) = true from decide_eq_true (by omega)] at henv
  revert a
  refine mA rfl rfl ?_
  refine kA rfl rfl rfl rfl rfl ?_
  refine kA rfl rfl rfl rfl rfl ?_
  refine sA (v := .bool true) rfl (fun _ henv => rn_pick henv rfl rfl) ?_
  refine aA rfl rfl ?_
  intro a henv
  refine wpList_nil ?_
  refine th_n ?_
  refine wp_ret ?_
  refine leave henv (res1 Tryd.results68 (RV.tmp henv rfl)) ?_
  exact ⟨rfl, hst.below⟩
set_option maxRecDepth 100000 in
theorem qlong_few {A : Option Addr} {n c : Nat} {es : List FE} {w0 : World} (hr : (pfRow fF FF 2 A n c es).P w0) (hn : n ≤ 12) :
    Calls Tryd.prog 68 #[.slice A n c] w0 fun e w' => ∃ b : Bool, e = .returned (.bool b) ∧ (b = true ↔ ∃ e ∈ es, Lg e) ∧ Below w0.heap.size w0 w' := by
  refine enter Tryd.func68 rfl Tryd.ntmps68 rfl ?_
  intro a henv hst
  have hlen := hr.2.1
  have hbig := Nat.le_trans hr.1.cap hr.1.big
  unfold maxLen at hbig
  replace hst := hst.argRow hr
  clear hr
  refine wp_seq ?_
  refine region_seq ?_
  refine sv (v := .bool false) henv rfl (rn_assign henv rfl) ?_
  clear henv a; intro a henv
  refine wpList_nil ?_
  refine th_n ?_
  refine wp_seq ?_
  refine region_seq ?_
  revert a
  refine mA rfl rfl ?_
  refine sA (v := .int .i64 (n : Nat)) rfl (fun _ henv => rn_len henv Tryd.underlying103 rfl) ?_
  refine sA (v := .bool (decide (((n : Nat) : Int) > (12 : Int)))) rfl (fun _ henv => rn_bin henv rfl rfl rfl) ?_
  intro a henv
  rw [show (decide (((n : Nat) : Int) > (12 : Int))) = false from decide_eq_false (by omega)] at henv
  revert a
  refine mA rfl rfl ?_
  refine gA (v := .slice A n c) rfl rfl rfl rfl (fun _ henv => rn_move henv rfl) ?_
  intro a henv
  refine seq_g rfl henv rfl rfl (op_call henv rfl Tryd.call118 rfl (qlong_contains (hst.pat (k := 0) rfl)) ?_)
  rintro e w1 ⟨b, rfl, hb1, hb⟩
  refine ⟨_, rfl, ?_⟩
  clear henv a; intro a henv
  replace hst := hst.call hb
  clear hb
  revert a
  refine sA (v := .bool b) rfl (fun _ henv => rn_pick henv rfl rfl) ?_
  refine aA rfl rfl ?_
  intro a henv
  refine wpList_nil ?_
  refine th_n ?_
  refine wp_ret ?_
  refine leave henv (res1 Tryd.results68 (RV.tmp henv rfl)) ?_
  exact ⟨_, rfl, hb1, hst.below⟩
theorem qlong_no {A : Option Addr} {n c : Nat} {es : List FE} {w0 : World} (hr : (pfRow fF FF 2 A n c es).P w0) (hn : n ≤ 12) (hs : ∀ e ∈ es, ¬ Lg e) :
    Calls Tryd.prog 68 #[.slice A n c] w0 fun e w' => e = .returned (.bool false) ∧ Below w0.heap.size w0 w' := by
  refine (qlong_few hr hn).mono ?_
  rintro e w' ⟨b, rfl, hb, hB⟩
  cases b with
  | false => exact ⟨rfl, hB⟩
  | true => obtain ⟨e, he, h⟩ := hb.1 rfl; exact absurd h (hs e he)
theorem qlong_yes {A : Option Addr} {n c : Nat} {es : List FE} {w0 : World} (hr : (pfRow fF FF 2 A n c es).P w0) (hs : ∃ e ∈ es, Lg e) :
    Calls Tryd.prog 68 #[.slice A n c] w0 fun e w' => e = .returned (.bool true) ∧ Below w0.heap.size w0 w' := by
  rcases Nat.lt_or_ge 12 n with hn | hn
  · exact qlong_many hr hn
  refine (qlong_few hr hn).mono ?_
  rintro e w' ⟨b, rfl, hb, hB⟩
  obtain rfl := hb.2 hs
  exact ⟨rfl, hB⟩
set_option maxRecDepth 100000 in
set_option maxHeartbeats 2000000 in
theorem qworks {w0 : World} :
    Calls Tryd.prog 55 #[] w0 fun e w' => e = .returned (.bool true) ∧ Below w0.heap.size w0 w' := by
  have h6 : zl 6 ≤ 1 := nl_le_of_lt (by decide)
  have h4 : zl (-4) ≤ 1 := nl_le_of_lt (by decide)
  refine enter Tryd.func55 rfl Tryd.ntmps55 rfl ?_
  intro a henv hst
  refine wp_seq ?_
  refine region_seq ?_
  refine sv (v := .bool false) henv rfl (rn_assign henv rfl) ?_
  clear henv a; intro a henv
  refine wpList_nil ?_
  refine th_n ?_
  refine wp_seq ?_
  refine region_seq ?_
  refine seq_step rfl (op_call henv rfl Tryd.call43 rfl (of_z (n := (6 : Int)) (by decide) (by decide)) ?_)
  rintro e w4 ⟨_, rfl, ⟨A1, c2, rfl, hz3⟩, hb⟩
  refine ⟨_, rfl, ?_⟩
  clear henv a; intro a henv
  replace hst := (hst.call hb).addZ hz3 trivial
  clear hz3
  clear hb
  refine seq_step rfl (op_call henv rfl Tryd.call43 rfl (of_z (n := (-4 : Int)) (by decide) (by decide)) ?_)
  rintro e w8 ⟨_, rfl, ⟨A5, c6, rfl, hz7⟩, hb⟩
  refine ⟨_, rfl, ?_⟩
  clear henv a; intro a henv
  replace hst := (hst.call hb).addZ hz7 trivial
  clear hz7
  clear hb
  refine seq_step rfl (op_call henv rfl Tryd.call90 rfl (make_qr (p := 6) (q := -4) (r := mkRat (-3) 2) (show ZIn _ A1 c2 6 from hst.pat (k := 1) rfl) (show ZIn _ A5 c6 (-4) from hst.pat (k := 0) rfl) (by omega) (by omega) (by decide) (by decide +kernel)) ?_)
  rintro e w15 ⟨_, rfl, ⟨A9, c10, B11, d12, rfl, hz13, hz14⟩, hb⟩
  refine ⟨_, rfl, ?_⟩
  clear henv a; intro a henv
  replace hst := ((hst.call hb).addZ hz13 trivial).addZ hz14 trivial
  clear hz13 hz14
  clear hb
  revert a
  refine mA rfl rfl ?_
  refine sA (v := .agg #[.bool (neg (qn (mkRat (-3) 2))), .slice A9 (zl (qn (mkRat (-3) 2))) c10, .bool (neg (ql (mkRat (-3) 2))), .slice B11 (zl (ql (mkRat (-3) 2))) d12]) rfl (fun _ henv => rn_extract henv rfl rfl) ?_
  refine sA (v := .int .i64 0) rfl (fun _ henv => rn_extract henv rfl rfl) ?_
  intro a henv
  refine seq_step rfl (op_alloc (c := #[.bool (neg (qn 0)), .slice none (zl (qn 0)) 0, .bool (neg (ql 0)), .slice none (zl (ql 0)) 0]) henv hst rfl zero_anvil_ratio_Rat qcells ?_)
  clear henv hst a; intro a w17 g16 henv hst
  refine seq_step rfl (op_store (k := 0) (c' := #[.bool (neg (qn (mkRat (-3) 2))), .slice A9 (zl (qn (mkRat (-3) 2))) c10, .bool (neg (ql (mkRat (-3) 2))), .slice B11 (zl (ql (mkRat (-3) 2))) d12]) henv hst (ty_anvil_ratio_Rat.size) rfl rfl rfl rfl (by simp) rfl rfl ?_)
  clear henv hst a; intro a w18 henv hst
  refine sv (v := .int .i64 0) henv rfl (rn_assign henv rfl) ?_
  clear henv a; intro a henv
  refine wpList_nil ?_
  refine th_n ?_
  refine wp_seq ?_
  refine cut (fun a w => ∃ A20 : Option Addr, ∃ c21 : Nat, ∃ A24 : Option Addr, ∃ c25 : Nat, ∃ B26 : Option Addr, ∃ d27 : Nat, ∃ A31 : Option Addr, ∃ c32 : Nat, ∃ B33 : Option Addr, ∃ d34 : Nat, ∃ g38 : Nat, Env 59 a [(0, .bool false), (7, .agg #[.bool (neg 6), .slice A1 (zl 6) c2]), (8, .agg #[.bool (neg (-4)), .slice A5 (zl (-4)) c6]), (9, .tuple #[.agg #[.bool (neg (qn (mkRat (-3) 2))), .slice A9 (zl (qn (mkRat (-3) 2))) c10, .bool (neg (ql (mkRat (-3) 2))), .slice B11 (zl (ql (mkRat (-3) 2))) d12], .int .i64 0]), (6, .tuple #[.agg #[.bool (neg (qn (mkRat (-3) 2))), .slice A9 (zl (qn (mkRat (-3) 2))) c10, .bool (neg (ql (mkRat (-3) 2))), .slice B11 (zl (ql (mkRat (-3) 2))) d12], .int .i64 0]), (10, .agg #[.bool (neg (qn (mkRat (-3) 2))), .slice A9 (zl (qn (mkRat (-3) 2))) c10, .bool (neg (ql (mkRat (-3) 2))), .slice B11 (zl (ql (mkRat (-3) 2))) d12]), (11, .int .i64 0), (1, .pointer (some ⟨g16, 0, none⟩)), (2, .int .i64 0), (3, .pointer (some ⟨g38, 0, none⟩)), (4, .int .i64 0)] ∧ St w0 w [bk g38 #[.bool (neg (qn ((mkRat (-3) 2) / ((3 : Int) : Rat)))), .slice A31 (zl (qn ((mkRat (-3) 2) / ((3 : Int) : Rat)))) c32, .bool (neg (ql ((mkRat (-3) 2) / ((3 : Int) : Rat)))), .slice B33 (zl (ql ((mkRat (-3) 2) / ((3 : Int) : Rat)))) d34] 91, bk g16 #[.bool (neg (qn (mkRat (-3) 2))), .slice A9 (zl (qn (mkRat (-3) 2))) c10, .bool (neg (ql (mkRat (-3) 2))), .slice B11 (zl (ql (mkRat (-3) 2))) d12] 91] [pfZ B33 d34 (ql ((mkRat (-3) 2) / ((3 : Int) : Rat))), pfZ A31 c32 (qn ((mkRat (-3) 2) / ((3 : Int) : Rat))), pfZ B26 d27 (ql ((3 : Int) : Rat)), pfZ A24 c25 (qn ((3 : Int) : Rat)), pfZ A20 c21 3, pfZ B11 d12 (ql (mkRat (-3) 2)), pfZ A9 c10 (qn (mkRat (-3) 2)), pfZ A5 c6 (-4), pfZ A1 c2 6]) ?_ ?_
  · refine region_any (n := 10) (Sk [bk g16 #[.bool (neg (qn (mkRat (-3) 2))), .slice A9 (zl (qn (mkRat (-3) 2))) c10, .bool (neg (ql (mkRat (-3) 2))), .slice B11 (zl (ql (mkRat (-3) 2))) d12] 91] [pfZ B11 d12 (ql (mkRat (-3) 2)), pfZ A9 c10 (qn (mkRat (-3) 2)), pfZ A5 c6 (-4), pfZ A1 c2 6] [8] []) mixed rfl henv hst ?_
    clear henv hst; intro w19 henv hst
    refine tL (i := 0) 0 0 [3, 4, 5, 6, 8, 9] rfl (by kernel_rfl) (fun _ _ _ h => h) henv rfl ty_anvil_ratio_Rat rfl hst rfl rfl rfl ?_
    clear henv a; intro a henv
    refine sAny_all (rs := [1, 7]) (by kernel_rfl) (by simp) ?_
    simp only [List.forall_mem_cons, List.not_mem_nil, false_implies, implies_true, and_true]
    refine ⟨?_, ?_⟩
    · refine ⟨_, rfl, rfl, op_call henv rfl Tryd.call43 rfl (of_z (n := (3 : Int)) (by decide) (by decide)) ?_⟩
      rintro e w23 ⟨_, rfl, ⟨A20, c21, rfl, hz22⟩, hb⟩
      refine ⟨_, rfl, ?_⟩
      clear henv a; intro a henv
      replace hst := (hst.call hb).addZ hz22 ⟨nou_bk rfl, trivial⟩
      clear hz22
      clear hb
      refine ⟨.inr ⟨hst.kn.pick [0] (rg 1 4), .inr (hst.kn.pick [] [])⟩, ?_⟩
      refine sAny_all (rs := [2, 7]) (by kernel_rfl) (by simp) ?_
      simp only [List.forall_mem_cons, List.not_mem_nil, false_implies, implies_true, and_true]
      refine ⟨?_, ?_⟩
      · refine ⟨_, rfl, rfl, op_call henv rfl Tryd.call65 rfl (of_int_q (z := 3) (show ZIn _ A20 c21 3 from hst.pat (k := 0) rfl)) ?_⟩
        rintro e w30 ⟨_, rfl, ⟨A24, c25, B26, d27, rfl, hz28, hz29⟩, hb⟩
        refine ⟨_, rfl, ?_⟩
        clear henv a; intro a henv
        replace hst := ((hst.call hb).addZ hz28 ⟨nou_bk rfl, trivial⟩).addZ hz29 ⟨nou_bk rfl, trivial⟩
        clear hz28 hz29
        clear hb
        refine ⟨.inr ⟨hst.kn.pick [0] (rg 3 4), .inr (hst.kn.pick [] [])⟩, ?_⟩
        refine sAny_all (rs := [3, 7]) (by kernel_rfl) (by simp) ?_
        simp only [List.forall_mem_cons, List.not_mem_nil, false_implies, implies_true, and_true]
        refine ⟨?_, ?_⟩
        · refine ⟨_, rfl, rfl, op_call henv rfl Tryd.call62 rfl (over_q (x := mkRat (-3) 2) (y := ((3 : Int) : Rat)) (show ZIn _ A9 c10 (qn (mkRat (-3) 2)) from hst.pat (k := 4) rfl) (show ZIn _ B11 d12 (ql (mkRat (-3) 2)) from hst.pat (k := 3) rfl) (show ZIn _ A24 c25 (qn ((3 : Int) : Rat)) from hst.pat (k := 1) rfl) (show ZIn _ B26 d27 (ql ((3 : Int) : Rat)) from hst.pat (k := 0) rfl) qs_w qs_3 (by omega) (by decide)) ?_⟩
          rintro e w37 ⟨_, rfl, ⟨A31, c32, B33, d34, rfl, hz35, hz36⟩, hb⟩
          refine ⟨_, rfl, ?_⟩
          clear henv a; intro a henv
          replace hst := ((hst.call hb).addZ hz35 ⟨nou_bk rfl, trivial⟩).addZ hz36 ⟨nou_bk rfl, trivial⟩
          clear hz35 hz36
          clear hb
          refine ⟨.inr ⟨hst.kn.pick [0] (rg 5 4), .inr (hst.kn.pick [] [])⟩, ?_⟩
          refine tM (i := 4) [5, 6, 8, 9] rfl (by kernel_rfl) (fun _ _ _ h => h) henv rfl rfl ?_
          clear henv a; intro a henv
          refine tA (i := 5) [8, 9] (v := .agg #[.bool (neg (qn ((mkRat (-3) 2) / ((3 : Int) : Rat)))), .slice A31 (zl (qn ((mkRat (-3) 2) / ((3 : Int) : Rat)))) c32, .bool (neg (ql ((mkRat (-3) 2) / ((3 : Int) : Rat)))), .slice B33 (zl (ql ((mkRat (-3) 2) / ((3 : Int) : Rat)))) d34]) rfl (by kernel_rfl) (fun _ _ _ h => h) henv rfl (fun _ => rn_extract henv rfl rfl) ?_
          clear henv a; intro a henv
          refine tA (i := 6) [9] (v := .int .i64 0) rfl (by kernel_rfl) (fun _ _ _ h => h) henv rfl (fun _ => rn_extract henv rfl rfl) ?_
          clear henv a; intro a henv
          refine sAny_one (i := 7) (by kernel_rfl) rfl rfl (op_alloc (c := #[.bool (neg (qn 0)), .slice none (zl (qn 0)) 0, .bool (neg (ql 0)), .slice none (zl (ql 0)) 0]) henv hst rfl zero_anvil_ratio_Rat qcells ?_)
          clear henv hst a; intro a w39 g38 henv hst
          refine ⟨.inr ⟨hst.kn.pick [1] (rg 5 4), .inr (hst.kn.pick [] [])⟩, ?_⟩
          refine sAny_one (i := 8) (by kernel_rfl) rfl rfl (op_store (k := 0) (c' := #[.bool (neg (qn ((mkRat (-3) 2) / ((3 : Int) : Rat)))), .slice A31 (zl (qn ((mkRat (-3) 2) / ((3 : Int) : Rat)))) c32, .bool (neg (ql ((mkRat (-3) 2) / ((3 : Int) : Rat)))), .slice B33 (zl (ql ((mkRat (-3) 2) / ((3 : Int) : Rat)))) d34]) henv hst (ty_anvil_ratio_Rat.size) rfl rfl rfl rfl (by simp) rfl rfl ?_)
          clear henv hst a; intro a w40 henv hst
          refine ⟨.inr ⟨hst.kn.pick [1] (rg 5 4), .inl rfl⟩, ?_⟩
          refine tA (i := 9) [] (v := .int .i64 0) rfl (by kernel_rfl) (fun _ _ _ h => h) henv rfl (fun _ => rn_assign henv rfl) ?_
          clear henv a; intro a henv
          refine sAny_done (by kernel_rfl) ?_ _
          exact th_n ⟨A20, c21, A24, c25, B26, d27, A31, c32, B33, d34, g38, henv.sub ⟨rfl, rfl, rfl, rfl, rfl, rfl, rfl, rfl, rfl, rfl, rfl, trivial⟩, hst.pick [0, 1] [0, 1, 2, 3, 4, 5, 6, 7, 8] (by decide)⟩
        · refine ⟨_, rfl, rfl, op_alloc (c := #[.bool (neg (qn 0)), .slice none (zl (qn 0)) 0, .bool (neg (ql 0)), .slice none (zl (ql 0)) 0]) henv hst rfl zero_anvil_ratio_Rat qcells ?_⟩
          clear henv hst a; intro a w42 g41 henv hst
          refine ⟨.inr ⟨hst.kn.pick [1] (rg 3 4), .inr (hst.kn.pick [] [])⟩, ?_⟩
          refine sAny_one (i := 3) (by kernel_rfl) rfl rfl (op_call henv rfl Tryd.call62 rfl (over_q (x := mkRat (-3) 2) (y := ((3 : Int) : Rat)) (show ZIn _ A9 c10 (qn (mkRat (-3) 2)) from hst.pat (k := 4) rfl) (show ZIn _ B11 d12 (ql (mkRat (-3) 2)) from hst.pat (k := 3) rfl) (show ZIn _ A24 c25 (qn ((3 : Int) : Rat)) from hst.pat (k := 1) rfl) (show ZIn _ B26 d27 (ql ((3 : Int) : Rat)) from hst.pat (k := 0) rfl) qs_w qs_3 (by omega) (by decide)) ?_)
          rintro e w49 ⟨_, rfl, ⟨A43, c44, B45, d46, rfl, hz47, hz48⟩, hb⟩
          refine ⟨_, rfl, ?_⟩
          clear henv a; intro a henv
          replace hst := ((hst.call hb).addZ hz47 ⟨nou_bk rfl, nou_bk rfl, trivial⟩).addZ hz48 ⟨nou_bk rfl, nou_bk rfl, trivial⟩
          clear hz47 hz48
          clear hb
          refine ⟨.inr ⟨hst.kn.pick [1] (rg 5 4), .inr (hst.kn.pick [] [])⟩, ?_⟩
          refine tM (i := 4) [5, 6, 8, 9] rfl (by kernel_rfl) (fun _ _ _ h => h) henv rfl rfl ?_
          clear henv a; intro a henv
          refine tA (i := 5) [8, 9] (v := .agg #[.bool (neg (qn ((mkRat (-3) 2) / ((3 : Int) : Rat)))), .slice A43 (zl (qn ((mkRat (-3) 2) / ((3 : Int) : Rat)))) c44, .bool (neg (ql ((mkRat (-3) 2) / ((3 : Int) : Rat)))), .slice B45 (zl (ql ((mkRat (-3) 2) / ((3 : Int) : Rat)))) d46]) rfl (by kernel_rfl) (fun _ _ _ h => h) henv rfl (fun _ => rn_extract henv rfl rfl) ?_
          clear henv a; intro a henv
          refine tA (i := 6) [9] (v := .int .i64 0) rfl (by kernel_rfl) (fun _ _ _ h => h) henv rfl (fun _ => rn_extract henv rfl rfl) ?_
          clear henv a; intro a henv
          refine sAny_one (i := 8) (by kernel_rfl) rfl rfl (op_store (k := 0) (c' := #[.bool (neg (qn ((mkRat (-3) 2) / ((3 : Int) : Rat)))), .slice A43 (zl (qn ((mkRat (-3) 2) / ((3 : Int) : Rat)))) c44, .bool (neg (ql ((mkRat (-3) 2) / ((3 : Int) : Rat)))), .slice B45 (zl (ql ((mkRat (-3) 2) / ((3 : Int) : Rat)))) d46]) henv hst (ty_anvil_ratio_Rat.size) rfl rfl rfl rfl (by simp) rfl rfl ?_)
          clear henv hst a; intro a w50 henv hst
          refine ⟨.inr ⟨hst.kn.pick [1] (rg 5 4), .inl rfl⟩, ?_⟩
          refine tA (i := 9) [] (v := .int .i64 0) rfl (by kernel_rfl) (fun _ _ _ h => h) henv rfl (fun _ => rn_assign henv rfl) ?_
          clear henv a; intro a henv
          refine sAny_done (by kernel_rfl) ?_ _
          exact th_n ⟨A20, c21, A24, c25, B26, d27, A43, c44, B45, d46, g41, henv.sub ⟨rfl, rfl, rfl, rfl, rfl, rfl, rfl, rfl, rfl, rfl, rfl, trivial⟩, hst.pick [0, 1] [0, 1, 2, 3, 4, 5, 6, 7, 8] (by decide)⟩
      · refine ⟨_, rfl, rfl, op_alloc (c := #[.bool (neg (qn 0)), .slice none (zl (qn 0)) 0, .bool (neg (ql 0)), .slice none (zl (ql 0)) 0]) henv hst rfl zero_anvil_ratio_Rat qcells ?_⟩
        clear henv hst a; intro a w52 g51 henv hst
        refine ⟨.inr ⟨hst.kn.pick [1] (rg 1 4), .inr (hst.kn.pick [] [])⟩, ?_⟩
        refine sAny_one (i := 2) (by kernel_rfl) rfl rfl (op_call henv rfl Tryd.call65 rfl (of_int_q (z := 3) (show ZIn _ A20 c21 3 from hst.pat (k := 0) rfl)) ?_)
        rintro e w59 ⟨_, rfl, ⟨A53, c54, B55, d56, rfl, hz57, hz58⟩, hb⟩
        refine ⟨_, rfl, ?_⟩
        clear henv a; intro a henv
        replace hst := ((hst.call hb).addZ hz57 ⟨nou_bk rfl, nou_bk rfl, trivial⟩).addZ hz58 ⟨nou_bk rfl, nou_bk rfl, trivial⟩
        clear hz57 hz58
        clear hb
        refine ⟨.inr ⟨hst.kn.pick [1] (rg 3 4), .inr (hst.kn.pick [] [])⟩, ?_⟩
        refine sAny_one (i := 3) (by kernel_rfl) rfl rfl (op_call henv rfl Tryd.call62 rfl (over_q (x := mkRat (-3) 2) (y := ((3 : Int) : Rat)) (show ZIn _ A9 c10 (qn (mkRat (-3) 2)) from hst.pat (k := 4) rfl) (show ZIn _ B11 d12 (ql (mkRat (-3) 2)) from hst.pat (k := 3) rfl) (show ZIn _ A53 c54 (qn ((3 : Int) : Rat)) from hst.pat (k := 1) rfl) (show ZIn _ B55 d56 (ql ((3 : Int) : Rat)) from hst.pat (k := 0) rfl) qs_w qs_3 (by omega) (by decide)) ?_)
        rintro e w66 ⟨_, rfl, ⟨A60, c61, B62, d63, rfl, hz64, hz65⟩, hb⟩
        refine ⟨_, rfl, ?_⟩
        clear henv a; intro a henv
        replace hst := ((hst.call hb).addZ hz64 ⟨nou_bk rfl, nou_bk rfl, trivial⟩).addZ hz65 ⟨nou_bk rfl, nou_bk rfl, trivial⟩
        clear hz64 hz65
        clear hb
        refine ⟨.inr ⟨hst.kn.pick [1] (rg 5 4), .inr (hst.kn.pick [] [])⟩, ?_⟩
        refine tM (i := 4) [5, 6, 8, 9] rfl (by kernel_rfl) (fun _ _ _ h => h) henv rfl rfl ?_
        clear henv a; intro a henv
        refine tA (i := 5) [8, 9] (v := .agg #[.bool (neg (qn ((mkRat (-3) 2) / ((3 : Int) : Rat)))), .slice A60 (zl (qn ((mkRat (-3) 2) / ((3 : Int) : Rat)))) c61, .bool (neg (ql ((mkRat (-3) 2) / ((3 : Int) : Rat)))), .slice B62 (zl (ql ((mkRat (-3) 2) / ((3 : Int) : Rat)))) d63]) rfl (by kernel_rfl) (fun _ _ _ h => h) henv rfl (fun _ => rn_extract henv rfl rfl) ?_
        clear henv a; intro a henv
        refine tA (i := 6) [9] (v := .int .i64 0) rfl (by kernel_rfl) (fun _ _ _ h => h) henv rfl (fun _ => rn_extract henv rfl rfl) ?_
        clear henv a; intro a henv
        refine sAny_one (i := 8) (by kernel_rfl) rfl rfl (op_store (k := 0) (c' := #[.bool (neg (qn ((mkRat (-3) 2) / ((3 : Int) : Rat)))), .slice A60 (zl (qn ((mkRat (-3) 2) / ((3 : Int) : Rat)))) c61, .bool (neg (ql ((mkRat (-3) 2) / ((3 : Int) : Rat)))), .slice B62 (zl (ql ((mkRat (-3) 2) / ((3 : Int) : Rat)))) d63]) henv hst (ty_anvil_ratio_Rat.size) rfl rfl rfl rfl (by simp) rfl rfl ?_)
        clear henv hst a; intro a w67 henv hst
        refine ⟨.inr ⟨hst.kn.pick [1] (rg 5 4), .inl rfl⟩, ?_⟩
        refine tA (i := 9) [] (v := .int .i64 0) rfl (by kernel_rfl) (fun _ _ _ h => h) henv rfl (fun _ => rn_assign henv rfl) ?_
        clear henv a; intro a henv
        refine sAny_done (by kernel_rfl) ?_ _
        exact th_n ⟨A20, c21, A53, c54, B55, d56, A60, c61, B62, d63, g51, henv.sub ⟨rfl, rfl, rfl, rfl, rfl, rfl, rfl, rfl, rfl, rfl, rfl, trivial⟩, hst.pick [0, 1] [0, 1, 2, 3, 4, 5, 6, 7, 8] (by decide)⟩
    · refine ⟨_, rfl, rfl, op_alloc (c := #[.bool (neg (qn 0)), .slice none (zl (qn 0)) 0, .bool (neg (ql 0)), .slice none (zl (ql 0)) 0]) henv hst rfl zero_anvil_ratio_Rat qcells ?_⟩
      clear henv hst a; intro a w69 g68 henv hst
      refine ⟨.inr ⟨hst.kn.pick [1] (rg 0 4), .inr (hst.kn.pick [] [])⟩, ?_⟩
      refine sAny_one (i := 1) (by kernel_rfl) rfl rfl (op_call henv rfl Tryd.call43 rfl (of_z (n := (3 : Int)) (by decide) (by decide)) ?_)
      rintro e w73 ⟨_, rfl, ⟨A70, c71, rfl, hz72⟩, hb⟩
      refine ⟨_, rfl, ?_⟩
      clear henv a; intro a henv
      replace hst := (hst.call hb).addZ hz72 ⟨nou_bk rfl, nou_bk rfl, trivial⟩
      clear hz72
      clear hb
      refine ⟨.inr ⟨hst.kn.pick [1] (rg 1 4), .inr (hst.kn.pick [] [])⟩, ?_⟩
      refine sAny_one (i := 2) (by kernel_rfl) rfl rfl (op_call henv rfl Tryd.call65 rfl (of_int_q (z := 3) (show ZIn _ A70 c71 3 from hst.pat (k := 0) rfl)) ?_)
      rintro e w80 ⟨_, rfl, ⟨A74, c75, B76, d77, rfl, hz78, hz79⟩, hb⟩
      refine ⟨_, rfl, ?_⟩
      clear henv a; intro a henv
      replace hst := ((hst.call hb).addZ hz78 ⟨nou_bk rfl, nou_bk rfl, trivial⟩).addZ hz79 ⟨nou_bk rfl, nou_bk rfl, trivial⟩
      clear hz78 hz79
      clear hb
      refine ⟨.inr ⟨hst.kn.pick [1] (rg 3 4), .inr (hst.kn.pick [] [])⟩, ?_⟩
      refine sAny_one (i := 3) (by kernel_rfl) rfl rfl (op_call henv rfl Tryd.call62 rfl (over_q (x := mkRat (-3) 2) (y := ((3 : Int) : Rat)) (show ZIn _ A9 c10 (qn (mkRat (-3) 2)) from hst.pat (k := 4) rfl) (show ZIn _ B11 d12 (ql (mkRat (-3) 2)) from hst.pat (k := 3) rfl) (show ZIn _ A74 c75 (qn ((3 : Int) : Rat)) from hst.pat (k := 1) rfl) (show ZIn _ B76 d77 (ql ((3 : Int) : Rat)) from hst.pat (k := 0) rfl) qs_w qs_3 (by omega) (by decide)) ?_)
      rintro e w87 ⟨_, rfl, ⟨A81, c82, B83, d84, rfl, hz85, hz86⟩, hb⟩
      refine ⟨_, rfl, ?_⟩
      clear henv a; intro a henv
      replace hst := ((hst.call hb).addZ hz85 ⟨nou_bk rfl, nou_bk rfl, trivial⟩).addZ hz86 ⟨nou_bk rfl, nou_bk rfl, trivial⟩
      clear hz85 hz86
      clear hb
      refine ⟨.inr ⟨hst.kn.pick [1] (rg 5 4), .inr (hst.kn.pick [] [])⟩, ?_⟩
      refine tM (i := 4) [5, 6, 8, 9] rfl (by kernel_rfl) (fun _ _ _ h => h) henv rfl rfl ?_
      clear henv a; intro a henv
      refine tA (i := 5) [8, 9] (v := .agg #[.bool (neg (qn ((mkRat (-3) 2) / ((3 : Int) : Rat)))), .slice A81 (zl (qn ((mkRat (-3) 2) / ((3 : Int) : Rat)))) c82, .bool (neg (ql ((mkRat (-3) 2) / ((3 : Int) : Rat)))), .slice B83 (zl (ql ((mkRat (-3) 2) / ((3 : Int) : Rat)))) d84]) rfl (by kernel_rfl) (fun _ _ _ h => h) henv rfl (fun _ => rn_extract henv rfl rfl) ?_
      clear henv a; intro a henv
      refine tA (i := 6) [9] (v := .int .i64 0) rfl (by kernel_rfl) (fun _ _ _ h => h) henv rfl (fun _ => rn_extract henv rfl rfl) ?_
      clear henv a; intro a henv
      refine sAny_one (i := 8) (by kernel_rfl) rfl rfl (op_store (k := 0) (c' := #[.bool (neg (qn ((mkRat (-3) 2) / ((3 : Int) : Rat)))), .slice A81 (zl (qn ((mkRat (-3) 2) / ((3 : Int) : Rat)))) c82, .bool (neg (ql ((mkRat (-3) 2) / ((3 : Int) : Rat)))), .slice B83 (zl (ql ((mkRat (-3) 2) / ((3 : Int) : Rat)))) d84]) henv hst (ty_anvil_ratio_Rat.size) rfl rfl rfl rfl (by simp) rfl rfl ?_)
      clear henv hst a; intro a w88 henv hst
      refine ⟨.inr ⟨hst.kn.pick [1] (rg 5 4), .inl rfl⟩, ?_⟩
      refine tA (i := 9) [] (v := .int .i64 0) rfl (by kernel_rfl) (fun _ _ _ h => h) henv rfl (fun _ => rn_assign henv rfl) ?_
      clear henv a; intro a henv
      refine sAny_done (by kernel_rfl) ?_ _
      exact th_n ⟨A70, c71, A74, c75, B76, d77, A81, c82, B83, d84, g68, henv.sub ⟨rfl, rfl, rfl, rfl, rfl, rfl, rfl, rfl, rfl, rfl, rfl, trivial⟩, hst.pick [0, 1] [0, 1, 2, 3, 4, 5, 6, 7, 8] (by decide)⟩
  clear henv hst a
  rintro a w89 ⟨A20, c21, A24, c25, B26, d27, A31, c32, B33, d34, g38, henv, hst⟩
  refine wp_seq ?_
  refine region_seq ?_
  revert a
  refine sA (v := .agg #[.bool (neg (qn ((mkRat (-3) 2) / ((3 : Int) : Rat)))), .slice A31 (zl (qn ((mkRat (-3) 2) / ((3 : Int) : Rat)))) c32, .bool (neg (ql ((mkRat (-3) 2) / ((3 : Int) : Rat)))), .slice B33 (zl (ql ((mkRat (-3) 2) / ((3 : Int) : Rat)))) d34]) rfl (fun _ henv => rn_load0 henv ty_anvil_ratio_Rat rfl (hst.oat (k := 0) rfl) rfl) ?_
  refine sA (v := .agg #[.bool (neg (qn (mkRat (-3) 2))), .slice A9 (zl (qn (mkRat (-3) 2))) c10, .bool (neg (ql (mkRat (-3) 2))), .slice B11 (zl (ql (mkRat (-3) 2))) d12]) rfl (fun _ henv => rn_load0 henv ty_anvil_ratio_Rat rfl (hst.oat (k := 1) rfl) rfl) ?_
  intro a henv
  have hq96 : Qs 4 (((mkRat (-3) 2) / ((3 : Int) : Rat)) + (mkRat (-3) 2)) := by have h := (Qs.over qs_w qs_3 (by decide)).add qs_w; exact h
  refine seq_step rfl (op_call henv rfl Tryd.call58 rfl (add_q (x := (mkRat (-3) 2) / ((3 : Int) : Rat)) (y := mkRat (-3) 2) (show ZIn _ A31 c32 (qn ((mkRat (-3) 2) / ((3 : Int) : Rat))) from hst.pat (k := 1) rfl) (show ZIn _ B33 d34 (ql ((mkRat (-3) 2) / ((3 : Int) : Rat))) from hst.pat (k := 0) rfl) (show ZIn _ A9 c10 (qn (mkRat (-3) 2)) from hst.pat (k := 6) rfl) (show ZIn _ B11 d12 (ql (mkRat (-3) 2)) from hst.pat (k := 5) rfl) (Qs.over qs_w qs_3 (by decide)) qs_w (by omega)) ?_)
  rintro e w97 ⟨_, rfl, ⟨A90, c91, B92, d93, rfl, hz94, hz95⟩, hb⟩
  refine ⟨_, rfl, ?_⟩
  clear henv a; intro a henv
  replace hst := ((hst.call hb).addZ hz94 ⟨nou_bk rfl, nou_bk rfl, trivial⟩).addZ hz95 ⟨nou_bk rfl, nou_bk rfl, trivial⟩
  clear hz94 hz95
  clear hb
  refine seq_step rfl (op_alloc (c := #[.bool (neg (qn 0)), .slice none (zl (qn 0)) 0, .bool (neg (ql 0)), .slice none (zl (ql 0)) 0]) henv hst rfl zero_anvil_ratio_Rat qcells ?_)
  clear henv hst a; intro a w99 g98 henv hst
  refine seq_step rfl (op_store (k := 0) (c' := #[.bool (neg (qn (((mkRat (-3) 2) / ((3 : Int) : Rat)) + (mkRat (-3) 2)))), .slice A90 (zl (qn (((mkRat (-3) 2) / ((3 : Int) : Rat)) + (mkRat (-3) 2)))) c91, .bool (neg (ql (((mkRat (-3) 2) / ((3 : Int) : Rat)) + (mkRat (-3) 2)))), .slice B92 (zl (ql (((mkRat (-3) 2) / ((3 : Int) : Rat)) + (mkRat (-3) 2)))) d93]) henv hst (ty_anvil_ratio_Rat.size) rfl rfl rfl rfl (by simp) rfl rfl ?_)
  clear henv hst a; intro a w100 henv hst
  refine wpList_nil ?_
  refine th_n ?_
  refine wp_seq ?_
  refine region_seq ?_
  revert a
  refine mA rfl rfl ?_
  refine sA (v := .bool true) rfl (fun _ henv => rn_bin henv rfl rfl rfl) ?_
  refine mA rfl rfl ?_
  refine gA (v := .int .i64 0) rfl rfl rfl rfl (fun _ henv => rn_move henv rfl) ?_
  refine gA (v := .bool true) rfl rfl rfl rfl (fun _ henv => rn_bin henv rfl rfl rfl) ?_
  refine sA (v := .bool true) rfl (fun _ henv => rn_pick henv rfl rfl) ?_
  refine mA rfl rfl ?_
  refine gA (v := .agg #[.bool (neg (qn (mkRat (-3) 2))), .slice A9 (zl (qn (mkRat (-3) 2))) c10, .bool (neg (ql (mkRat (-3) 2))), .slice B11 (zl (ql (mkRat (-3) 2))) d12]) rfl rfl rfl rfl (fun _ henv => rn_load0 henv ty_anvil_ratio_Rat rfl (hst.oat (k := 2) rfl) rfl) ?_
  intro a henv
  refine seq_g rfl henv rfl rfl (op_call henv rfl Tryd.call92 rfl (text_q (x := mkRat (-3) 2) (show ZIn _ A9 c10 (qn (mkRat (-3) 2)) from hst.pat (k := 8) rfl) (show ZIn _ B11 d12 (ql (mkRat (-3) 2)) from hst.pat (k := 7) rfl) qs_w (by omega)) ?_)
  rintro e w101 ⟨rfl, hb⟩
  refine ⟨_, rfl, ?_⟩
  clear henv a; intro a henv
  replace hst := hst.call hb
  clear hb
  refine seq_g rfl henv rfl rfl (op_val (v := .bool (decide ((textQ (mkRat (-3) 2)) = [45, 51, 47, 50]))) henv rfl (rn_eqls (s := (textQ (mkRat (-3) 2))) (t := [45, 51, 47, 50]) henv rfl rfl) ?_)
  clear henv a; intro a henv
  rw [show (decide ((textQ (mkRat (-3) 2)) = [45, 51, 47, 50])) = true from decide_eq_true (by decide +kernel)] at henv
  revert a
  refine sA (v := .bool true) rfl (fun _ henv => rn_pick henv rfl rfl) ?_
  refine mA rfl rfl ?_
  refine gA (v := .agg #[.bool (neg (qn ((mkRat (-3) 2) / ((3 : Int) : Rat)))), .slice A31 (zl (qn ((mkRat (-3) 2) / ((3 : Int) : Rat)))) c32, .bool (neg (ql ((mkRat (-3) 2) / ((3 : Int) : Rat)))), .slice B33 (zl (ql ((mkRat (-3) 2) / ((3 : Int) : Rat)))) d34]) rfl rfl rfl rfl (fun _ henv => rn_load0 henv ty_anvil_ratio_Rat rfl (hst.oat (k := 1) rfl) rfl) ?_
  intro a henv
  refine seq_g rfl henv rfl rfl (op_call henv rfl Tryd.call92 rfl (text_q (x := (mkRat (-3) 2) / ((3 : Int) : Rat)) (show ZIn _ A31 c32 (qn ((mkRat (-3) 2) / ((3 : Int) : Rat))) from hst.pat (k := 3) rfl) (show ZIn _ B33 d34 (ql ((mkRat (-3) 2) / ((3 : Int) : Rat))) from hst.pat (k := 2) rfl) (Qs.over qs_w qs_3 (by decide)) (by omega)) ?_)
  rintro e w102 ⟨rfl, hb⟩
  refine ⟨_, rfl, ?_⟩
  clear henv a; intro a henv
  replace hst := hst.call hb
  clear hb
  refine seq_g rfl henv rfl rfl (op_val (v := .bool (decide ((textQ ((mkRat (-3) 2) / ((3 : Int) : Rat))) = [45, 49, 47, 50]))) henv rfl (rn_eqls (s := (textQ ((mkRat (-3) 2) / ((3 : Int) : Rat)))) (t := [45, 49, 47, 50]) henv rfl rfl) ?_)
  clear henv a; intro a henv
  rw [show (decide ((textQ ((mkRat (-3) 2) / ((3 : Int) : Rat))) = [45, 49, 47, 50])) = true from decide_eq_true (by decide +kernel)] at henv
  revert a
  refine sA (v := .bool true) rfl (fun _ henv => rn_pick henv rfl rfl) ?_
  refine mA rfl rfl ?_
  refine gA (v := .agg #[.bool (neg (qn (((mkRat (-3) 2) / ((3 : Int) : Rat)) + (mkRat (-3) 2)))), .slice A90 (zl (qn (((mkRat (-3) 2) / ((3 : Int) : Rat)) + (mkRat (-3) 2)))) c91, .bool (neg (ql (((mkRat (-3) 2) / ((3 : Int) : Rat)) + (mkRat (-3) 2)))), .slice B92 (zl (ql (((mkRat (-3) 2) / ((3 : Int) : Rat)) + (mkRat (-3) 2)))) d93]) rfl rfl rfl rfl (fun _ henv => rn_load0 henv ty_anvil_ratio_Rat rfl (hst.oat (k := 0) rfl) rfl) ?_
  intro a henv
  refine seq_g rfl henv rfl rfl (op_call henv rfl Tryd.call92 rfl (text_q (x := ((mkRat (-3) 2) / ((3 : Int) : Rat)) + (mkRat (-3) 2)) (show ZIn _ A90 c91 (qn (((mkRat (-3) 2) / ((3 : Int) : Rat)) + (mkRat (-3) 2))) from hst.pat (k := 1) rfl) (show ZIn _ B92 d93 (ql (((mkRat (-3) 2) / ((3 : Int) : Rat)) + (mkRat (-3) 2))) from hst.pat (k := 0) rfl) hq96 (by omega)) ?_)
  rintro e w103 ⟨rfl, hb⟩
  refine ⟨_, rfl, ?_⟩
  clear henv a; intro a henv
  replace hst := hst.call hb
  clear hb
  refine seq_g rfl henv rfl rfl (op_val (v := .bool (decide ((textQ (((mkRat (-3) 2) / ((3 : Int) : Rat)) + (mkRat (-3) 2))) = [45, 50]))) henv rfl (rn_eqls (s := (textQ (((mkRat (-3) 2) / ((3 : Int) : Rat)) + (mkRat (-3) 2)))) (t := [45, 50]) henv rfl rfl) ?_)
  clear henv a; intro a henv
  rw [show (decide ((textQ (((mkRat (-3) 2) / ((3 : Int) : Rat)) + (mkRat (-3) 2))) = [45, 50])) = true from decide_eq_true (by decide +kernel)] at henv
  revert a
  refine sA (v := .bool true) rfl (fun _ henv => rn_pick henv rfl rfl) ?_
  refine mA rfl rfl ?_
  refine gA (v := .agg #[.bool (neg (qn (((mkRat (-3) 2) / ((3 : Int) : Rat)) + (mkRat (-3) 2)))), .slice A90 (zl (qn (((mkRat (-3) 2) / ((3 : Int) : Rat)) + (mkRat (-3) 2)))) c91, .bool (neg (ql (((mkRat (-3) 2) / ((3 : Int) : Rat)) + (mkRat (-3) 2)))), .slice B92 (zl (ql (((mkRat (-3) 2) / ((3 : Int) : Rat)) + (mkRat (-3) 2)))) d93]) rfl rfl rfl rfl (fun _ henv => rn_load0 henv ty_anvil_ratio_Rat rfl (hst.oat (k := 0) rfl) rfl) ?_
  intro a henv
  refine seq_g rfl henv rfl rfl (op_call henv rfl Tryd.call67 rfl (whole_q (x := ((mkRat (-3) 2) / ((3 : Int) : Rat)) + (mkRat (-3) 2)) (show ZIn _ A90 c91 (qn (((mkRat (-3) 2) / ((3 : Int) : Rat)) + (mkRat (-3) 2))) from hst.pat (k := 1) rfl) (show ZIn _ B92 d93 (ql (((mkRat (-3) 2) / ((3 : Int) : Rat)) + (mkRat (-3) 2))) from hst.pat (k := 0) rfl)) ?_)
  rintro e w104 ⟨rfl, hb⟩
  refine ⟨_, rfl, ?_⟩
  clear henv a; intro a henv
  replace hst := hst.call hb
  clear hb
  rw [show (decide (ql (((mkRat (-3) 2) / ((3 : Int) : Rat)) + (mkRat (-3) 2)) = 0)) = true from decide_eq_true (by decide +kernel)] at henv
  revert a
  refine sA (v := .bool true) rfl (fun _ henv => rn_pick henv rfl rfl) ?_
  refine mA rfl rfl ?_
  refine gA (v := .agg #[.bool (neg (qn (((mkRat (-3) 2) / ((3 : Int) : Rat)) + (mkRat (-3) 2)))), .slice A90 (zl (qn (((mkRat (-3) 2) / ((3 : Int) : Rat)) + (mkRat (-3) 2)))) c91, .bool (neg (ql (((mkRat (-3) 2) / ((3 : Int) : Rat)) + (mkRat (-3) 2)))), .slice B92 (zl (ql (((mkRat (-3) 2) / ((3 : Int) : Rat)) + (mkRat (-3) 2)))) d93]) rfl rfl rfl rfl (fun _ henv => rn_load0 henv ty_anvil_ratio_Rat rfl (hst.oat (k := 0) rfl) rfl) ?_
  intro a henv
  have hs108 := hq96.d
  refine seq_g rfl henv rfl rfl (op_call henv rfl Tryd.call89 rfl (den_q (x := ((mkRat (-3) 2) / ((3 : Int) : Rat)) + (mkRat (-3) 2)) (show ZIn _ A90 c91 (qn (((mkRat (-3) 2) / ((3 : Int) : Rat)) + (mkRat (-3) 2))) from hst.pat (k := 1) rfl) (show ZIn _ B92 d93 (ql (((mkRat (-3) 2) / ((3 : Int) : Rat)) + (mkRat (-3) 2))) from hst.pat (k := 0) rfl) hq96 (by omega)) ?_)
  rintro e w109 ⟨_, rfl, ⟨A105, c106, rfl, hz107⟩, hb⟩
  refine ⟨_, rfl, ?_⟩
  clear henv a; intro a henv
  replace hst := (hst.call hb).addZ hz107 ⟨nou_bk rfl, nou_bk rfl, nou_bk rfl, trivial⟩
  clear hz107
  clear hb
  refine seq_g rfl henv rfl rfl (op_call henv rfl Tryd.call72 rfl (text_z (z := (qd (((mkRat (-3) 2) / ((3 : Int) : Rat)) + (mkRat (-3) 2)))) (show ZIn _ A105 c106 (qd (((mkRat (-3) 2) / ((3 : Int) : Rat)) + (mkRat (-3) 2))) from hst.pat (k := 0) rfl) (by omega)) ?_)
  rintro e w110 ⟨rfl, hb⟩
  refine ⟨_, rfl, ?_⟩
  clear henv a; intro a henv
  replace hst := hst.call hb
  clear hb
  refine seq_g rfl henv rfl rfl (op_val (v := .bool (decide ((textZ (qd (((mkRat (-3) 2) / ((3 : Int) : Rat)) + (mkRat (-3) 2)))) = [49]))) henv rfl (rn_eqls (s := (textZ (qd (((mkRat (-3) 2) / ((3 : Int) : Rat)) + (mkRat (-3) 2))))) (t := [49]) henv rfl rfl) ?_)
  clear henv a; intro a henv
  rw [show (decide ((textZ (qd (((mkRat (-3) 2) / ((3 : Int) : Rat)) + (mkRat (-3) 2)))) = [49])) = true from decide_eq_true (by decide +kernel)] at henv
  revert a
  refine sA (v := .bool true) rfl (fun _ henv => rn_pick henv rfl rfl) ?_
  refine mA rfl rfl ?_
  refine gA (v := .agg #[.bool (neg (qn (mkRat (-3) 2))), .slice A9 (zl (qn (mkRat (-3) 2))) c10, .bool (neg (ql (mkRat (-3) 2))), .slice B11 (zl (ql (mkRat (-3) 2))) d12]) rfl rfl rfl rfl (fun _ henv => rn_load0 henv ty_anvil_ratio_Rat rfl (hst.oat (k := 2) rfl) rfl) ?_
  intro a henv
  have hs114 : zl (mkRat (-3) 2).floor ≤ 1 := floor_sz qs_w
  refine seq_g rfl henv rfl rfl (op_call henv rfl Tryd.call66 rfl (floor_q (x := mkRat (-3) 2) (show ZIn _ A9 c10 (qn (mkRat (-3) 2)) from hst.pat (k := 9) rfl) (show ZIn _ B11 d12 (ql (mkRat (-3) 2)) from hst.pat (k := 8) rfl) qs_w (by omega)) ?_)
  rintro e w115 ⟨_, rfl, ⟨A111, c112, rfl, hz113⟩, hb⟩
  refine ⟨_, rfl, ?_⟩
  clear henv a; intro a henv
  replace hst := (hst.call hb).addZ hz113 ⟨nou_bk rfl, nou_bk rfl, nou_bk rfl, trivial⟩
  clear hz113
  clear hb
  refine seq_g rfl henv rfl rfl (op_call henv rfl Tryd.call72 rfl (text_z (z := (mkRat (-3) 2).floor) (show ZIn _ A111 c112 ((mkRat (-3) 2).floor) from hst.pat (k := 0) rfl) (by omega)) ?_)
  rintro e w116 ⟨rfl, hb⟩
  refine ⟨_, rfl, ?_⟩
  clear henv a; intro a henv
  replace hst := hst.call hb
  clear hb
  refine seq_g rfl henv rfl rfl (op_val (v := .bool (decide ((textZ ((mkRat (-3) 2).floor)) = [45, 50]))) henv rfl (rn_eqls (s := (textZ ((mkRat (-3) 2).floor))) (t := [45, 50]) henv rfl rfl) ?_)
  clear henv a; intro a henv
  rw [show (decide ((textZ ((mkRat (-3) 2).floor)) = [45, 50])) = true from decide_eq_true (by decide +kernel)] at henv
  revert a
  refine sA (v := .bool true) rfl (fun _ henv => rn_pick henv rfl rfl) ?_
  refine aA rfl rfl ?_
  intro a henv
  refine wpList_nil ?_
  refine th_n ?_
  refine wp_ret ?_
  refine leave henv (res1 Tryd.results55 (RV.tmp henv rfl)) ?_
  exact ⟨rfl, hst.below⟩
end Go.Proofs.YtegglooojlheoaaDoor.W

/- alone, three, same; RatioOrder, RatioField: the laws' walks. Printed by pv/gen_qlaw3.py. No condition. -/
namespace Go.Proofs.YtegglooojlheoaaDoor.W
open Go.RowKit Anv Go.Lib
section
variable {P : Program} {N : Nat} {dq : List Deferred} {a : Act} {l : List (Nat × Value)} {w : World} {d : Nat} {ty : TypeId} {pos : String} {af : Array Edge} {gd : Option (Nat × Bool)}
end
def IRd (s : List UInt8) (z p q : Int) : Prop := ∀ w0 : World,
    Calls Tryd.prog 113 #[.string ⟨s.toArray⟩] w0 fun e w' => ∃ v, e = .returned (.tuple #[v, .agg #[.int .i64 p, .int .i64 q]]) ∧ ZAt w' v z ∧ Below w0.heap.size w0 w'
theorem ird_any (t : List UInt8) (hmx : t.length ≤ maxLen) : ∃ z p q : Int, IRd t z p q ∧ zl z ≤ 65537 ∧ (t.length ≤ 300 → zl z ≤ 400) := by
  have h00 : zl 0 ≤ 400 := by rw [zl_zero]; omega
  rcases Nat.lt_or_ge 65536 t.length with hl | hl
  · exact ⟨0, 3, 65536, fun w0 => (iread_long hl hmx).mono fun _ _ ⟨he, hB⟩ => ⟨_, he, zin_at _, hB⟩, by omega, fun _ => h00⟩
  rcases sign_cases t with h45 | ⟨d, rfl⟩
  · rcases read_cases 0 t with ⟨b, hfb⟩ | hfb
    · exact ⟨0, 6, (b : Nat), fun w0 => (iread_fb0 h45 (by omega) hfb).mono fun _ _ ⟨he, hB⟩ => ⟨_, he, zin_at _, hB⟩, by omega, fun _ => h00⟩
    · have hb := zl_num0 (digits_of hfb.ok)
      exact ⟨_, 0, 0, fun w0 => iread_ok0 h45 (by omega) hfb, by omega, fun h => by omega⟩
  · rw [List.length_cons] at hl
    rcases read_cases 1 d with ⟨b, hfb⟩ | hfb
    · exact ⟨0, 6, (b + 1 : Nat), fun w0 => (iread_fb1 (by omega) hfb).mono fun _ _ ⟨he, hB⟩ => ⟨_, he, zin_at _, hB⟩, by omega, fun _ => h00⟩
    · have hb := zl_num1 (digits_of hfb.ok)
      exact ⟨_, 0, 0, fun w0 => iread_ok1 (by omega) hfb, by omega, fun h => by rw [List.length_cons] at h; omega⟩
set_option maxRecDepth 100000 in
set_option maxHeartbeats 2000000 in
theorem alone_a1 {s t : List UInt8} {z y ps qs pt qt : Int} {w0 : World} (hs : IRd s z ps qs) (ht : IRd t y pt qt) (_bz : zl z ≤ 65537) (_by : zl y ≤ 65537) (u1 : ps ≠ 0) (hy0 : y = 0) :
    Calls Tryd.prog 87 #[.agg #[.string ⟨s.toArray⟩, .string ⟨t.toArray⟩]] w0 fun e w' => ∃ v, e = .returned (.tuple #[v, .bool false]) ∧ QAt w' v (0) ∧ Below w0.heap.size w0 w' := by
  refine enter Tryd.func87 rfl Tryd.ntmps87 rfl ?_
  intro a henv hst
  refine wp_seq ?_
  refine region_seq ?_
  refine seq_step rfl (op_box (c := #[.string ⟨s.toArray⟩, .string ⟨t.toArray⟩]) henv hst rfl rfl rfl ?_)
  clear henv hst a; intro a w2 g1 henv hst
  refine seq_step rfl (op_alloc (c := #[.bool (neg (qn 0)), .slice none (zl (qn 0)) 0, .bool (neg (ql 0)), .slice none (zl (ql 0)) 0]) henv hst rfl zero_anvil_ratio_Rat qcells ?_)
  clear henv hst a; intro a w4 g3 henv hst
  refine sv (v := .bool false) henv rfl (rn_assign henv rfl) ?_
  clear henv a; intro a henv
  refine wpList_nil ?_
  refine th_n ?_
  refine wp_seq ?_
  refine region_seq ?_
  revert a
  refine sA (v := .pointer (some ⟨g1, 0, none⟩)) rfl (fun _ henv => rn_fieldAddr henv fd_anvil_anvillaw03_Frac_0 (ty_string.size) (by decide) rfl) ?_
  refine sA (v := .string ⟨s.toArray⟩) rfl (fun _ henv => rn_load1 henv ty_string rfl (hst.oat (k := 1) rfl) rfl) ?_
  intro a henv
  refine seq_step rfl (op_call henv rfl Tryd.call113 rfl (hs _) ?_)
  rintro e w8 ⟨_, rfl, ⟨A5, c6, rfl, hz7⟩, hb⟩
  refine ⟨_, rfl, ?_⟩
  clear henv a; intro a henv
  replace hst := (hst.call hb).addZ hz7 ⟨nou_bk rfl, nou_bk rfl, trivial⟩
  clear hz7
  clear hb
  revert a
  refine mA rfl rfl ?_
  refine sA (v := .agg #[.bool (neg z), .slice A5 (zl z) c6]) rfl (fun _ henv => rn_extract henv rfl rfl) ?_
  refine sA (v := .agg #[.int .i64 ps, .int .i64 qs]) rfl (fun _ henv => rn_extract henv rfl rfl) ?_
  intro a henv
  refine seq_step rfl (op_alloc (c := #[.bool (neg 0), .slice none (zl 0) 0]) henv hst rfl zero_anvil_integer_Int zcells ?_)
  clear henv hst a; intro a w10 g9 henv hst
  refine seq_step rfl (op_alloc (c := #[.int .i64 0, .int .i64 0]) henv hst rfl zero_anvil_api_Spot rfl ?_)
  clear henv hst a; intro a w12 g11 henv hst
  refine seq_step rfl (op_store (k := 1) (c' := #[.bool (neg z), .slice A5 (zl z) c6]) henv hst (ty_anvil_integer_Int.size) rfl rfl rfl rfl (by simp) rfl rfl ?_)
  clear henv hst a; intro a w13 henv hst
  refine seq_step rfl (op_store (k := 0) (c' := #[.int .i64 ps, .int .i64 qs]) henv hst (ty_anvil_api_Spot.size) rfl rfl rfl rfl (by simp) rfl rfl ?_)
  clear henv hst a; intro a w14 henv hst
  refine wpList_nil ?_
  refine th_n ?_
  refine wp_seq ?_
  refine region_seq ?_
  revert a
  refine sA (v := .pointer (some ⟨g1, 1, none⟩)) rfl (fun _ henv => rn_fieldAddr henv fd_anvil_anvillaw03_Frac_1 (ty_string.size) (by decide) rfl) ?_
  refine sA (v := .string ⟨t.toArray⟩) rfl (fun _ henv => rn_load1 henv ty_string rfl (hst.oat (k := 3) rfl) rfl) ?_
  intro a henv
  refine seq_step rfl (op_call henv rfl Tryd.call113 rfl (ht _) ?_)
  rintro e w18 ⟨_, rfl, ⟨A15, c16, rfl, hz17⟩, hb⟩
  refine ⟨_, rfl, ?_⟩
  clear henv a; intro a henv
  replace hst := (hst.call hb).addZ hz17 ⟨nou_bk rfl, nou_bk rfl, nou_bk rfl, nou_bk rfl, trivial⟩
  clear hz17
  clear hb
  revert a
  refine mA rfl rfl ?_
  refine sA (v := .agg #[.bool (neg y), .slice A15 (zl y) c16]) rfl (fun _ henv => rn_extract henv rfl rfl) ?_
  refine sA (v := .agg #[.int .i64 pt, .int .i64 qt]) rfl (fun _ henv => rn_extract henv rfl rfl) ?_
  intro a henv
  refine seq_step rfl (op_alloc (c := #[.bool (neg 0), .slice none (zl 0) 0]) henv hst rfl zero_anvil_integer_Int zcells ?_)
  clear henv hst a; intro a w20 g19 henv hst
  refine seq_step rfl (op_alloc (c := #[.int .i64 0, .int .i64 0]) henv hst rfl zero_anvil_api_Spot rfl ?_)
  clear henv hst a; intro a w22 g21 henv hst
  refine seq_step rfl (op_store (k := 1) (c' := #[.bool (neg y), .slice A15 (zl y) c16]) henv hst (ty_anvil_integer_Int.size) rfl rfl rfl rfl (by simp) rfl rfl ?_)
  clear henv hst a; intro a w23 henv hst
  refine seq_step rfl (op_store (k := 0) (c' := #[.int .i64 pt, .int .i64 qt]) henv hst (ty_anvil_api_Spot.size) rfl rfl rfl rfl (by simp) rfl rfl ?_)
  clear henv hst a; intro a w24 henv hst
  refine wpList_nil ?_
  refine th_n ?_
  refine wp_seq ?_
  refine region_seq ?_
  revert a
  refine sA (v := .agg #[.bool (neg z), .slice A5 (zl z) c6]) rfl (fun _ henv => rn_load0 henv ty_anvil_integer_Int rfl (hst.oat (k := 3) rfl) rfl) ?_
  refine sA (v := .agg #[.bool (neg y), .slice A15 (zl y) c16]) rfl (fun _ henv => rn_load0 henv ty_anvil_integer_Int rfl (hst.oat (k := 1) rfl) rfl) ?_
  intro a henv
  refine seq_step rfl (op_call henv rfl Tryd.call90 rfl (make_z0 (p := z) (q := y) (show ZIn _ A5 c6 z from hst.pat (k := 1) rfl) (show ZIn _ A15 c16 y from hst.pat (k := 0) rfl) hy0) ?_)
  rintro e w25 ⟨rfl, hb⟩
  refine ⟨_, rfl, ?_⟩
  clear henv a; intro a henv
  replace hst := hst.call hb
  replace hst := (hst.addZ (show ZIn _ none 0 (qn 0) from zin_none _) ⟨nou_bk rfl, nou_bk rfl, nou_bk rfl, nou_bk rfl, nou_bk rfl, nou_bk rfl, trivial⟩).addZ (show ZIn _ none 0 (ql 0) from zin_none _) ⟨nou_bk rfl, nou_bk rfl, nou_bk rfl, nou_bk rfl, nou_bk rfl, nou_bk rfl, trivial⟩
  clear hb
  revert a
  refine mA rfl rfl ?_
  refine sA (v := .agg #[.bool (neg (qn 0)), .slice none (zl (qn 0)) 0, .bool (neg (ql 0)), .slice none (zl (ql 0)) 0]) rfl (fun _ henv => rn_extract henv rfl rfl) ?_
  refine sA (v := .int .i64 2) rfl (fun _ henv => rn_extract henv rfl rfl) ?_
  intro a henv
  refine seq_step rfl (op_alloc (c := #[.bool (neg (qn 0)), .slice none (zl (qn 0)) 0, .bool (neg (ql 0)), .slice none (zl (ql 0)) 0]) henv hst rfl zero_anvil_ratio_Rat qcells ?_)
  clear henv hst a; intro a w27 g26 henv hst
  refine seq_step rfl (op_store (k := 0) (c' := #[.bool (neg (qn 0)), .slice none (zl (qn 0)) 0, .bool (neg (ql 0)), .slice none (zl (ql 0)) 0]) henv hst (ty_anvil_ratio_Rat.size) rfl rfl rfl rfl (by simp) rfl rfl ?_)
  clear henv hst a; intro a w28 henv hst
  refine sv (v := .int .i64 2) henv rfl (rn_assign henv rfl) ?_
  clear henv a; intro a henv
  refine wpList_nil ?_
  refine th_n ?_
  refine wp_seq ?_
  refine region_seq ?_
  revert a
  refine sA (v := .agg #[.bool (neg (qn 0)), .slice none (zl (qn 0)) 0, .bool (neg (ql 0)), .slice none (zl (ql 0)) 0]) rfl (fun _ henv => rn_load0 henv ty_anvil_ratio_Rat rfl (hst.oat (k := 0) rfl) rfl) ?_
  refine sA (v := .pointer (some ⟨g11, 0, none⟩)) rfl (fun _ henv => rn_fieldAddr henv fd_anvil_api_Spot_0 (ty_anvil_api_Errno.size) (by decide) rfl) ?_
  refine sA (v := .int .i64 ps) rfl (fun _ henv => rn_load1 henv ty_anvil_api_Errno rfl (hst.oat (k := 3) rfl) rfl) ?_
  refine sA (v := .bool (ps == (0 : Int))) rfl (fun _ henv => rn_bin henv rfl rfl rfl) ?_
  intro a henv
  rw [show (ps == (0 : Int)) = false from (beq_eq_false_iff_ne.2 u1)] at henv
  revert a
  refine mA rfl rfl ?_
  refine kA rfl rfl rfl rfl rfl ?_
  refine kA rfl rfl rfl rfl rfl ?_
  refine kA rfl rfl rfl rfl rfl ?_
  refine sA (v := .bool false) rfl (fun _ henv => rn_pick henv rfl rfl) ?_
  refine mA rfl rfl ?_
  refine kA rfl rfl rfl rfl rfl ?_
  refine kA rfl rfl rfl rfl rfl ?_
  refine sA (v := .bool false) rfl (fun _ henv => rn_pick henv rfl rfl) ?_
  intro a henv
  refine seq_step rfl (op_store (k := 5) (c' := #[.bool (neg (qn 0)), .slice none (zl (qn 0)) 0, .bool (neg (ql 0)), .slice none (zl (ql 0)) 0]) henv hst (ty_anvil_ratio_Rat.size) rfl rfl rfl rfl (by simp) rfl rfl ?_)
  clear henv hst a; intro a w29 henv hst
  refine sv (v := .bool false) henv rfl (rn_assign henv rfl) ?_
  clear henv a; intro a henv
  refine wpList_nil ?_
  refine th_n ?_
  refine wp_ret ?_
  refine leave henv (res2 Tryd.results87 (RV.cell henv ty_anvil_ratio_Rat rfl (hst.oat (k := 5) rfl) rfl) (RV.tmp henv rfl)) ?_
  exact ⟨_, rfl, q_at rfl rfl (hst.pat (k := 1) rfl) (hst.pat (k := 0) rfl), hst.below⟩
set_option maxRecDepth 100000 in
set_option maxHeartbeats 2000000 in
theorem alone_a0 {s t : List UInt8} {z y ps qs pt qt : Int} {w0 : World} (hs : IRd s z ps qs) (ht : IRd t y pt qt) (bz : zl z ≤ 65537) (by_ : zl y ≤ 65537) (u1 : ps ≠ 0) (hy0 : y ≠ 0) :
    Calls Tryd.prog 87 #[.agg #[.string ⟨s.toArray⟩, .string ⟨t.toArray⟩]] w0 fun e w' => ∃ v, e = .returned (.tuple #[v, .bool false]) ∧ QAt w' v (Rat.divInt z y) ∧ Below w0.heap.size w0 w' := by
  refine enter Tryd.func87 rfl Tryd.ntmps87 rfl ?_
  intro a henv hst
  refine wp_seq ?_
  refine region_seq ?_
  refine seq_step rfl (op_box (c := #[.string ⟨s.toArray⟩, .string ⟨t.toArray⟩]) henv hst rfl rfl rfl ?_)
  clear henv hst a; intro a w2 g1 henv hst
  refine seq_step rfl (op_alloc (c := #[.bool (neg (qn 0)), .slice none (zl (qn 0)) 0, .bool (neg (ql 0)), .slice none (zl (ql 0)) 0]) henv hst rfl zero_anvil_ratio_Rat qcells ?_)
  clear henv hst a; intro a w4 g3 henv hst
  refine sv (v := .bool false) henv rfl (rn_assign henv rfl) ?_
  clear henv a; intro a henv
  refine wpList_nil ?_
  refine th_n ?_
  refine wp_seq ?_
  refine region_seq ?_
  revert a
  refine sA (v := .pointer (some ⟨g1, 0, none⟩)) rfl (fun _ henv => rn_fieldAddr henv fd_anvil_anvillaw03_Frac_0 (ty_string.size) (by decide) rfl) ?_
  refine sA (v := .string ⟨s.toArray⟩) rfl (fun _ henv => rn_load1 henv ty_string rfl (hst.oat (k := 1) rfl) rfl) ?_
  intro a henv
  refine seq_step rfl (op_call henv rfl Tryd.call113 rfl (hs _) ?_)
  rintro e w8 ⟨_, rfl, ⟨A5, c6, rfl, hz7⟩, hb⟩
  refine ⟨_, rfl, ?_⟩
  clear henv a; intro a henv
  replace hst := (hst.call hb).addZ hz7 ⟨nou_bk rfl, nou_bk rfl, trivial⟩
  clear hz7
  clear hb
  revert a
  refine mA rfl rfl ?_
  refine sA (v := .agg #[.bool (neg z), .slice A5 (zl z) c6]) rfl (fun _ henv => rn_extract henv rfl rfl) ?_
  refine sA (v := .agg #[.int .i64 ps, .int .i64 qs]) rfl (fun _ henv => rn_extract henv rfl rfl) ?_
  intro a henv
  refine seq_step rfl (op_alloc (c := #[.bool (neg 0), .slice none (zl 0) 0]) henv hst rfl zero_anvil_integer_Int zcells ?_)
  clear henv hst a; intro a w10 g9 henv hst
  refine seq_step rfl (op_alloc (c := #[.int .i64 0, .int .i64 0]) henv hst rfl zero_anvil_api_Spot rfl ?_)
  clear henv hst a; intro a w12 g11 henv hst
  refine seq_step rfl (op_store (k := 1) (c' := #[.bool (neg z), .slice A5 (zl z) c6]) henv hst (ty_anvil_integer_Int.size) rfl rfl rfl rfl (by simp) rfl rfl ?_)
  clear henv hst a; intro a w13 henv hst
  refine seq_step rfl (op_store (k := 0) (c' := #[.int .i64 ps, .int .i64 qs]) henv hst (ty_anvil_api_Spot.size) rfl rfl rfl rfl (by simp) rfl rfl ?_)
  clear henv hst a; intro a w14 henv hst
  refine wpList_nil ?_
  refine th_n ?_
  refine wp_seq ?_
  refine region_seq ?_
  revert a
  refine sA (v := .pointer (some ⟨g1, 1, none⟩)) rfl (fun _ henv => rn_fieldAddr henv fd_anvil_anvillaw03_Frac_1 (ty_string.size) (by decide) rfl) ?_
  refine sA (v := .string ⟨t.toArray⟩) rfl (fun _ henv => rn_load1 henv ty_string rfl (hst.oat (k := 3) rfl) rfl) ?_
  intro a henv
  refine seq_step rfl (op_call henv rfl Tryd.call113 rfl (ht _) ?_)
  rintro e w18 ⟨_, rfl, ⟨A15, c16, rfl, hz17⟩, hb⟩
  refine ⟨_, rfl, ?_⟩
  clear henv a; intro a henv
  replace hst := (hst.call hb).addZ hz17 ⟨nou_bk rfl, nou_bk rfl, nou_bk rfl, nou_bk rfl, trivial⟩
  clear hz17
  clear hb
  revert a
  refine mA rfl rfl ?_
  refine sA (v := .agg #[.bool (neg y), .slice A15 (zl y) c16]) rfl (fun _ henv => rn_extract henv rfl rfl) ?_
  refine sA (v := .agg #[.int .i64 pt, .int .i64 qt]) rfl (fun _ henv => rn_extract henv rfl rfl) ?_
  intro a henv
  refine seq_step rfl (op_alloc (c := #[.bool (neg 0), .slice none (zl 0) 0]) henv hst rfl zero_anvil_integer_Int zcells ?_)
  clear henv hst a; intro a w20 g19 henv hst
  refine seq_step rfl (op_alloc (c := #[.int .i64 0, .int .i64 0]) henv hst rfl zero_anvil_api_Spot rfl ?_)
  clear henv hst a; intro a w22 g21 henv hst
  refine seq_step rfl (op_store (k := 1) (c' := #[.bool (neg y), .slice A15 (zl y) c16]) henv hst (ty_anvil_integer_Int.size) rfl rfl rfl rfl (by simp) rfl rfl ?_)
  clear henv hst a; intro a w23 henv hst
  refine seq_step rfl (op_store (k := 0) (c' := #[.int .i64 pt, .int .i64 qt]) henv hst (ty_anvil_api_Spot.size) rfl rfl rfl rfl (by simp) rfl rfl ?_)
  clear henv hst a; intro a w24 henv hst
  refine wpList_nil ?_
  refine th_n ?_
  refine wp_seq ?_
  refine region_seq ?_
  revert a
  refine sA (v := .agg #[.bool (neg z), .slice A5 (zl z) c6]) rfl (fun _ henv => rn_load0 henv ty_anvil_integer_Int rfl (hst.oat (k := 3) rfl) rfl) ?_
  refine sA (v := .agg #[.bool (neg y), .slice A15 (zl y) c16]) rfl (fun _ henv => rn_load0 henv ty_anvil_integer_Int rfl (hst.oat (k := 1) rfl) rfl) ?_
  intro a henv
  refine seq_step rfl (op_call henv rfl Tryd.call90 rfl (make_qr (p := z) (q := y) (r := Rat.divInt z y) (show ZIn _ A5 c6 z from hst.pat (k := 1) rfl) (show ZIn _ A15 c16 y from hst.pat (k := 0) rfl) (by omega) (by omega) hy0 rfl) ?_)
  rintro e w31 ⟨_, rfl, ⟨A25, c26, B27, d28, rfl, hz29, hz30⟩, hb⟩
  refine ⟨_, rfl, ?_⟩
  clear henv a; intro a henv
  replace hst := ((hst.call hb).addZ hz29 ⟨nou_bk rfl, nou_bk rfl, nou_bk rfl, nou_bk rfl, nou_bk rfl, nou_bk rfl, trivial⟩).addZ hz30 ⟨nou_bk rfl, nou_bk rfl, nou_bk rfl, nou_bk rfl, nou_bk rfl, nou_bk rfl, trivial⟩
  clear hz29 hz30
  clear hb
  revert a
  refine mA rfl rfl ?_
  refine sA (v := .agg #[.bool (neg (qn (Rat.divInt z y))), .slice A25 (zl (qn (Rat.divInt z y))) c26, .bool (neg (ql (Rat.divInt z y))), .slice B27 (zl (ql (Rat.divInt z y))) d28]) rfl (fun _ henv => rn_extract henv rfl rfl) ?_
  refine sA (v := .int .i64 0) rfl (fun _ henv => rn_extract henv rfl rfl) ?_
  intro a henv
  refine seq_step rfl (op_alloc (c := #[.bool (neg (qn 0)), .slice none (zl (qn 0)) 0, .bool (neg (ql 0)), .slice none (zl (ql 0)) 0]) henv hst rfl zero_anvil_ratio_Rat qcells ?_)
  clear henv hst a; intro a w33 g32 henv hst
  refine seq_step rfl (op_store (k := 0) (c' := #[.bool (neg (qn (Rat.divInt z y))), .slice A25 (zl (qn (Rat.divInt z y))) c26, .bool (neg (ql (Rat.divInt z y))), .slice B27 (zl (ql (Rat.divInt z y))) d28]) henv hst (ty_anvil_ratio_Rat.size) rfl rfl rfl rfl (by simp) rfl rfl ?_)
  clear henv hst a; intro a w34 henv hst
  refine sv (v := .int .i64 0) henv rfl (rn_assign henv rfl) ?_
  clear henv a; intro a henv
  refine wpList_nil ?_
  refine th_n ?_
  refine wp_seq ?_
  refine region_seq ?_
  revert a
  refine sA (v := .agg #[.bool (neg (qn (Rat.divInt z y))), .slice A25 (zl (qn (Rat.divInt z y))) c26, .bool (neg (ql (Rat.divInt z y))), .slice B27 (zl (ql (Rat.divInt z y))) d28]) rfl (fun _ henv => rn_load0 henv ty_anvil_ratio_Rat rfl (hst.oat (k := 0) rfl) rfl) ?_
  refine sA (v := .pointer (some ⟨g11, 0, none⟩)) rfl (fun _ henv => rn_fieldAddr henv fd_anvil_api_Spot_0 (ty_anvil_api_Errno.size) (by decide) rfl) ?_
  refine sA (v := .int .i64 ps) rfl (fun _ henv => rn_load1 henv ty_anvil_api_Errno rfl (hst.oat (k := 3) rfl) rfl) ?_
  refine sA (v := .bool (ps == (0 : Int))) rfl (fun _ henv => rn_bin henv rfl rfl rfl) ?_
  intro a henv
  rw [show (ps == (0 : Int)) = false from (beq_eq_false_iff_ne.2 u1)] at henv
  revert a
  refine mA rfl rfl ?_
  refine kA rfl rfl rfl rfl rfl ?_
  refine kA rfl rfl rfl rfl rfl ?_
  refine kA rfl rfl rfl rfl rfl ?_
  refine sA (v := .bool false) rfl (fun _ henv => rn_pick henv rfl rfl) ?_
  refine mA rfl rfl ?_
  refine kA rfl rfl rfl rfl rfl ?_
  refine kA rfl rfl rfl rfl rfl ?_
  refine sA (v := .bool false) rfl (fun _ henv => rn_pick henv rfl rfl) ?_
  intro a henv
  refine seq_step rfl (op_store (k := 5) (c' := #[.bool (neg (qn (Rat.divInt z y))), .slice A25 (zl (qn (Rat.divInt z y))) c26, .bool (neg (ql (Rat.divInt z y))), .slice B27 (zl (ql (Rat.divInt z y))) d28]) henv hst (ty_anvil_ratio_Rat.size) rfl rfl rfl rfl (by simp) rfl rfl ?_)
  clear henv hst a; intro a w35 henv hst
  refine sv (v := .bool false) henv rfl (rn_assign henv rfl) ?_
  clear henv a; intro a henv
  refine wpList_nil ?_
  refine th_n ?_
  refine wp_ret ?_
  refine leave henv (res2 Tryd.results87 (RV.cell henv ty_anvil_ratio_Rat rfl (hst.oat (k := 5) rfl) rfl) (RV.tmp henv rfl)) ?_
  exact ⟨_, rfl, q_at rfl rfl (hst.pat (k := 1) rfl) (hst.pat (k := 0) rfl), hst.below⟩
set_option maxRecDepth 100000 in
set_option maxHeartbeats 2000000 in
theorem alone_b1 {s t : List UInt8} {z y ps qs pt qt : Int} {w0 : World} (hs : IRd s z ps qs) (ht : IRd t y pt qt) (_bz : zl z ≤ 65537) (_by : zl y ≤ 65537) (u1 : ps = 0) (u2 : pt ≠ 0) (hy0 : y = 0) :
    Calls Tryd.prog 87 #[.agg #[.string ⟨s.toArray⟩, .string ⟨t.toArray⟩]] w0 fun e w' => ∃ v, e = .returned (.tuple #[v, .bool false]) ∧ QAt w' v (0) ∧ Below w0.heap.size w0 w' := by
  refine enter Tryd.func87 rfl Tryd.ntmps87 rfl ?_
  intro a henv hst
  refine wp_seq ?_
  refine region_seq ?_
  refine seq_step rfl (op_box (c := #[.string ⟨s.toArray⟩, .string ⟨t.toArray⟩]) henv hst rfl rfl rfl ?_)
  clear henv hst a; intro a w2 g1 henv hst
  refine seq_step rfl (op_alloc (c := #[.bool (neg (qn 0)), .slice none (zl (qn 0)) 0, .bool (neg (ql 0)), .slice none (zl (ql 0)) 0]) henv hst rfl zero_anvil_ratio_Rat qcells ?_)
  clear henv hst a; intro a w4 g3 henv hst
  refine sv (v := .bool false) henv rfl (rn_assign henv rfl) ?_
  clear henv a; intro a henv
  refine wpList_nil ?_
  refine th_n ?_
  refine wp_seq ?_
  refine region_seq ?_
  revert a
  refine sA (v := .pointer (some ⟨g1, 0, none⟩)) rfl (fun _ henv => rn_fieldAddr henv fd_anvil_anvillaw03_Frac_0 (ty_string.size) (by decide) rfl) ?_
  refine sA (v := .string ⟨s.toArray⟩) rfl (fun _ henv => rn_load1 henv ty_string rfl (hst.oat (k := 1) rfl) rfl) ?_
  intro a henv
  refine seq_step rfl (op_call henv rfl Tryd.call113 rfl (hs _) ?_)
  rintro e w8 ⟨_, rfl, ⟨A5, c6, rfl, hz7⟩, hb⟩
  refine ⟨_, rfl, ?_⟩
  clear henv a; intro a henv
  replace hst := (hst.call hb).addZ hz7 ⟨nou_bk rfl, nou_bk rfl, trivial⟩
  clear hz7
  clear hb
  revert a
  refine mA rfl rfl ?_
  refine sA (v := .agg #[.bool (neg z), .slice A5 (zl z) c6]) rfl (fun _ henv => rn_extract henv rfl rfl) ?_
  refine sA (v := .agg #[.int .i64 ps, .int .i64 qs]) rfl (fun _ henv => rn_extract henv rfl rfl) ?_
  intro a henv
  refine seq_step rfl (op_alloc (c := #[.bool (neg 0), .slice none (zl 0) 0]) henv hst rfl zero_anvil_integer_Int zcells ?_)
  clear henv hst a; intro a w10 g9 henv hst
  refine seq_step rfl (op_alloc (c := #[.int .i64 0, .int .i64 0]) henv hst rfl zero_anvil_api_Spot rfl ?_)
  clear henv hst a; intro a w12 g11 henv hst
  refine seq_step rfl (op_store (k := 1) (c' := #[.bool (neg z), .slice A5 (zl z) c6]) henv hst (ty_anvil_integer_Int.size) rfl rfl rfl rfl (by simp) rfl rfl ?_)
  clear henv hst a; intro a w13 henv hst
  refine seq_step rfl (op_store (k := 0) (c' := #[.int .i64 ps, .int .i64 qs]) henv hst (ty_anvil_api_Spot.size) rfl rfl rfl rfl (by simp) rfl rfl ?_)
  clear henv hst a; intro a w14 henv hst
  refine wpList_nil ?_
  refine th_n ?_
  refine wp_seq ?_
  refine region_seq ?_
  revert a
  refine sA (v := .pointer (some ⟨g1, 1, none⟩)) rfl (fun _ henv => rn_fieldAddr henv fd_anvil_anvillaw03_Frac_1 (ty_string.size) (by decide) rfl) ?_
  refine sA (v := .string ⟨t.toArray⟩) rfl (fun _ henv => rn_load1 henv ty_string rfl (hst.oat (k := 3) rfl) rfl) ?_
  intro a henv
  refine seq_step rfl (op_call henv rfl Tryd.call113 rfl (ht _) ?_)
  rintro e w18 ⟨_, rfl, ⟨A15, c16, rfl, hz17⟩, hb⟩
  refine ⟨_, rfl, ?_⟩
  clear henv a; intro a henv
  replace hst := (hst.call hb).addZ hz17 ⟨nou_bk rfl, nou_bk rfl, nou_bk rfl, nou_bk rfl, trivial⟩
  clear hz17
  clear hb
  revert a
  refine mA rfl rfl ?_
  refine sA (v := .agg #[.bool (neg y), .slice A15 (zl y) c16]) rfl (fun _ henv => rn_extract henv rfl rfl) ?_
  refine sA (v := .agg #[.int .i64 pt, .int .i64 qt]) rfl (fun _ henv => rn_extract henv rfl rfl) ?_
  intro a henv
  refine seq_step rfl (op_alloc (c := #[.bool (neg 0), .slice none (zl 0) 0]) henv hst rfl zero_anvil_integer_Int zcells ?_)
  clear henv hst a; intro a w20 g19 henv hst
  refine seq_step rfl (op_alloc (c := #[.int .i64 0, .int .i64 0]) henv hst rfl zero_anvil_api_Spot rfl ?_)
  clear henv hst a; intro a w22 g21 henv hst
  refine seq_step rfl (op_store (k := 1) (c' := #[.bool (neg y), .slice A15 (zl y) c16]) henv hst (ty_anvil_integer_Int.size) rfl rfl rfl rfl (by simp) rfl rfl ?_)
  clear henv hst a; intro a w23 henv hst
  refine seq_step rfl (op_store (k := 0) (c' := #[.int .i64 pt, .int .i64 qt]) henv hst (ty_anvil_api_Spot.size) rfl rfl rfl rfl (by simp) rfl rfl ?_)
  clear henv hst a; intro a w24 henv hst
  refine wpList_nil ?_
  refine th_n ?_
  refine wp_seq ?_
  refine region_seq ?_
  revert a
  refine sA (v := .agg #[.bool (neg z), .slice A5 (zl z) c6]) rfl (fun _ henv => rn_load0 henv ty_anvil_integer_Int rfl (hst.oat (k := 3) rfl) rfl) ?_
  refine sA (v := .agg #[.bool (neg y), .slice A15 (zl y) c16]) rfl (fun _ henv => rn_load0 henv ty_anvil_integer_Int rfl (hst.oat (k := 1) rfl) rfl) ?_
  intro a henv
  refine seq_step rfl (op_call henv rfl Tryd.call90 rfl (make_z0 (p := z) (q := y) (show ZIn _ A5 c6 z from hst.pat (k := 1) rfl) (show ZIn _ A15 c16 y from hst.pat (k := 0) rfl) hy0) ?_)
  rintro e w25 ⟨rfl, hb⟩
  refine ⟨_, rfl, ?_⟩
  clear henv a; intro a henv
  replace hst := hst.call hb
  replace hst := (hst.addZ (show ZIn _ none 0 (qn 0) from zin_none _) ⟨nou_bk rfl, nou_bk rfl, nou_bk rfl, nou_bk rfl, nou_bk rfl, nou_bk rfl, trivial⟩).addZ (show ZIn _ none 0 (ql 0) from zin_none _) ⟨nou_bk rfl, nou_bk rfl, nou_bk rfl, nou_bk rfl, nou_bk rfl, nou_bk rfl, trivial⟩
  clear hb
  revert a
  refine mA rfl rfl ?_
  refine sA (v := .agg #[.bool (neg (qn 0)), .slice none (zl (qn 0)) 0, .bool (neg (ql 0)), .slice none (zl (ql 0)) 0]) rfl (fun _ henv => rn_extract henv rfl rfl) ?_
  refine sA (v := .int .i64 2) rfl (fun _ henv => rn_extract henv rfl rfl) ?_
  intro a henv
  refine seq_step rfl (op_alloc (c := #[.bool (neg (qn 0)), .slice none (zl (qn 0)) 0, .bool (neg (ql 0)), .slice none (zl (ql 0)) 0]) henv hst rfl zero_anvil_ratio_Rat qcells ?_)
  clear henv hst a; intro a w27 g26 henv hst
  refine seq_step rfl (op_store (k := 0) (c' := #[.bool (neg (qn 0)), .slice none (zl (qn 0)) 0, .bool (neg (ql 0)), .slice none (zl (ql 0)) 0]) henv hst (ty_anvil_ratio_Rat.size) rfl rfl rfl rfl (by simp) rfl rfl ?_)
  clear henv hst a; intro a w28 henv hst
  refine sv (v := .int .i64 2) henv rfl (rn_assign henv rfl) ?_
  clear henv a; intro a henv
  refine wpList_nil ?_
  refine th_n ?_
  refine wp_seq ?_
  refine region_seq ?_
  revert a
  refine sA (v := .agg #[.bool (neg (qn 0)), .slice none (zl (qn 0)) 0, .bool (neg (ql 0)), .slice none (zl (ql 0)) 0]) rfl (fun _ henv => rn_load0 henv ty_anvil_ratio_Rat rfl (hst.oat (k := 0) rfl) rfl) ?_
  refine sA (v := .pointer (some ⟨g11, 0, none⟩)) rfl (fun _ henv => rn_fieldAddr henv fd_anvil_api_Spot_0 (ty_anvil_api_Errno.size) (by decide) rfl) ?_
  refine sA (v := .int .i64 ps) rfl (fun _ henv => rn_load1 henv ty_anvil_api_Errno rfl (hst.oat (k := 3) rfl) rfl) ?_
  refine sA (v := .bool (ps == (0 : Int))) rfl (fun _ henv => rn_bin henv rfl rfl rfl) ?_
  intro a henv
  rw [show (ps == (0 : Int)) = true from (beq_iff_eq.2 u1)] at henv
  revert a
  refine mA rfl rfl ?_
  refine gA (v := .pointer (some ⟨g21, 0, none⟩)) rfl rfl rfl rfl (fun _ henv => rn_fieldAddr henv fd_anvil_api_Spot_0 (ty_anvil_api_Errno.size) (by decide) rfl) ?_
  refine gA (v := .int .i64 pt) rfl rfl rfl rfl (fun _ henv => rn_load1 henv ty_anvil_api_Errno rfl (hst.oat (k := 1) rfl) rfl) ?_
  refine gA (v := .bool (pt == (0 : Int))) rfl rfl rfl rfl (fun _ henv => rn_bin henv rfl rfl rfl) ?_
  intro a henv
  rw [show (pt == (0 : Int)) = false from (beq_eq_false_iff_ne.2 u2)] at henv
  revert a
  refine sA (v := .bool false) rfl (fun _ henv => rn_pick henv rfl rfl) ?_
  refine mA rfl rfl ?_
  refine kA rfl rfl rfl rfl rfl ?_
  refine kA rfl rfl rfl rfl rfl ?_
  refine sA (v := .bool false) rfl (fun _ henv => rn_pick henv rfl rfl) ?_
  intro a henv
  refine seq_step rfl (op_store (k := 5) (c' := #[.bool (neg (qn 0)), .slice none (zl (qn 0)) 0, .bool (neg (ql 0)), .slice none (zl (ql 0)) 0]) henv hst (ty_anvil_ratio_Rat.size) rfl rfl rfl rfl (by simp) rfl rfl ?_)
  clear henv hst a; intro a w29 henv hst
  refine sv (v := .bool false) henv rfl (rn_assign henv rfl) ?_
  clear henv a; intro a henv
  refine wpList_nil ?_
  refine th_n ?_
  refine wp_ret ?_
  refine leave henv (res2 Tryd.results87 (RV.cell henv ty_anvil_ratio_Rat rfl (hst.oat (k := 5) rfl) rfl) (RV.tmp henv rfl)) ?_
  exact ⟨_, rfl, q_at rfl rfl (hst.pat (k := 1) rfl) (hst.pat (k := 0) rfl), hst.below⟩
set_option maxRecDepth 100000 in
set_option maxHeartbeats 2000000 in
theorem alone_b0 {s t : List UInt8} {z y ps qs pt qt : Int} {w0 : World} (hs : IRd s z ps qs) (ht : IRd t y pt qt) (bz : zl z ≤ 65537) (by_ : zl y ≤ 65537) (u1 : ps = 0) (u2 : pt ≠ 0) (hy0 : y ≠ 0) :
    Calls Tryd.prog 87 #[.agg #[.string ⟨s.toArray⟩, .string ⟨t.toArray⟩]] w0 fun e w' => ∃ v, e = .returned (.tuple #[v, .bool false]) ∧ QAt w' v (Rat.divInt z y) ∧ Below w0.heap.size w0 w' := by
  refine enter Tryd.func87 rfl Tryd.ntmps87 rfl ?_
  intro a henv hst
  refine wp_seq ?_
  refine region_seq ?_
  refine seq_step rfl (op_box (c := #[.string ⟨s.toArray⟩, .string ⟨t.toArray⟩]) henv hst rfl rfl rfl ?_)
  clear henv hst a; intro a w2 g1 henv hst
  refine seq_step rfl (op_alloc (c := #[.bool (neg (qn 0)), .slice none (zl (qn 0)) 0, .bool (neg (ql 0)), .slice none (zl (ql 0)) 0]) henv hst rfl zero_anvil_ratio_Rat qcells ?_)
  clear henv hst a; intro a w4 g3 henv hst
  refine sv (v := .bool false) henv rfl (rn_assign henv rfl) ?_
  clear henv a; intro a henv
  refine wpList_nil ?_
  refine th_n ?_
  refine wp_seq ?_
  refine region_seq ?_
  revert a
  refine sA (v := .pointer (some ⟨g1, 0, none⟩)) rfl (fun _ henv => rn_fieldAddr henv fd_anvil_anvillaw03_Frac_0 (ty_string.size) (by decide) rfl) ?_
  refine sA (v := .string ⟨s.toArray⟩) rfl (fun _ henv => rn_load1 henv ty_string rfl (hst.oat (k := 1) rfl) rfl) ?_
  intro a henv
  refine seq_step rfl (op_call henv rfl Tryd.call113 rfl (hs _) ?_)
  rintro e w8 ⟨_, rfl, ⟨A5, c6, rfl, hz7⟩, hb⟩
  refine ⟨_, rfl, ?_⟩
  clear henv a; intro a henv
  replace hst := (hst.call hb).addZ hz7 ⟨nou_bk rfl, nou_bk rfl, trivial⟩
  clear hz7
  clear hb
  revert a
  refine mA rfl rfl ?_
  refine sA (v := .agg #[.bool (neg z), .slice A5 (zl z) c6]) rfl (fun _ henv => rn_extract henv rfl rfl) ?_
  refine sA (v := .agg #[.int .i64 ps, .int .i64 qs]) rfl (fun _ henv => rn_extract henv rfl rfl) ?_
  intro a henv
  refine seq_step rfl (op_alloc (c := #[.bool (neg 0), .slice none (zl 0) 0]) henv hst rfl zero_anvil_integer_Int zcells ?_)
  clear henv hst a; intro a w10 g9 henv hst
  refine seq_step rfl (op_alloc (c := #[.int .i64 0, .int .i64 0]) henv hst rfl zero_anvil_api_Spot rfl ?_)
  clear henv hst a; intro a w12 g11 henv hst
  refine seq_step rfl (op_store (k := 1) (c' := #[.bool (neg z), .slice A5 (zl z) c6]) henv hst (ty_anvil_integer_Int.size) rfl rfl rfl rfl (by simp) rfl rfl ?_)
  clear henv hst a; intro a w13 henv hst
  refine seq_step rfl (op_store (k := 0) (c' := #[.int .i64 ps, .int .i64 qs]) henv hst (ty_anvil_api_Spot.size) rfl rfl rfl rfl (by simp) rfl rfl ?_)
  clear henv hst a; intro a w14 henv hst
  refine wpList_nil ?_
  refine th_n ?_
  refine wp_seq ?_
  refine region_seq ?_
  revert a
  refine sA (v := .pointer (some ⟨g1, 1, none⟩)) rfl (fun _ henv => rn_fieldAddr henv fd_anvil_anvillaw03_Frac_1 (ty_string.size) (by decide) rfl) ?_
  refine sA (v := .string ⟨t.toArray⟩) rfl (fun _ henv => rn_load1 henv ty_string rfl (hst.oat (k := 3) rfl) rfl) ?_
  intro a henv
  refine seq_step rfl (op_call henv rfl Tryd.call113 rfl (ht _) ?_)
  rintro e w18 ⟨_, rfl, ⟨A15, c16, rfl, hz17⟩, hb⟩
  refine ⟨_, rfl, ?_⟩
  clear henv a; intro a henv
  replace hst := (hst.call hb).addZ hz17 ⟨nou_bk rfl, nou_bk rfl, nou_bk rfl, nou_bk rfl, trivial⟩
  clear hz17
  clear hb
  revert a
  refine mA rfl rfl ?_
  refine sA (v := .agg #[.bool (neg y), .slice A15 (zl y) c16]) rfl (fun _ henv => rn_extract henv rfl rfl) ?_
  refine sA (v := .agg #[.int .i64 pt, .int .i64 qt]) rfl (fun _ henv => rn_extract henv rfl rfl) ?_
  intro a henv
  refine seq_step rfl (op_alloc (c := #[.bool (neg 0), .slice none (zl 0) 0]) henv hst rfl zero_anvil_integer_Int zcells ?_)
  clear henv hst a; intro a w20 g19 henv hst
  refine seq_step rfl (op_alloc (c := #[.int .i64 0, .int .i64 0]) henv hst rfl zero_anvil_api_Spot rfl ?_)
  clear henv hst a; intro a w22 g21 henv hst
  refine seq_step rfl (op_store (k := 1) (c' := #[.bool (neg y), .slice A15 (zl y) c16]) henv hst (ty_anvil_integer_Int.size) rfl rfl rfl rfl (by simp) rfl rfl ?_)
  clear henv hst a; intro a w23 henv hst
  refine seq_step rfl (op_store (k := 0) (c' := #[.int .i64 pt, .int .i64 qt]) henv hst (ty_anvil_api_Spot.size) rfl rfl rfl rfl (by simp) rfl rfl ?_)
  clear henv hst a; intro a w24 henv hst
  refine wpList_nil ?_
  refine th_n ?_
  refine wp_seq ?_
  refine region_seq ?_
  revert a
  refine sA (v := .agg #[.bool (neg z), .slice A5 (zl z) c6]) rfl (fun _ henv => rn_load0 henv ty_anvil_integer_Int rfl (hst.oat (k := 3) rfl) rfl) ?_
  refine sA (v := .agg #[.bool (neg y), .slice A15 (zl y) c16]) rfl (fun _ henv => rn_load0 henv ty_anvil_integer_Int rfl (hst.oat (k := 1) rfl) rfl) ?_
  intro a henv
  refine seq_step rfl (op_call henv rfl Tryd.call90 rfl (make_qr (p := z) (q := y) (r := Rat.divInt z y) (show ZIn _ A5 c6 z from hst.pat (k := 1) rfl) (show ZIn _ A15 c16 y from hst.pat (k := 0) rfl) (by omega) (by omega) hy0 rfl) ?_)
  rintro e w31 ⟨_, rfl, ⟨A25, c26, B27, d28, rfl, hz29, hz30⟩, hb⟩
  refine ⟨_, rfl, ?_⟩
  clear henv a; intro a henv
  replace hst := ((hst.call hb).addZ hz29 ⟨nou_bk rfl, nou_bk rfl, nou_bk rfl, nou_bk rfl, nou_bk rfl, nou_bk rfl, trivial⟩).addZ hz30 ⟨nou_bk rfl, nou_bk rfl, nou_bk rfl, nou_bk rfl, nou_bk rfl, nou_bk rfl, trivial⟩
  clear hz29 hz30
  clear hb
  revert a
  refine mA rfl rfl ?_
  refine sA (v := .agg #[.bool (neg (qn (Rat.divInt z y))), .slice A25 (zl (qn (Rat.divInt z y))) c26, .bool (neg (ql (Rat.divInt z y))), .slice B27 (zl (ql (Rat.divInt z y))) d28]) rfl (fun _ henv => rn_extract henv rfl rfl) ?_
  refine sA (v := .int .i64 0) rfl (fun _ henv => rn_extract henv rfl rfl) ?_
  intro a henv
  refine seq_step rfl (op_alloc (c := #[.bool (neg (qn 0)), .slice none (zl (qn 0)) 0, .bool (neg (ql 0)), .slice none (zl (ql 0)) 0]) henv hst rfl zero_anvil_ratio_Rat qcells ?_)
  clear henv hst a; intro a w33 g32 henv hst
  refine seq_step rfl (op_store (k := 0) (c' := #[.bool (neg (qn (Rat.divInt z y))), .slice A25 (zl (qn (Rat.divInt z y))) c26, .bool (neg (ql (Rat.divInt z y))), .slice B27 (zl (ql (Rat.divInt z y))) d28]) henv hst (ty_anvil_ratio_Rat.size) rfl rfl rfl rfl (by simp) rfl rfl ?_)
  clear henv hst a; intro a w34 henv hst
  refine sv (v := .int .i64 0) henv rfl (rn_assign henv rfl) ?_
  clear henv a; intro a henv
  refine wpList_nil ?_
  refine th_n ?_
  refine wp_seq ?_
  refine region_seq ?_
  revert a
  refine sA (v := .agg #[.bool (neg (qn (Rat.divInt z y))), .slice A25 (zl (qn (Rat.divInt z y))) c26, .bool (neg (ql (Rat.divInt z y))), .slice B27 (zl (ql (Rat.divInt z y))) d28]) rfl (fun _ henv => rn_load0 henv ty_anvil_ratio_Rat rfl (hst.oat (k := 0) rfl) rfl) ?_
  refine sA (v := .pointer (some ⟨g11, 0, none⟩)) rfl (fun _ henv => rn_fieldAddr henv fd_anvil_api_Spot_0 (ty_anvil_api_Errno.size) (by decide) rfl) ?_
  refine sA (v := .int .i64 ps) rfl (fun _ henv => rn_load1 henv ty_anvil_api_Errno rfl (hst.oat (k := 3) rfl) rfl) ?_
  refine sA (v := .bool (ps == (0 : Int))) rfl (fun _ henv => rn_bin henv rfl rfl rfl) ?_
  intro a henv
  rw [show (ps == (0 : Int)) = true from (beq_iff_eq.2 u1)] at henv
  revert a
  refine mA rfl rfl ?_
  refine gA (v := .pointer (some ⟨g21, 0, none⟩)) rfl rfl rfl rfl (fun _ henv => rn_fieldAddr henv fd_anvil_api_Spot_0 (ty_anvil_api_Errno.size) (by decide) rfl) ?_
  refine gA (v := .int .i64 pt) rfl rfl rfl rfl (fun _ henv => rn_load1 henv ty_anvil_api_Errno rfl (hst.oat (k := 1) rfl) rfl) ?_
  refine gA (v := .bool (pt == (0 : Int))) rfl rfl rfl rfl (fun _ henv => rn_bin henv rfl rfl rfl) ?_
  intro a henv
  rw [show (pt == (0 : Int)) = false from (beq_eq_false_iff_ne.2 u2)] at henv
  revert a
  refine sA (v := .bool false) rfl (fun _ henv => rn_pick henv rfl rfl) ?_
  refine mA rfl rfl ?_
  refine kA rfl rfl rfl rfl rfl ?_
  refine kA rfl rfl rfl rfl rfl ?_
  refine sA (v := .bool false) rfl (fun _ henv => rn_pick henv rfl rfl) ?_
  intro a henv
  refine seq_step rfl (op_store (k := 5) (c' := #[.bool (neg (qn (Rat.divInt z y))), .slice A25 (zl (qn (Rat.divInt z y))) c26, .bool (neg (ql (Rat.divInt z y))), .slice B27 (zl (ql (Rat.divInt z y))) d28]) henv hst (ty_anvil_ratio_Rat.size) rfl rfl rfl rfl (by simp) rfl rfl ?_)
  clear henv hst a; intro a w35 henv hst
  refine sv (v := .bool false) henv rfl (rn_assign henv rfl) ?_
  clear henv a; intro a henv
  refine wpList_nil ?_
  refine th_n ?_
  refine wp_ret ?_
  refine leave henv (res2 Tryd.results87 (RV.cell henv ty_anvil_ratio_Rat rfl (hst.oat (k := 5) rfl) rfl) (RV.tmp henv rfl)) ?_
  exact ⟨_, rfl, q_at rfl rfl (hst.pat (k := 1) rfl) (hst.pat (k := 0) rfl), hst.below⟩
set_option maxRecDepth 100000 in
set_option maxHeartbeats 2000000 in
theorem alone_z1 {s t : List UInt8} {z y ps qs pt qt : Int} {w0 : World} (hs : IRd s z ps qs) (ht : IRd t y pt qt) (_bz : zl z ≤ 65537) (_by : zl y ≤ 65537) (u1 : ps = 0) (u2 : pt = 0) (hy0 : y = 0) :
    Calls Tryd.prog 87 #[.agg #[.string ⟨s.toArray⟩, .string ⟨t.toArray⟩]] w0 fun e w' => ∃ v, e = .returned (.tuple #[v, .bool false]) ∧ QAt w' v (0) ∧ Below w0.heap.size w0 w' := by
  refine enter Tryd.func87 rfl Tryd.ntmps87 rfl ?_
  intro a henv hst
  refine wp_seq ?_
  refine region_seq ?_
  refine seq_step rfl (op_box (c := #[.string ⟨s.toArray⟩, .string ⟨t.toArray⟩]) henv hst rfl rfl rfl ?_)
  clear henv hst a; intro a w2 g1 henv hst
  refine seq_step rfl (op_alloc (c := #[.bool (neg (qn 0)), .slice none (zl (qn 0)) 0, .bool (neg (ql 0)), .slice none (zl (ql 0)) 0]) henv hst rfl zero_anvil_ratio_Rat qcells ?_)
  clear henv hst a; intro a w4 g3 henv hst
  refine sv (v := .bool false) henv rfl (rn_assign henv rfl) ?_
  clear henv a; intro a henv
  refine wpList_nil ?_
  refine th_n ?_
  refine wp_seq ?_
  refine region_seq ?_
  revert a
  refine sA (v := .pointer (some ⟨g1, 0, none⟩)) rfl (fun _ henv => rn_fieldAddr henv fd_anvil_anvillaw03_Frac_0 (ty_string.size) (by decide) rfl) ?_
  refine sA (v := .string ⟨s.toArray⟩) rfl (fun _ henv => rn_load1 henv ty_string rfl (hst.oat (k := 1) rfl) rfl) ?_
  intro a henv
  refine seq_step rfl (op_call henv rfl Tryd.call113 rfl (hs _) ?_)
  rintro e w8 ⟨_, rfl, ⟨A5, c6, rfl, hz7⟩, hb⟩
  refine ⟨_, rfl, ?_⟩
  clear henv a; intro a henv
  replace hst := (hst.call hb).addZ hz7 ⟨nou_bk rfl, nou_bk rfl, trivial⟩
  clear hz7
  clear hb
  revert a
  refine mA rfl rfl ?_
  refine sA (v := .agg #[.bool (neg z), .slice A5 (zl z) c6]) rfl (fun _ henv => rn_extract henv rfl rfl) ?_
  refine sA (v := .agg #[.int .i64 ps, .int .i64 qs]) rfl (fun _ henv => rn_extract henv rfl rfl) ?_
  intro a henv
  refine seq_step rfl (op_alloc (c := #[.bool (neg 0), .slice none (zl 0) 0]) henv hst rfl zero_anvil_integer_Int zcells ?_)
  clear henv hst a; intro a w10 g9 henv hst
  refine seq_step rfl (op_alloc (c := #[.int .i64 0, .int .i64 0]) henv hst rfl zero_anvil_api_Spot rfl ?_)
  clear henv hst a; intro a w12 g11 henv hst
  refine seq_step rfl (op_store (k := 1) (c' := #[.bool (neg z), .slice A5 (zl z) c6]) henv hst (ty_anvil_integer_Int.size) rfl rfl rfl rfl (by simp) rfl rfl ?_)
  clear henv hst a; intro a w13 henv hst
  refine seq_step rfl (op_store (k := 0) (c' := #[.int .i64 ps, .int .i64 qs]) henv hst (ty_anvil_api_Spot.size) rfl rfl rfl rfl (by simp) rfl rfl ?_)
  clear henv hst a; intro a w14 henv hst
  refine wpList_nil ?_
  refine th_n ?_
  refine wp_seq ?_
  refine region_seq ?_
  revert a
  refine sA (v := .pointer (some ⟨g1, 1, none⟩)) rfl (fun _ henv => rn_fieldAddr henv fd_anvil_anvillaw03_Frac_1 (ty_string.size) (by decide) rfl) ?_
  refine sA (v := .string ⟨t.toArray⟩) rfl (fun _ henv => rn_load1 henv ty_string rfl (hst.oat (k := 3) rfl) rfl) ?_
  intro a henv
  refine seq_step rfl (op_call henv rfl Tryd.call113 rfl (ht _) ?_)
  rintro e w18 ⟨_, rfl, ⟨A15, c16, rfl, hz17⟩, hb⟩
  refine ⟨_, rfl, ?_⟩
  clear henv a; intro a henv
  replace hst := (hst.call hb).addZ hz17 ⟨nou_bk rfl, nou_bk rfl, nou_bk rfl, nou_bk rfl, trivial⟩
  clear hz17
  clear hb
  revert a
  refine mA rfl rfl ?_
  refine sA (v := .agg #[.bool (neg y), .slice A15 (zl y) c16]) rfl (fun _ henv => rn_extract henv rfl rfl) ?_
  refine sA (v := .agg #[.int .i64 pt, .int .i64 qt]) rfl (fun _ henv => rn_extract henv rfl rfl) ?_
  intro a henv
  refine seq_step rfl (op_alloc (c := #[.bool (neg 0), .slice none (zl 0) 0]) henv hst rfl zero_anvil_integer_Int zcells ?_)
  clear henv hst a; intro a w20 g19 henv hst
  refine seq_step rfl (op_alloc (c := #[.int .i64 0, .int .i64 0]) henv hst rfl zero_anvil_api_Spot rfl ?_)
  clear henv hst a; intro a w22 g21 henv hst
  refine seq_step rfl (op_store (k := 1) (c' := #[.bool (neg y), .slice A15 (zl y) c16]) henv hst (ty_anvil_integer_Int.size) rfl rfl rfl rfl (by simp) rfl rfl ?_)
  clear henv hst a; intro a w23 henv hst
  refine seq_step rfl (op_store (k := 0) (c' := #[.int .i64 pt, .int .i64 qt]) henv hst (ty_anvil_api_Spot.size) rfl rfl rfl rfl (by simp) rfl rfl ?_)
  clear henv hst a; intro a w24 henv hst
  refine wpList_nil ?_
  refine th_n ?_
  refine wp_seq ?_
  refine region_seq ?_
  revert a
  refine sA (v := .agg #[.bool (neg z), .slice A5 (zl z) c6]) rfl (fun _ henv => rn_load0 henv ty_anvil_integer_Int rfl (hst.oat (k := 3) rfl) rfl) ?_
  refine sA (v := .agg #[.bool (neg y), .slice A15 (zl y) c16]) rfl (fun _ henv => rn_load0 henv ty_anvil_integer_Int rfl (hst.oat (k := 1) rfl) rfl) ?_
  intro a henv
  refine seq_step rfl (op_call henv rfl Tryd.call90 rfl (make_z0 (p := z) (q := y) (show ZIn _ A5 c6 z from hst.pat (k := 1) rfl) (show ZIn _ A15 c16 y from hst.pat (k := 0) rfl) hy0) ?_)
  rintro e w25 ⟨rfl, hb⟩
  refine ⟨_, rfl, ?_⟩
  clear henv a; intro a henv
  replace hst := hst.call hb
  replace hst := (hst.addZ (show ZIn _ none 0 (qn 0) from zin_none _) ⟨nou_bk rfl, nou_bk rfl, nou_bk rfl, nou_bk rfl, nou_bk rfl, nou_bk rfl, trivial⟩).addZ (show ZIn _ none 0 (ql 0) from zin_none _) ⟨nou_bk rfl, nou_bk rfl, nou_bk rfl, nou_bk rfl, nou_bk rfl, nou_bk rfl, trivial⟩
  clear hb
  revert a
  refine mA rfl rfl ?_
  refine sA (v := .agg #[.bool (neg (qn 0)), .slice none (zl (qn 0)) 0, .bool (neg (ql 0)), .slice none (zl (ql 0)) 0]) rfl (fun _ henv => rn_extract henv rfl rfl) ?_
  refine sA (v := .int .i64 2) rfl (fun _ henv => rn_extract henv rfl rfl) ?_
  intro a henv
  refine seq_step rfl (op_alloc (c := #[.bool (neg (qn 0)), .slice none (zl (qn 0)) 0, .bool (neg (ql 0)), .slice none (zl (ql 0)) 0]) henv hst rfl zero_anvil_ratio_Rat qcells ?_)
  clear henv hst a; intro a w27 g26 henv hst
  refine seq_step rfl (op_store (k := 0) (c' := #[.bool (neg (qn 0)), .slice none (zl (qn 0)) 0, .bool (neg (ql 0)), .slice none (zl (ql 0)) 0]) henv hst (ty_anvil_ratio_Rat.size) rfl rfl rfl rfl (by simp) rfl rfl ?_)
  clear henv hst a; intro a w28 henv hst
  refine sv (v := .int .i64 2) henv rfl (rn_assign henv rfl) ?_
  clear henv a; intro a henv
  refine wpList_nil ?_
  refine th_n ?_
  refine wp_seq ?_
  refine region_seq ?_
  revert a
  refine sA (v := .agg #[.bool (neg (qn 0)), .slice none (zl (qn 0)) 0, .bool (neg (ql 0)), .slice none (zl (ql 0)) 0]) rfl (fun _ henv => rn_load0 henv ty_anvil_ratio_Rat rfl (hst.oat (k := 0) rfl) rfl) ?_
  refine sA (v := .pointer (some ⟨g11, 0, none⟩)) rfl (fun _ henv => rn_fieldAddr henv fd_anvil_api_Spot_0 (ty_anvil_api_Errno.size) (by decide) rfl) ?_
  refine sA (v := .int .i64 ps) rfl (fun _ henv => rn_load1 henv ty_anvil_api_Errno rfl (hst.oat (k := 3) rfl) rfl) ?_
  refine sA (v := .bool (ps == (0 : Int))) rfl (fun _ henv => rn_bin henv rfl rfl rfl) ?_
  intro a henv
  rw [show (ps == (0 : Int)) = true from (beq_iff_eq.2 u1)] at henv
  revert a
  refine mA rfl rfl ?_
  refine gA (v := .pointer (some ⟨g21, 0, none⟩)) rfl rfl rfl rfl (fun _ henv => rn_fieldAddr henv fd_anvil_api_Spot_0 (ty_anvil_api_Errno.size) (by decide) rfl) ?_
  refine gA (v := .int .i64 pt) rfl rfl rfl rfl (fun _ henv => rn_load1 henv ty_anvil_api_Errno rfl (hst.oat (k := 1) rfl) rfl) ?_
  refine gA (v := .bool (pt == (0 : Int))) rfl rfl rfl rfl (fun _ henv => rn_bin henv rfl rfl rfl) ?_
  intro a henv
  rw [show (pt == (0 : Int)) = true from (beq_iff_eq.2 u2)] at henv
  revert a
  refine sA (v := .bool true) rfl (fun _ henv => rn_pick henv rfl rfl) ?_
  refine mA rfl rfl ?_
  refine gA (v := .int .i64 2) rfl rfl rfl rfl (fun _ henv => rn_move henv rfl) ?_
  refine gA (v := .bool false) rfl rfl rfl rfl (fun _ henv => rn_bin henv rfl rfl rfl) ?_
  refine sA (v := .bool false) rfl (fun _ henv => rn_pick henv rfl rfl) ?_
  intro a henv
  refine seq_step rfl (op_store (k := 5) (c' := #[.bool (neg (qn 0)), .slice none (zl (qn 0)) 0, .bool (neg (ql 0)), .slice none (zl (ql 0)) 0]) henv hst (ty_anvil_ratio_Rat.size) rfl rfl rfl rfl (by simp) rfl rfl ?_)
  clear henv hst a; intro a w29 henv hst
  refine sv (v := .bool false) henv rfl (rn_assign henv rfl) ?_
  clear henv a; intro a henv
  refine wpList_nil ?_
  refine th_n ?_
  refine wp_ret ?_
  refine leave henv (res2 Tryd.results87 (RV.cell henv ty_anvil_ratio_Rat rfl (hst.oat (k := 5) rfl) rfl) (RV.tmp henv rfl)) ?_
  exact ⟨_, rfl, q_at rfl rfl (hst.pat (k := 1) rfl) (hst.pat (k := 0) rfl), hst.below⟩
set_option maxRecDepth 100000 in
set_option maxHeartbeats 2000000 in
theorem alone_ok0 {s t : List UInt8} {z y ps qs pt qt : Int} {w0 : World} (hs : IRd s z ps qs) (ht : IRd t y pt qt) (bz : zl z ≤ 65537) (by_ : zl y ≤ 65537) (u1 : ps = 0) (u2 : pt = 0) (hy0 : y ≠ 0) :
    Calls Tryd.prog 87 #[.agg #[.string ⟨s.toArray⟩, .string ⟨t.toArray⟩]] w0 fun e w' => ∃ v, e = .returned (.tuple #[v, .bool true]) ∧ QAt w' v (Rat.divInt z y) ∧ Below w0.heap.size w0 w' := by
  refine enter Tryd.func87 rfl Tryd.ntmps87 rfl ?_
  intro a henv hst
  refine wp_seq ?_
  refine region_seq ?_
  refine seq_step rfl (op_box (c := #[.string ⟨s.toArray⟩, .string ⟨t.toArray⟩]) henv hst rfl rfl rfl ?_)
  clear henv hst a; intro a w2 g1 henv hst
  refine seq_step rfl (op_alloc (c := #[.bool (neg (qn 0)), .slice none (zl (qn 0)) 0, .bool (neg (ql 0)), .slice none (zl (ql 0)) 0]) henv hst rfl zero_anvil_ratio_Rat qcells ?_)
  clear henv hst a; intro a w4 g3 henv hst
  refine sv (v := .bool false) henv rfl (rn_assign henv rfl) ?_
  clear henv a; intro a henv
  refine wpList_nil ?_
  refine th_n ?_
  refine wp_seq ?_
  refine region_seq ?_
  revert a
  refine sA (v := .pointer (some ⟨g1, 0, none⟩)) rfl (fun _ henv => rn_fieldAddr henv fd_anvil_anvillaw03_Frac_0 (ty_string.size) (by decide) rfl) ?_
  refine sA (v := .string ⟨s.toArray⟩) rfl (fun _ henv => rn_load1 henv ty_string rfl (hst.oat (k := 1) rfl) rfl) ?_
  intro a henv
  refine seq_step rfl (op_call henv rfl Tryd.call113 rfl (hs _) ?_)
  rintro e w8 ⟨_, rfl, ⟨A5, c6, rfl, hz7⟩, hb⟩
  refine ⟨_, rfl, ?_⟩
  clear henv a; intro a henv
  replace hst := (hst.call hb).addZ hz7 ⟨nou_bk rfl, nou_bk rfl, trivial⟩
  clear hz7
  clear hb
  revert a
  refine mA rfl rfl ?_
  refine sA (v := .agg #[.bool (neg z), .slice A5 (zl z) c6]) rfl (fun _ henv => rn_extract henv rfl rfl) ?_
  refine sA (v := .agg #[.int .i64 ps, .int .i64 qs]) rfl (fun _ henv => rn_extract henv rfl rfl) ?_
  intro a henv
  refine seq_step rfl (op_alloc (c := #[.bool (neg 0), .slice none (zl 0) 0]) henv hst rfl zero_anvil_integer_Int zcells ?_)
  clear henv hst a; intro a w10 g9 henv hst
  refine seq_step rfl (op_alloc (c := #[.int .i64 0, .int .i64 0]) henv hst rfl zero_anvil_api_Spot rfl ?_)
  clear henv hst a; intro a w12 g11 henv hst
  refine seq_step rfl (op_store (k := 1) (c' := #[.bool (neg z), .slice A5 (zl z) c6]) henv hst (ty_anvil_integer_Int.size) rfl rfl rfl rfl (by simp) rfl rfl ?_)
  clear henv hst a; intro a w13 henv hst
  refine seq_step rfl (op_store (k := 0) (c' := #[.int .i64 ps, .int .i64 qs]) henv hst (ty_anvil_api_Spot.size) rfl rfl rfl rfl (by simp) rfl rfl ?_)
  clear henv hst a; intro a w14 henv hst
  refine wpList_nil ?_
  refine th_n ?_
  refine wp_seq ?_
  refine region_seq ?_
  revert a
  refine sA (v := .pointer (some ⟨g1, 1, none⟩)) rfl (fun _ henv => rn_fieldAddr henv fd_anvil_anvillaw03_Frac_1 (ty_string.size) (by decide) rfl) ?_
  refine sA (v := .string ⟨t.toArray⟩) rfl (fun _ henv => rn_load1 henv ty_string rfl (hst.oat (k := 3) rfl) rfl) ?_
  intro a henv
  refine seq_step rfl (op_call henv rfl Tryd.call113 rfl (ht _) ?_)
  rintro e w18 ⟨_, rfl, ⟨A15, c16, rfl, hz17⟩, hb⟩
  refine ⟨_, rfl, ?_⟩
  clear henv a; intro a henv
  replace hst := (hst.call hb).addZ hz17 ⟨nou_bk rfl, nou_bk rfl, nou_bk rfl, nou_bk rfl, trivial⟩
  clear hz17
  clear hb
  revert a
  refine mA rfl rfl ?_
  refine sA (v := .agg #[.bool (neg y), .slice A15 (zl y) c16]) rfl (fun _ henv => rn_extract henv rfl rfl) ?_
  refine sA (v := .agg #[.int .i64 pt, .int .i64 qt]) rfl (fun _ henv => rn_extract henv rfl rfl) ?_
  intro a henv
  refine seq_step rfl (op_alloc (c := #[.bool (neg 0), .slice none (zl 0) 0]) henv hst rfl zero_anvil_integer_Int zcells ?_)
  clear henv hst a; intro a w20 g19 henv hst
  refine seq_step rfl (op_alloc (c := #[.int .i64 0, .int .i64 0]) henv hst rfl zero_anvil_api_Spot rfl ?_)
  clear henv hst a; intro a w22 g21 henv hst
  refine seq_step rfl (op_store (k := 1) (c' := #[.bool (neg y), .slice A15 (zl y) c16]) henv hst (ty_anvil_integer_Int.size) rfl rfl rfl rfl (by simp) rfl rfl ?_)
  clear henv hst a; intro a w23 henv hst
  refine seq_step rfl (op_store (k := 0) (c' := #[.int .i64 pt, .int .i64 qt]) henv hst (ty_anvil_api_Spot.size) rfl rfl rfl rfl (by simp) rfl rfl ?_)
  clear henv hst a; intro a w24 henv hst
  refine wpList_nil ?_
  refine th_n ?_
  refine wp_seq ?_
  refine region_seq ?_
  revert a
  refine sA (v := .agg #[.bool (neg z), .slice A5 (zl z) c6]) rfl (fun _ henv => rn_load0 henv ty_anvil_integer_Int rfl (hst.oat (k := 3) rfl) rfl) ?_
  refine sA (v := .agg #[.bool (neg y), .slice A15 (zl y) c16]) rfl (fun _ henv => rn_load0 henv ty_anvil_integer_Int rfl (hst.oat (k := 1) rfl) rfl) ?_
  intro a henv
  refine seq_step rfl (op_call henv rfl Tryd.call90 rfl (make_qr (p := z) (q := y) (r := Rat.divInt z y) (show ZIn _ A5 c6 z from hst.pat (k := 1) rfl) (show ZIn _ A15 c16 y from hst.pat (k := 0) rfl) (by omega) (by omega) hy0 rfl) ?_)
  rintro e w31 ⟨_, rfl, ⟨A25, c26, B27, d28, rfl, hz29, hz30⟩, hb⟩
  refine ⟨_, rfl, ?_⟩
  clear henv a; intro a henv
  replace hst := ((hst.call hb).addZ hz29 ⟨nou_bk rfl, nou_bk rfl, nou_bk rfl, nou_bk rfl, nou_bk rfl, nou_bk rfl, trivial⟩).addZ hz30 ⟨nou_bk rfl, nou_bk rfl, nou_bk rfl, nou_bk rfl, nou_bk rfl, nou_bk rfl, trivial⟩
  clear hz29 hz30
  clear hb
  revert a
  refine mA rfl rfl ?_
  refine sA (v := .agg #[.bool (neg (qn (Rat.divInt z y))), .slice A25 (zl (qn (Rat.divInt z y))) c26, .bool (neg (ql (Rat.divInt z y))), .slice B27 (zl (ql (Rat.divInt z y))) d28]) rfl (fun _ henv => rn_extract henv rfl rfl) ?_
  refine sA (v := .int .i64 0) rfl (fun _ henv => rn_extract henv rfl rfl) ?_
  intro a henv
  refine seq_step rfl (op_alloc (c := #[.bool (neg (qn 0)), .slice none (zl (qn 0)) 0, .bool (neg (ql 0)), .slice none (zl (ql 0)) 0]) henv hst rfl zero_anvil_ratio_Rat qcells ?_)
  clear henv hst a; intro a w33 g32 henv hst
  refine seq_step rfl (op_store (k := 0) (c' := #[.bool (neg (qn (Rat.divInt z y))), .slice A25 (zl (qn (Rat.divInt z y))) c26, .bool (neg (ql (Rat.divInt z y))), .slice B27 (zl (ql (Rat.divInt z y))) d28]) henv hst (ty_anvil_ratio_Rat.size) rfl rfl rfl rfl (by simp) rfl rfl ?_)
  clear henv hst a; intro a w34 henv hst
  refine sv (v := .int .i64 0) henv rfl (rn_assign henv rfl) ?_
  clear henv a; intro a henv
  refine wpList_nil ?_
  refine th_n ?_
  refine wp_seq ?_
  refine region_seq ?_
  revert a
  refine sA (v := .agg #[.bool (neg (qn (Rat.divInt z y))), .slice A25 (zl (qn (Rat.divInt z y))) c26, .bool (neg (ql (Rat.divInt z y))), .slice B27 (zl (ql (Rat.divInt z y))) d28]) rfl (fun _ henv => rn_load0 henv ty_anvil_ratio_Rat rfl (hst.oat (k := 0) rfl) rfl) ?_
  refine sA (v := .pointer (some ⟨g11, 0, none⟩)) rfl (fun _ henv => rn_fieldAddr henv fd_anvil_api_Spot_0 (ty_anvil_api_Errno.size) (by decide) rfl) ?_
  refine sA (v := .int .i64 ps) rfl (fun _ henv => rn_load1 henv ty_anvil_api_Errno rfl (hst.oat (k := 3) rfl) rfl) ?_
  refine sA (v := .bool (ps == (0 : Int))) rfl (fun _ henv => rn_bin henv rfl rfl rfl) ?_
  intro a henv
  rw [show (ps == (0 : Int)) = true from (beq_iff_eq.2 u1)] at henv
  revert a
  refine mA rfl rfl ?_
  refine gA (v := .pointer (some ⟨g21, 0, none⟩)) rfl rfl rfl rfl (fun _ henv => rn_fieldAddr henv fd_anvil_api_Spot_0 (ty_anvil_api_Errno.size) (by decide) rfl) ?_
  refine gA (v := .int .i64 pt) rfl rfl rfl rfl (fun _ henv => rn_load1 henv ty_anvil_api_Errno rfl (hst.oat (k := 1) rfl) rfl) ?_
  refine gA (v := .bool (pt == (0 : Int))) rfl rfl rfl rfl (fun _ henv => rn_bin henv rfl rfl rfl) ?_
  intro a henv
  rw [show (pt == (0 : Int)) = true from (beq_iff_eq.2 u2)] at henv
  revert a
  refine sA (v := .bool true) rfl (fun _ henv => rn_pick henv rfl rfl) ?_
  refine mA rfl rfl ?_
  refine gA (v := .int .i64 0) rfl rfl rfl rfl (fun _ henv => rn_move henv rfl) ?_
  refine gA (v := .bool true) rfl rfl rfl rfl (fun _ henv => rn_bin henv rfl rfl rfl) ?_
  refine sA (v := .bool true) rfl (fun _ henv => rn_pick henv rfl rfl) ?_
  intro a henv
  refine seq_step rfl (op_store (k := 5) (c' := #[.bool (neg (qn (Rat.divInt z y))), .slice A25 (zl (qn (Rat.divInt z y))) c26, .bool (neg (ql (Rat.divInt z y))), .slice B27 (zl (ql (Rat.divInt z y))) d28]) henv hst (ty_anvil_ratio_Rat.size) rfl rfl rfl rfl (by simp) rfl rfl ?_)
  clear henv hst a; intro a w35 henv hst
  refine sv (v := .bool true) henv rfl (rn_assign henv rfl) ?_
  clear henv a; intro a henv
  refine wpList_nil ?_
  refine th_n ?_
  refine wp_ret ?_
  refine leave henv (res2 Tryd.results87 (RV.cell henv ty_anvil_ratio_Rat rfl (hst.oat (k := 5) rfl) rfl) (RV.tmp henv rfl)) ?_
  exact ⟨_, rfl, q_at rfl rfl (hst.pat (k := 1) rfl) (hst.pat (k := 0) rfl), hst.below⟩
def AlAs (s t : List UInt8) (x : Rat) (o : Bool) : Prop := ∀ w0 : World,
    Calls Tryd.prog 87 #[.agg #[.string ⟨s.toArray⟩, .string ⟨t.toArray⟩]] w0 fun e w' => ∃ v, e = .returned (.tuple #[v, .bool o]) ∧ QAt w' v x ∧ Below w0.heap.size w0 w'
theorem alone_any {s t : List UInt8} (h1 : s.length ≤ maxLen) (h2 : t.length ≤ maxLen) : ∃ x o, AlAs s t x o ∧ (¬ Lg (s, t) → Qs 400 x) := by
  obtain ⟨z, ps, qs, hs, bz, bz2⟩ := ird_any s h1
  obtain ⟨y, pt, qt, ht, by_, by2⟩ := ird_any t h2
  by_cases hy0 : y = 0
  · by_cases u1 : ps = 0
    · by_cases u2 : pt = 0
      · exact ⟨_, _, fun w0 => alone_z1 hs ht bz by_ u1 u2 hy0, fun _ => Qs.mono qs_zero (by decide)⟩
      · exact ⟨_, _, fun w0 => alone_b1 hs ht bz by_ u1 u2 hy0, fun _ => Qs.mono qs_zero (by decide)⟩
    · exact ⟨_, _, fun w0 => alone_a1 hs ht bz by_ u1 hy0, fun _ => Qs.mono qs_zero (by decide)⟩
  · have hq : ¬ Lg (s, t) → Qs 400 (Rat.divInt z y) := fun hl => qs_make (bz2 (Nat.not_lt.1 fun h => hl (.inl h))) (by2 (Nat.not_lt.1 fun h => hl (.inr h))) hy0
    by_cases u1 : ps = 0
    · by_cases u2 : pt = 0
      · exact ⟨_, _, fun w0 => alone_ok0 hs ht bz by_ u1 u2 hy0, hq⟩
      · exact ⟨_, _, fun w0 => alone_b0 hs ht bz by_ u1 u2 hy0, hq⟩
    · exact ⟨_, _, fun w0 => alone_a0 hs ht bz by_ u1 hy0, hq⟩
def ThAs (s1 t1 s2 t2 s3 t3 : List UInt8) (x y z : Rat) (o : Bool) : Prop := ∀ w0 : World,
    Calls Tryd.prog 56 #[.agg #[.string ⟨s1.toArray⟩, .string ⟨t1.toArray⟩], .agg #[.string ⟨s2.toArray⟩, .string ⟨t2.toArray⟩], .agg #[.string ⟨s3.toArray⟩, .string ⟨t3.toArray⟩]] w0 fun e w' => ∃ v1 v2 v3, e = .returned (.tuple #[v1, v2, v3, .bool o]) ∧ QAt w' v1 x ∧ QAt w' v2 y ∧ QAt w' v3 z ∧ Below w0.heap.size w0 w'
set_option maxRecDepth 100000 in
set_option maxHeartbeats 1000000 in
theorem same_qn {A0 B0 : Option Addr} {c0 d0 : Nat} {A1 B1 : Option Addr} {c1 d1 : Nat} {x y : Rat} {w0 : World} (h0 : ZIn w0 A0 c0 (qn x)) (k0 : ZIn w0 B0 d0 (ql x)) (h1 : ZIn w0 A1 c1 (qn y)) (k1 : ZIn w0 B1 d1 (ql y)) {a b : Nat} (sx : Qs a x) (sy : Qs b y) (_hab : a + b ≤ 40000) (hn : qn x ≠ qn y) :
    Calls Tryd.prog 57 #[.agg #[.bool (neg (qn x)), .slice A0 (zl (qn x)) c0, .bool (neg (ql x)), .slice B0 (zl (ql x)) d0], .agg #[.bool (neg (qn y)), .slice A1 (zl (qn y)) c1, .bool (neg (ql y)), .slice B1 (zl (ql y)) d1]] w0 fun e w' => e = .returned (.bool false) ∧ Below w0.heap.size w0 w' := by
  refine enter Tryd.func57 rfl Tryd.ntmps57 rfl ?_
  intro a henv hst
  replace hst := hst.addZ h0 trivial
  replace hst := hst.addZ k0 trivial
  replace hst := hst.addZ h1 trivial
  replace hst := hst.addZ k1 trivial
  refine wp_seq ?_
  refine region_seq ?_
  refine seq_step rfl (op_box (c := #[.bool (neg (qn x)), .slice A0 (zl (qn x)) c0, .bool (neg (ql x)), .slice B0 (zl (ql x)) d0]) henv hst rfl rfl rfl ?_)
  clear henv hst a; intro a w2 g1 henv hst
  refine seq_step rfl (op_box (c := #[.bool (neg (qn y)), .slice A1 (zl (qn y)) c1, .bool (neg (ql y)), .slice B1 (zl (ql y)) d1]) henv hst rfl rfl rfl ?_)
  clear henv hst a; intro a w4 g3 henv hst
  refine sv (v := .bool false) henv rfl (rn_assign henv rfl) ?_
  clear henv a; intro a henv
  refine wpList_nil ?_
  refine th_n ?_
  refine wp_seq ?_
  refine region_any (n := 15) (Sk [bk g3 #[.bool (neg (qn y)), .slice A1 (zl (qn y)) c1, .bool (neg (ql y)), .slice B1 (zl (ql y)) d1] 91, bk g1 #[.bool (neg (qn x)), .slice A0 (zl (qn x)) c0, .bool (neg (ql x)), .slice B0 (zl (ql x)) d0] 91] [pfZ B1 d1 (ql y), pfZ A1 c1 (qn y), pfZ B0 d0 (ql x), pfZ A0 c0 (qn x)] [] []) mixed rfl henv hst ?_
  clear henv hst; intro w5 henv hst
  refine tL (i := 0) 1 1 [1, 3, 4, 5, 6, 7, 8, 9, 10, 11, 12, 13, 14] rfl (by kernel_rfl) (fun _ _ _ h => h) henv rfl ty_anvil_ratio_Rat rfl hst rfl rfl rfl ?_
  clear henv a; intro a henv
  refine tL (i := 2) 0 0 (rg 3 12) rfl (by kernel_rfl) (fun _ _ _ h => h) henv rfl ty_anvil_ratio_Rat rfl hst rfl rfl rfl ?_
  clear henv a; intro a henv
  have hs9 := sx.n
  refine sAny_one (i := 1) (by kernel_rfl) rfl rfl (op_call henv rfl Tryd.call88 rfl (num_q (x := x) (show ZIn _ A0 c0 (qn x) from hst.pat (k := 3) rfl) (show ZIn _ B0 d0 (ql x) from hst.pat (k := 2) rfl)) ?_)
  rintro e w10 ⟨_, rfl, ⟨A6, c7, rfl, hz8⟩, hb⟩
  refine ⟨_, rfl, ?_⟩
  clear henv a; intro a henv
  replace hst := (hst.call hb).addZ hz8 ⟨nou_bk rfl, nou_bk rfl, trivial⟩
  clear hz8
  clear hb
  refine ⟨.inr ⟨hst.kn.pick [0, 1] (rg 1 4), .inr (hst.kn.pick [] [])⟩, ?_⟩
  have hs14 := sy.n
  refine sAny_one (i := 3) (by kernel_rfl) rfl rfl (op_call henv rfl Tryd.call88 rfl (num_q (x := y) (show ZIn _ A1 c1 (qn y) from hst.pat (k := 2) rfl) (show ZIn _ B1 d1 (ql y) from hst.pat (k := 1) rfl)) ?_)
  rintro e w15 ⟨_, rfl, ⟨A11, c12, rfl, hz13⟩, hb⟩
  refine ⟨_, rfl, ?_⟩
  clear henv a; intro a henv
  replace hst := (hst.call hb).addZ hz13 ⟨nou_bk rfl, nou_bk rfl, trivial⟩
  clear hz13
  clear hb
  refine ⟨.inr ⟨hst.kn.pick [0, 1] (rg 2 4), .inr (hst.kn.pick [] [])⟩, ?_⟩
  refine sAny_one (i := 4) (by kernel_rfl) rfl rfl (op_call henv rfl Tryd.call42 rfl (cmp_z (x := (qn x)) (y := (qn y)) (show ZIn _ A6 c7 (qn x) from hst.pat (k := 1) rfl) (show ZIn _ A11 c12 (qn y) from hst.pat (k := 0) rfl)) ?_)
  rintro e w16 ⟨rfl, hb⟩
  refine ⟨_, rfl, ?_⟩
  clear henv a; intro a henv
  replace hst := hst.call hb
  clear hb
  refine ⟨.inr ⟨hst.kn.pick [0, 1] (rg 2 4), .inr (hst.kn.pick [] [])⟩, ?_⟩
  refine tA (i := 5) (rg 6 9) (v := .bool (((qn x) - (qn y)).sign == (0 : Int))) rfl (by kernel_rfl) (fun _ _ _ h => h) henv rfl (fun _ => rn_bin henv rfl rfl rfl) ?_
  clear henv a; intro a henv
  rw [show (((qn x) - (qn y)).sign == (0 : Int)) = false from (beq_eq_false_iff_ne.2 fun e => hn (by have := Int.sign_eq_zero_iff_zero.1 e; omega))] at henv
  refine tM (i := 6) (rg 7 8) rfl (by kernel_rfl) (fun _ _ _ h => h) henv rfl rfl ?_
  clear henv a; intro a henv
  refine sAny_skipg (i := 7) [8, 10, 11, 12, 13, 14] rfl (by kernel_rfl) (fun _ _ _ h => h) henv rfl rfl rfl rfl rfl ?_
  clear henv a; intro a henv
  refine sAny_skipg (i := 9) [10, 11, 12, 13, 14] rfl (by kernel_rfl) (fun _ _ _ h => h) henv rfl rfl rfl rfl rfl ?_
  clear henv a; intro a henv
  refine sAny_skipg (i := 8) [10, 11, 12, 13, 14] rfl (by kernel_rfl) (fun _ _ _ h => h) henv rfl rfl rfl rfl rfl ?_
  clear henv a; intro a henv
  refine sAny_skipg (i := 10) [11, 12, 13, 14] rfl (by kernel_rfl) (fun _ _ _ h => h) henv rfl rfl rfl rfl rfl ?_
  clear henv a; intro a henv
  refine sAny_skipg (i := 11) [12, 13, 14] rfl (by kernel_rfl) (fun _ _ _ h => h) henv rfl rfl rfl rfl rfl ?_
  clear henv a; intro a henv
  refine sAny_skipg (i := 12) [13, 14] rfl (by kernel_rfl) (fun _ _ _ h => h) henv rfl rfl rfl rfl rfl ?_
  clear henv a; intro a henv
  refine tA (i := 13) [14] (v := .bool false) rfl (by kernel_rfl) (fun _ _ _ h => h) henv rfl (fun _ => rn_pick henv rfl rfl) ?_
  clear henv a; intro a henv
  refine tA (i := 14) [] (v := .bool false) rfl (by kernel_rfl) (fun _ _ _ h => h) henv rfl (fun _ => rn_assign henv rfl) ?_
  clear henv a; intro a henv
  refine sAny_done (by kernel_rfl) ?_ _
  refine th_n ?_
  refine wp_ret ?_
  refine leave henv (res1 Tryd.results57 (RV.tmp henv rfl)) ?_
  exact ⟨rfl, hst.below⟩
set_option maxRecDepth 100000 in
set_option maxHeartbeats 1000000 in
theorem same_qd {A0 B0 : Option Addr} {c0 d0 : Nat} {A1 B1 : Option Addr} {c1 d1 : Nat} {x y : Rat} {w0 : World} (h0 : ZIn w0 A0 c0 (qn x)) (k0 : ZIn w0 B0 d0 (ql x)) (h1 : ZIn w0 A1 c1 (qn y)) (k1 : ZIn w0 B1 d1 (ql y)) {a b : Nat} (sx : Qs a x) (sy : Qs b y) (hab : a + b ≤ 40000) (hn : qn x = qn y) (hd : qd x ≠ qd y) :
    Calls Tryd.prog 57 #[.agg #[.bool (neg (qn x)), .slice A0 (zl (qn x)) c0, .bool (neg (ql x)), .slice B0 (zl (ql x)) d0], .agg #[.bool (neg (qn y)), .slice A1 (zl (qn y)) c1, .bool (neg (ql y)), .slice B1 (zl (ql y)) d1]] w0 fun e w' => e = .returned (.bool false) ∧ Below w0.heap.size w0 w' := by
  refine enter Tryd.func57 rfl Tryd.ntmps57 rfl ?_
  intro a henv hst
  replace hst := hst.addZ h0 trivial
  replace hst := hst.addZ k0 trivial
  replace hst := hst.addZ h1 trivial
  replace hst := hst.addZ k1 trivial
  refine wp_seq ?_
  refine region_seq ?_
  refine seq_step rfl (op_box (c := #[.bool (neg (qn x)), .slice A0 (zl (qn x)) c0, .bool (neg (ql x)), .slice B0 (zl (ql x)) d0]) henv hst rfl rfl rfl ?_)
  clear henv hst a; intro a w2 g1 henv hst
  refine seq_step rfl (op_box (c := #[.bool (neg (qn y)), .slice A1 (zl (qn y)) c1, .bool (neg (ql y)), .slice B1 (zl (ql y)) d1]) henv hst rfl rfl rfl ?_)
  clear henv hst a; intro a w4 g3 henv hst
  refine sv (v := .bool false) henv rfl (rn_assign henv rfl) ?_
  clear henv a; intro a henv
  refine wpList_nil ?_
  refine th_n ?_
  refine wp_seq ?_
  refine region_any (n := 15) (Sk [bk g3 #[.bool (neg (qn y)), .slice A1 (zl (qn y)) c1, .bool (neg (ql y)), .slice B1 (zl (ql y)) d1] 91, bk g1 #[.bool (neg (qn x)), .slice A0 (zl (qn x)) c0, .bool (neg (ql x)), .slice B0 (zl (ql x)) d0] 91] [pfZ B1 d1 (ql y), pfZ A1 c1 (qn y), pfZ B0 d0 (ql x), pfZ A0 c0 (qn x)] [] []) mixed rfl henv hst ?_
  clear henv hst; intro w5 henv hst
  refine tL (i := 0) 1 1 [1, 3, 4, 5, 6, 7, 8, 9, 10, 11, 12, 13, 14] rfl (by kernel_rfl) (fun _ _ _ h => h) henv rfl ty_anvil_ratio_Rat rfl hst rfl rfl rfl ?_
  clear henv a; intro a henv
  refine tL (i := 2) 0 0 (rg 3 12) rfl (by kernel_rfl) (fun _ _ _ h => h) henv rfl ty_anvil_ratio_Rat rfl hst rfl rfl rfl ?_
  clear henv a; intro a henv
  have hs9 := sx.n
  refine sAny_one (i := 1) (by kernel_rfl) rfl rfl (op_call henv rfl Tryd.call88 rfl (num_q (x := x) (show ZIn _ A0 c0 (qn x) from hst.pat (k := 3) rfl) (show ZIn _ B0 d0 (ql x) from hst.pat (k := 2) rfl)) ?_)
  rintro e w10 ⟨_, rfl, ⟨A6, c7, rfl, hz8⟩, hb⟩
  refine ⟨_, rfl, ?_⟩
  clear henv a; intro a henv
  replace hst := (hst.call hb).addZ hz8 ⟨nou_bk rfl, nou_bk rfl, trivial⟩
  clear hz8
  clear hb
  refine ⟨.inr ⟨hst.kn.pick [0, 1] (rg 1 4), .inr (hst.kn.pick [] [])⟩, ?_⟩
  have hs14 := sy.n
  refine sAny_one (i := 3) (by kernel_rfl) rfl rfl (op_call henv rfl Tryd.call88 rfl (num_q (x := y) (show ZIn _ A1 c1 (qn y) from hst.pat (k := 2) rfl) (show ZIn _ B1 d1 (ql y) from hst.pat (k := 1) rfl)) ?_)
  rintro e w15 ⟨_, rfl, ⟨A11, c12, rfl, hz13⟩, hb⟩
  refine ⟨_, rfl, ?_⟩
  clear henv a; intro a henv
  replace hst := (hst.call hb).addZ hz13 ⟨nou_bk rfl, nou_bk rfl, trivial⟩
  clear hz13
  clear hb
  refine ⟨.inr ⟨hst.kn.pick [0, 1] (rg 2 4), .inr (hst.kn.pick [] [])⟩, ?_⟩
  refine sAny_one (i := 4) (by kernel_rfl) rfl rfl (op_call henv rfl Tryd.call42 rfl (cmp_z (x := (qn x)) (y := (qn y)) (show ZIn _ A6 c7 (qn x) from hst.pat (k := 1) rfl) (show ZIn _ A11 c12 (qn y) from hst.pat (k := 0) rfl)) ?_)
  rintro e w16 ⟨rfl, hb⟩
  refine ⟨_, rfl, ?_⟩
  clear henv a; intro a henv
  replace hst := hst.call hb
  clear hb
  refine ⟨.inr ⟨hst.kn.pick [0, 1] (rg 2 4), .inr (hst.kn.pick [] [])⟩, ?_⟩
  refine tA (i := 5) (rg 6 9) (v := .bool (((qn x) - (qn y)).sign == (0 : Int))) rfl (by kernel_rfl) (fun _ _ _ h => h) henv rfl (fun _ => rn_bin henv rfl rfl rfl) ?_
  clear henv a; intro a henv
  rw [show (((qn x) - (qn y)).sign == (0 : Int)) = true from (by rw [hn, Int.sub_self]; rfl)] at henv
  refine tM (i := 6) (rg 7 8) rfl (by kernel_rfl) (fun _ _ _ h => h) henv rfl rfl ?_
  clear henv a; intro a henv
  refine tLg (i := 7) 1 1 [8, 10, 11, 12, 13, 14] rfl (by kernel_rfl) (fun _ _ _ h => h) henv rfl rfl rfl rfl ty_anvil_ratio_Rat rfl hst rfl rfl rfl ?_
  clear henv a; intro a henv
  refine tLg (i := 9) 0 0 (rg 10 5) rfl (by kernel_rfl) (fun _ _ _ h => h) henv rfl rfl rfl rfl ty_anvil_ratio_Rat rfl hst rfl rfl rfl ?_
  clear henv a; intro a henv
  have hs20 := sx.d
  refine sAny_oneg (i := 8) (by kernel_rfl) rfl rfl henv rfl rfl rfl (op_call henv rfl Tryd.call89 rfl (den_q (x := x) (show ZIn _ A0 c0 (qn x) from hst.pat (k := 5) rfl) (show ZIn _ B0 d0 (ql x) from hst.pat (k := 4) rfl) sx (by omega)) ?_)
  rintro e w21 ⟨_, rfl, ⟨A17, c18, rfl, hz19⟩, hb⟩
  refine ⟨_, rfl, ?_⟩
  clear henv a; intro a henv
  replace hst := (hst.call hb).addZ hz19 ⟨nou_bk rfl, nou_bk rfl, trivial⟩
  clear hz19
  clear hb
  refine ⟨.inr ⟨hst.kn.pick [0, 1] (rg 3 4), .inr (hst.kn.pick [] [])⟩, ?_⟩
  have hs25 := sy.d
  refine sAny_oneg (i := 10) (by kernel_rfl) rfl rfl henv rfl rfl rfl (op_call henv rfl Tryd.call89 rfl (den_q (x := y) (show ZIn _ A1 c1 (qn y) from hst.pat (k := 4) rfl) (show ZIn _ B1 d1 (ql y) from hst.pat (k := 3) rfl) sy (by omega)) ?_)
  rintro e w26 ⟨_, rfl, ⟨A22, c23, rfl, hz24⟩, hb⟩
  refine ⟨_, rfl, ?_⟩
  clear henv a; intro a henv
  replace hst := (hst.call hb).addZ hz24 ⟨nou_bk rfl, nou_bk rfl, trivial⟩
  clear hz24
  clear hb
  refine ⟨.inr ⟨hst.kn.pick [0, 1] (rg 4 4), .inr (hst.kn.pick [] [])⟩, ?_⟩
  refine sAny_oneg (i := 11) (by kernel_rfl) rfl rfl henv rfl rfl rfl (op_call henv rfl Tryd.call42 rfl (cmp_z (x := (qd x)) (y := (qd y)) (show ZIn _ A17 c18 (qd x) from hst.pat (k := 1) rfl) (show ZIn _ A22 c23 (qd y) from hst.pat (k := 0) rfl)) ?_)
  rintro e w27 ⟨rfl, hb⟩
  refine ⟨_, rfl, ?_⟩
  clear henv a; intro a henv
  replace hst := hst.call hb
  clear hb
  refine ⟨.inr ⟨hst.kn.pick [0, 1] (rg 4 4), .inr (hst.kn.pick [] [])⟩, ?_⟩
  refine tAg (i := 12) [13, 14] (v := .bool (((qd x) - (qd y)).sign == (0 : Int))) rfl (by kernel_rfl) (fun _ _ _ h => h) henv rfl rfl rfl rfl (fun _ => rn_bin henv rfl rfl rfl) ?_
  clear henv a; intro a henv
  rw [show (((qd x) - (qd y)).sign == (0 : Int)) = false from (beq_eq_false_iff_ne.2 fun e => hd (by have := Int.sign_eq_zero_iff_zero.1 e; omega))] at henv
  refine tA (i := 13) [14] (v := .bool false) rfl (by kernel_rfl) (fun _ _ _ h => h) henv rfl (fun _ => rn_pick henv rfl rfl) ?_
  clear henv a; intro a henv
  refine tA (i := 14) [] (v := .bool false) rfl (by kernel_rfl) (fun _ _ _ h => h) henv rfl (fun _ => rn_assign henv rfl) ?_
  clear henv a; intro a henv
  refine sAny_done (by kernel_rfl) ?_ _
  refine th_n ?_
  refine wp_ret ?_
  refine leave henv (res1 Tryd.results57 (RV.tmp henv rfl)) ?_
  exact ⟨rfl, hst.below⟩
set_option maxRecDepth 100000 in
set_option maxHeartbeats 1000000 in
theorem same_qe {A0 B0 : Option Addr} {c0 d0 : Nat} {A1 B1 : Option Addr} {c1 d1 : Nat} {x y : Rat} {w0 : World} (h0 : ZIn w0 A0 c0 (qn x)) (k0 : ZIn w0 B0 d0 (ql x)) (h1 : ZIn w0 A1 c1 (qn y)) (k1 : ZIn w0 B1 d1 (ql y)) {a b : Nat} (sx : Qs a x) (sy : Qs b y) (hab : a + b ≤ 40000) (hn : qn x = qn y) (hd : qd x = qd y) :
    Calls Tryd.prog 57 #[.agg #[.bool (neg (qn x)), .slice A0 (zl (qn x)) c0, .bool (neg (ql x)), .slice B0 (zl (ql x)) d0], .agg #[.bool (neg (qn y)), .slice A1 (zl (qn y)) c1, .bool (neg (ql y)), .slice B1 (zl (ql y)) d1]] w0 fun e w' => e = .returned (.bool true) ∧ Below w0.heap.size w0 w' := by
  refine enter Tryd.func57 rfl Tryd.ntmps57 rfl ?_
  intro a henv hst
  replace hst := hst.addZ h0 trivial
  replace hst := hst.addZ k0 trivial
  replace hst := hst.addZ h1 trivial
  replace hst := hst.addZ k1 trivial
  refine wp_seq ?_
  refine region_seq ?_
  refine seq_step rfl (op_box (c := #[.bool (neg (qn x)), .slice A0 (zl (qn x)) c0, .bool (neg (ql x)), .slice B0 (zl (ql x)) d0]) henv hst rfl rfl rfl ?_)
  clear henv hst a; intro a w2 g1 henv hst
  refine seq_step rfl (op_box (c := #[.bool (neg (qn y)), .slice A1 (zl (qn y)) c1, .bool (neg (ql y)), .slice B1 (zl (ql y)) d1]) henv hst rfl rfl rfl ?_)
  clear henv hst a; intro a w4 g3 henv hst
  refine sv (v := .bool false) henv rfl (rn_assign henv rfl) ?_
  clear henv a; intro a henv
  refine wpList_nil ?_
  refine th_n ?_
  refine wp_seq ?_
  refine region_any (n := 15) (Sk [bk g3 #[.bool (neg (qn y)), .slice A1 (zl (qn y)) c1, .bool (neg (ql y)), .slice B1 (zl (ql y)) d1] 91, bk g1 #[.bool (neg (qn x)), .slice A0 (zl (qn x)) c0, .bool (neg (ql x)), .slice B0 (zl (ql x)) d0] 91] [pfZ B1 d1 (ql y), pfZ A1 c1 (qn y), pfZ B0 d0 (ql x), pfZ A0 c0 (qn x)] [] []) mixed rfl henv hst ?_
  clear henv hst; intro w5 henv hst
  refine tL (i := 0) 1 1 [1, 3, 4, 5, 6, 7, 8, 9, 10, 11, 12, 13, 14] rfl (by kernel_rfl) (fun _ _ _ h => h) henv rfl ty_anvil_ratio_Rat rfl hst rfl rfl rfl ?_
  clear henv a; intro a henv
  refine tL (i := 2) 0 0 (rg 3 12) rfl (by kernel_rfl) (fun _ _ _ h => h) henv rfl ty_anvil_ratio_Rat rfl hst rfl rfl rfl ?_
  clear henv a; intro a henv
  have hs9 := sx.n
  refine sAny_one (i := 1) (by kernel_rfl) rfl rfl (op_call henv rfl Tryd.call88 rfl (num_q (x := x) (show ZIn _ A0 c0 (qn x) from hst.pat (k := 3) rfl) (show ZIn _ B0 d0 (ql x) from hst.pat (k := 2) rfl)) ?_)
  rintro e w10 ⟨_, rfl, ⟨A6, c7, rfl, hz8⟩, hb⟩
  refine ⟨_, rfl, ?_⟩
  clear henv a; intro a henv
  replace hst := (hst.call hb).addZ hz8 ⟨nou_bk rfl, nou_bk rfl, trivial⟩
  clear hz8
  clear hb
  refine ⟨.inr ⟨hst.kn.pick [0, 1] (rg 1 4), .inr (hst.kn.pick [] [])⟩, ?_⟩
  have hs14 := sy.n
  refine sAny_one (i := 3) (by kernel_rfl) rfl rfl (op_call henv rfl Tryd.call88 rfl (num_q (x := y) (show ZIn _ A1 c1 (qn y) from hst.pat (k := 2) rfl) (show ZIn _ B1 d1 (ql y) from hst.pat (k := 1) rfl)) ?_)
  rintro e w15 ⟨_, rfl, ⟨A11, c12, rfl, hz13⟩, hb⟩
  refine ⟨_, rfl, ?_⟩
  clear henv a; intro a henv
  replace hst := (hst.call hb).addZ hz13 ⟨nou_bk rfl, nou_bk rfl, trivial⟩
  clear hz13
  clear hb
  refine ⟨.inr ⟨hst.kn.pick [0, 1] (rg 2 4), .inr (hst.kn.pick [] [])⟩, ?_⟩
  refine sAny_one (i := 4) (by kernel_rfl) rfl rfl (op_call henv rfl Tryd.call42 rfl (cmp_z (x := (qn x)) (y := (qn y)) (show ZIn _ A6 c7 (qn x) from hst.pat (k := 1) rfl) (show ZIn _ A11 c12 (qn y) from hst.pat (k := 0) rfl)) ?_)
  rintro e w16 ⟨rfl, hb⟩
  refine ⟨_, rfl, ?_⟩
  clear henv a; intro a henv
  replace hst := hst.call hb
  clear hb
  refine ⟨.inr ⟨hst.kn.pick [0, 1] (rg 2 4), .inr (hst.kn.pick [] [])⟩, ?_⟩
  refine tA (i := 5) (rg 6 9) (v := .bool (((qn x) - (qn y)).sign == (0 : Int))) rfl (by kernel_rfl) (fun _ _ _ h => h) henv rfl (fun _ => rn_bin henv rfl rfl rfl) ?_
  clear henv a; intro a henv
  rw [show (((qn x) - (qn y)).sign == (0 : Int)) = true from (by rw [hn, Int.sub_self]; rfl)] at henv
  refine tM (i := 6) (rg 7 8) rfl (by kernel_rfl) (fun _ _ _ h => h) henv rfl rfl ?_
  clear henv a; intro a henv
  refine tLg (i := 7) 1 1 [8, 10, 11, 12, 13, 14] rfl (by kernel_rfl) (fun _ _ _ h => h) henv rfl rfl rfl rfl ty_anvil_ratio_Rat rfl hst rfl rfl rfl ?_
  clear henv a; intro a henv
  refine tLg (i := 9) 0 0 (rg 10 5) rfl (by kernel_rfl) (fun _ _ _ h => h) henv rfl rfl rfl rfl ty_anvil_ratio_Rat rfl hst rfl rfl rfl ?_
  clear henv a; intro a henv
  have hs20 := sx.d
  refine sAny_oneg (i := 8) (by kernel_rfl) rfl rfl henv rfl rfl rfl (op_call henv rfl Tryd.call89 rfl (den_q (x := x) (show ZIn _ A0 c0 (qn x) from hst.pat (k := 5) rfl) (show ZIn _ B0 d0 (ql x) from hst.pat (k := 4) rfl) sx (by omega)) ?_)
  rintro e w21 ⟨_, rfl, ⟨A17, c18, rfl, hz19⟩, hb⟩
  refine ⟨_, rfl, ?_⟩
  clear henv a; intro a henv
  replace hst := (hst.call hb).addZ hz19 ⟨nou_bk rfl, nou_bk rfl, trivial⟩
  clear hz19
  clear hb
  refine ⟨.inr ⟨hst.kn.pick [0, 1] (rg 3 4), .inr (hst.kn.pick [] [])⟩, ?_⟩
  have hs25 := sy.d
  refine sAny_oneg (i := 10) (by kernel_rfl) rfl rfl henv rfl rfl rfl (op_call henv rfl Tryd.call89 rfl (den_q (x := y) (show ZIn _ A1 c1 (qn y) from hst.pat (k := 4) rfl) (show ZIn _ B1 d1 (ql y) from hst.pat (k := 3) rfl) sy (by omega)) ?_)
  rintro e w26 ⟨_, rfl, ⟨A22, c23, rfl, hz24⟩, hb⟩
  refine ⟨_, rfl, ?_⟩
  clear henv a; intro a henv
  replace hst := (hst.call hb).addZ hz24 ⟨nou_bk rfl, nou_bk rfl, trivial⟩
  clear hz24
  clear hb
  refine ⟨.inr ⟨hst.kn.pick [0, 1] (rg 4 4), .inr (hst.kn.pick [] [])⟩, ?_⟩
  refine sAny_oneg (i := 11) (by kernel_rfl) rfl rfl henv rfl rfl rfl (op_call henv rfl Tryd.call42 rfl (cmp_z (x := (qd x)) (y := (qd y)) (show ZIn _ A17 c18 (qd x) from hst.pat (k := 1) rfl) (show ZIn _ A22 c23 (qd y) from hst.pat (k := 0) rfl)) ?_)
  rintro e w27 ⟨rfl, hb⟩
  refine ⟨_, rfl, ?_⟩
  clear henv a; intro a henv
  replace hst := hst.call hb
  clear hb
  refine ⟨.inr ⟨hst.kn.pick [0, 1] (rg 4 4), .inr (hst.kn.pick [] [])⟩, ?_⟩
  refine tAg (i := 12) [13, 14] (v := .bool (((qd x) - (qd y)).sign == (0 : Int))) rfl (by kernel_rfl) (fun _ _ _ h => h) henv rfl rfl rfl rfl (fun _ => rn_bin henv rfl rfl rfl) ?_
  clear henv a; intro a henv
  rw [show (((qd x) - (qd y)).sign == (0 : Int)) = true from (by rw [hd, Int.sub_self]; rfl)] at henv
  refine tA (i := 13) [14] (v := .bool true) rfl (by kernel_rfl) (fun _ _ _ h => h) henv rfl (fun _ => rn_pick henv rfl rfl) ?_
  clear henv a; intro a henv
  refine tA (i := 14) [] (v := .bool true) rfl (by kernel_rfl) (fun _ _ _ h => h) henv rfl (fun _ => rn_assign henv rfl) ?_
  clear henv a; intro a henv
  refine sAny_done (by kernel_rfl) ?_ _
  refine th_n ?_
  refine wp_ret ?_
  refine leave henv (res1 Tryd.results57 (RV.tmp henv rfl)) ?_
  exact ⟨rfl, hst.below⟩
theorem same_q {A0 B0 : Option Addr} {c0 d0 : Nat} {A1 B1 : Option Addr} {c1 d1 : Nat} {x y : Rat} {w0 : World} (h0 : ZIn w0 A0 c0 (qn x)) (k0 : ZIn w0 B0 d0 (ql x)) (h1 : ZIn w0 A1 c1 (qn y)) (k1 : ZIn w0 B1 d1 (ql y)) {a b : Nat} (sx : Qs a x) (sy : Qs b y) (hab : a + b ≤ 40000) :
    Calls Tryd.prog 57 #[.agg #[.bool (neg (qn x)), .slice A0 (zl (qn x)) c0, .bool (neg (ql x)), .slice B0 (zl (ql x)) d0], .agg #[.bool (neg (qn y)), .slice A1 (zl (qn y)) c1, .bool (neg (ql y)), .slice B1 (zl (ql y)) d1]] w0 fun e w' => e = .returned (.bool (decide (x = y))) ∧ Below w0.heap.size w0 w' := by
  by_cases hn : qn x = qn y
  · by_cases hd : qd x = qd y
    · rw [decide_eq_true (q_ext hn hd)]
      exact same_qe h0 k0 h1 k1 sx sy hab hn hd
    · rw [decide_eq_false fun e => hd (by rw [e])]
      exact same_qd h0 k0 h1 k1 sx sy hab hn hd
  · rw [decide_eq_false fun e => hn (by rw [e])]
    exact same_qn h0 k0 h1 k1 sx sy hab hn
end Go.Proofs.YtegglooojlheoaaDoor.W
