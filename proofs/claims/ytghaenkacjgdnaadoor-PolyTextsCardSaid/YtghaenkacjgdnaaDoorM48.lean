/- strings.Join at a blank; row.Text. Printed by pv/gen_rtx2.py. No condition. -/
import Derived.Test.YtghaenkacjgdnaaDoorM46
import Derived.Test.YtghaenkacjgdnaaDoorM15
import Derived.Test.YtghaenkacjgdnaaDoorM47
import Derived.Test.YtghaenkacjgdnaaDoorM31
import Derived.Test.YtghaenkacjgdnaaDoorM6
import Derived.Test.YtghaenkacjgdnaaDoorM45
import Derived.Test.YtghaenkacjgdnaaDoorM36
import Derived.Test.YtghaenkacjgdnaaDoorM42

namespace Go.Proofs.YtghaenkacjgdnaaDoor.W
open Go.RowKit Anv Go.Lib
theorem quo_big {n : Nat} (h : 0 < n) (h2 : n ≤ 1000000) : 2 ≤ 9223372036854775807 / n := by
  rw [Nat.le_div_iff_mul_le h]; omega
def jt (s : List UInt8) (r : List (List UInt8)) (k : Nat) : List UInt8 := s ++ (r.take k).flatMap fun t => 32 :: t
theorem jt_zero (s : List UInt8) (r : List (List UInt8)) : jt s r 0 = s := by simp [jt]
theorem jt_step {s t : List UInt8} {r : List (List UInt8)} {k : Nat} (h : r[k]? = some t) : jt s r (k + 1) = jt s r k ++ 32 :: t := by
  unfold jt
  rw [take_one h, List.flatMap_append]
  simp
theorem jn_all {es : List (List UInt8)} {x : List UInt8} {k : Nat} (h : es[0]? = some x) (hk : es.length ≤ k + 1) : jt x (es.drop 1) k = jn es := by
  cases es with
  | nil => simp at h
  | cons y r =>
    obtain rfl : y = x := by simpa using h
    have hk : r.length ≤ k := by simpa using hk
    simp [jt, jn, List.take_of_length_le hk]
def textRow (zs : List Int) : List UInt8 := 91 :: (jn (zs.map textZ) ++ [93])
theorem step_txt {es : List NE} {os : List (List UInt8)} {j : Nat} {A : Option Addr} {c : Nat} {z : Int} (ho : os = ((es.map zz).take j).map textZ) (he : es[j]? = some (A, c, z)) : os ++ [textZ z] = ((es.map zz).take (j + 1)).map textZ := by
  rw [ho, take_one (x := z) (by rw [List.getElem?_map, he]; rfl), List.map_append]
  rfl
theorem txt_bd {es : List NE} {j : Nat} (hz : ZB 90000 es) : ∀ s ∈ ((es.map zz).take j).map textZ, s.length ≤ 1000000 := by
  intro s hs
  obtain ⟨z, hz1, rfl⟩ := List.mem_map.1 hs
  obtain ⟨e, he, rfl⟩ := List.mem_map.1 (List.mem_of_mem_take hz1)
  have h1 := hz e he
  have h2 := textZ_bd (zz e)
  omega
set_option maxRecDepth 100000 in
set_option maxHeartbeats 4000000 in
theorem join_0 {A0 : Option Addr} {n0 c0 : Nat} {es0 : List (List UInt8)} {w0 : World} (h0 : (pfRow fS FTx 1 A0 n0 c0 es0).P w0) (hb : ∀ s ∈ es0, s.length ≤ 1000000) (hn : n0 = 0) :
    Calls Tryd.prog 100 #[.slice A0 n0 c0, .string ⟨#[32]⟩] w0 fun e w' => e = .returned (.string ⟨(jn es0).toArray⟩) ∧ Below w0.heap.size w0 w' := by
  refine enter Tryd.func100 rfl Tryd.ntmps100 rfl ?_
  intro a henv hst
  have hlen0 := h0.2.1
  have hcap0 := h0.1.cap
  replace hst := hst.argRow h0
  refine wp_seq ?_
  refine region_seq ?_
  refine sv (v := .string ⟨#[]⟩) henv rfl (rn_assign henv rfl) ?_
  clear henv a; intro a henv
  refine wpList_nil ?_
  refine th_n ?_
  refine wp_seq ?_
  refine wp_seq ?_
  refine region_seq ?_
  revert a
  refine mA rfl rfl ?_
  refine sA (v := .int .i64 (n0 : Nat)) rfl (fun _ henv => rn_len henv Tryd.underlying125 rfl) ?_
  intro a henv
  refine wpList_nil ?_
  refine th_n ?_
  refine wp_block ?_
  refine wp_seq ?_
  refine region_seq ?_
  refine sv (v := .bool (((n0 : Nat) : Int) == (0 : Int))) henv rfl (rn_bin henv rfl rfl rfl) ?_
  clear henv a; intro a henv
  rw [show (((n0 : Nat) : Int) == (0 : Int)) = true from (beq_iff_eq.2 (by omega))] at henv
  refine sv (v := .bool true) henv rfl (rn_assign henv rfl) ?_
  clear henv a; intro a henv
  refine wpList_nil ?_
  refine th_n ?_
  refine if_t henv rfl (rfl) ?_
  refine wp_seq ?_
  refine region_seq ?_
  refine sv (v := .string ⟨#[]⟩) henv rfl (rn_assign henv rfl) ?_
  clear henv a; intro a henv
  refine wpList_nil ?_
  refine th_n ?_
  refine wp_ret ?_
  refine bl_r (th_r ?_)
  refine leave henv (res1 Tryd.results100 (RV.tmp henv rfl)) ?_
  obtain rfl : es0 = [] := List.eq_nil_of_length_eq_zero (by omega)
  exact ⟨rfl, hst.below⟩
set_option maxRecDepth 100000 in
set_option maxHeartbeats 4000000 in
theorem join_1 {A0 : Option Addr} {n0 c0 : Nat} {es0 : List (List UInt8)} {w0 : World} (h0 : (pfRow fS FTx 1 A0 n0 c0 es0).P w0) (hb : ∀ s ∈ es0, s.length ≤ 1000000) (hn : n0 = 1) :
    Calls Tryd.prog 100 #[.slice A0 n0 c0, .string ⟨#[32]⟩] w0 fun e w' => e = .returned (.string ⟨(jn es0).toArray⟩) ∧ Below w0.heap.size w0 w' := by
  refine enter Tryd.func100 rfl Tryd.ntmps100 rfl ?_
  intro a henv hst
  have hlen0 := h0.2.1
  have hcap0 := h0.1.cap
  replace hst := hst.argRow h0
  obtain ⟨x0, hx0⟩ : ∃ x, es0[0]? = some x := ⟨_, List.getElem?_eq_getElem (by omega)⟩
  have hlx := hb x0 (List.mem_of_getElem? hx0)
  refine wp_seq ?_
  refine region_seq ?_
  refine sv (v := .string ⟨#[]⟩) henv rfl (rn_assign henv rfl) ?_
  clear henv a; intro a henv
  refine wpList_nil ?_
  refine th_n ?_
  refine wp_seq ?_
  refine wp_seq ?_
  refine region_seq ?_
  revert a
  refine mA rfl rfl ?_
  refine sA (v := .int .i64 (n0 : Nat)) rfl (fun _ henv => rn_len henv Tryd.underlying125 rfl) ?_
  intro a henv
  refine wpList_nil ?_
  refine th_n ?_
  refine wp_block ?_
  refine wp_seq ?_
  refine region_seq ?_
  refine sv (v := .bool (((n0 : Nat) : Int) == (0 : Int))) henv rfl (rn_bin henv rfl rfl rfl) ?_
  clear henv a; intro a henv
  rw [show (((n0 : Nat) : Int) == (0 : Int)) = false from (beq_eq_false_iff_ne.2 (by omega))] at henv
  refine sv (v := .bool false) henv rfl (rn_assign henv rfl) ?_
  clear henv a; intro a henv
  refine wpList_nil ?_
  refine th_n ?_
  refine if_f henv rfl (rfl) ?_
  refine wp_seq ?_
  refine region_seq ?_
  refine sv (v := .bool (((n0 : Nat) : Int) == (1 : Int))) henv rfl (rn_bin henv rfl rfl rfl) ?_
  clear henv a; intro a henv
  rw [show (((n0 : Nat) : Int) == (1 : Int)) = true from (beq_iff_eq.2 (by omega))] at henv
  refine sv (v := .bool true) henv rfl (rn_assign henv rfl) ?_
  clear henv a; intro a henv
  refine wpList_nil ?_
  refine th_n ?_
  refine if_t henv rfl (rfl) ?_
  refine wp_seq ?_
  refine region_seq ?_
  revert a
  refine mA rfl rfl ?_
  refine sA (v := .pointer (some ⟨ab A0, ao A0 + 0 * 1, none⟩)) rfl (fun _ henv => rn_idxR (i := 0) henv Tryd.underlying125 (ty_string.size) rfl rfl (by omega) rfl (show (pfRow fS FTx 1 A0 n0 c0 es0).P _ from (hst.pat (k := 0) rfl)).1) ?_
  refine sA (v := .string ⟨x0.toArray⟩) rfl (fun _ henv => rn_loadE1 (i := 0) (j := 0) (e := x0) henv ty_string rfl rfl fS_len (by decide) (show (pfRow fS FTx 1 A0 n0 c0 es0).P _ from (hst.pat (k := 0) rfl)).1 (by omega) hx0 rfl) ?_
  refine aA rfl rfl ?_
  intro a henv
  refine wpList_nil ?_
  refine th_n ?_
  refine wp_ret ?_
  refine bl_r (th_r ?_)
  refine leave henv (res1 Tryd.results100 (RV.tmp henv rfl)) ?_
  obtain ⟨y, rfl⟩ : ∃ y, es0 = [y] := List.length_eq_one_iff.1 (by omega)
  obtain rfl : y = x0 := by simpa using hx0
  exact ⟨by simp [jn], hst.below⟩
set_option maxRecDepth 100000 in
set_option maxHeartbeats 4000000 in
theorem join_n {A0 : Option Addr} {n0 c0 : Nat} {es0 : List (List UInt8)} {w0 : World} (h0 : (pfRow fS FTx 1 A0 n0 c0 es0).P w0) (hb : ∀ s ∈ es0, s.length ≤ 1000000) (hn : 2 ≤ n0) (hn2 : n0 ≤ 1000000) :
    Calls Tryd.prog 100 #[.slice A0 n0 c0, .string ⟨#[32]⟩] w0 fun e w' => e = .returned (.string ⟨(jn es0).toArray⟩) ∧ Below w0.heap.size w0 w' := by
  refine enter Tryd.func100 rfl Tryd.ntmps100 rfl ?_
  intro a henv hst
  have hlen0 := h0.2.1
  have hcap0 := h0.1.cap
  obtain ⟨b0, o0, rfl, -, -⟩ := h0.1.cells (by omega)
  have hq := quo_big (n := n0 - 1) (by omega) (by omega)
  replace hst := hst.argRow h0
  obtain ⟨x0, hx0⟩ : ∃ x, es0[0]? = some x := ⟨_, List.getElem?_eq_getElem (by omega)⟩
  have hlx := hb x0 (List.mem_of_getElem? hx0)
  refine wp_seq ?_
  refine region_seq ?_
  refine sv (v := .string ⟨#[]⟩) henv rfl (rn_assign henv rfl) ?_
  clear henv a; intro a henv
  refine wpList_nil ?_
  refine th_n ?_
  refine wp_seq ?_
  refine wp_seq ?_
  refine region_seq ?_
  revert a
  refine mA rfl rfl ?_
  refine sA (v := .int .i64 (n0 : Nat)) rfl (fun _ henv => rn_len henv Tryd.underlying125 rfl) ?_
  intro a henv
  refine wpList_nil ?_
  refine th_n ?_
  refine wp_block ?_
  refine wp_seq ?_
  refine region_seq ?_
  refine sv (v := .bool (((n0 : Nat) : Int) == (0 : Int))) henv rfl (rn_bin henv rfl rfl rfl) ?_
  clear henv a; intro a henv
  rw [show (((n0 : Nat) : Int) == (0 : Int)) = false from (beq_eq_false_iff_ne.2 (by omega))] at henv
  refine sv (v := .bool false) henv rfl (rn_assign henv rfl) ?_
  clear henv a; intro a henv
  refine wpList_nil ?_
  refine th_n ?_
  refine if_f henv rfl (rfl) ?_
  refine wp_seq ?_
  refine region_seq ?_
  refine sv (v := .bool (((n0 : Nat) : Int) == (1 : Int))) henv rfl (rn_bin henv rfl rfl rfl) ?_
  clear henv a; intro a henv
  rw [show (((n0 : Nat) : Int) == (1 : Int)) = false from (beq_eq_false_iff_ne.2 (by omega))] at henv
  refine sv (v := .bool false) henv rfl (rn_assign henv rfl) ?_
  clear henv a; intro a henv
  refine wpList_nil ?_
  refine th_n ?_
  refine if_f henv rfl (rfl) ?_
  refine wp_skip ?_
  refine bl_n (th_n ?_)
  refine wp_seq ?_
  refine region_seq ?_
  refine sv (v := .int .i64 0) henv rfl (rn_assign henv rfl) ?_
  clear henv a; intro a henv
  refine wpList_nil ?_
  refine th_n ?_
  refine wp_seq ?_
  refine wp_seq ?_
  refine region_seq ?_
  revert a
  refine mA rfl rfl ?_
  refine sA (v := .int .i64 1) rfl (fun _ henv => rn_slen (s := ⟨#[32]⟩) henv Tryd.underlying9 rfl) ?_
  refine sA (v := .bool true) rfl (fun _ henv => rn_bin henv rfl rfl rfl) ?_
  intro a henv
  refine wpList_nil ?_
  refine th_n ?_
  refine if_t henv rfl (rfl) ?_
  refine wp_seq ?_
  refine wp_seq ?_
  refine region_seq ?_
  revert a
  refine mA rfl rfl ?_
  refine sA (v := .int .i64 1) rfl (fun _ henv => rn_slen (s := ⟨#[32]⟩) henv Tryd.underlying9 rfl) ?_
  refine mA rfl rfl ?_
  refine sA (v := .int .i64 (n0 : Nat)) rfl (fun _ henv => rn_len henv Tryd.underlying125 rfl) ?_
  refine sA (v := .int .i64 (n0 - 1 : Nat)) rfl (fun _ henv => rn_sub henv rfl rfl (by rw [IntWalk.i64_in _ (by omega)]; omega)) ?_
  refine sA (v := .int .i64 (9223372036854775807 / (n0 - 1) : Nat)) rfl (fun _ henv => rn_quo henv rfl rfl (by omega) (quo_i64 (t := 9223372036854775807) (c := n0 - 1) (by omega))) ?_
  refine sA (v := .bool (decide ((1 : Int) ≥ ((9223372036854775807 / (n0 - 1) : Nat) : Int)))) rfl (fun _ henv => rn_bin henv rfl rfl rfl) ?_
  intro a henv
  rw [show (decide ((1 : Int) ≥ ((9223372036854775807 / (n0 - 1) : Nat) : Int))) = false from decide_eq_false (by omega)] at henv
  refine wpList_nil ?_
  refine th_n ?_
  refine if_f henv rfl (rfl) ?_
  refine wp_skip ?_
  refine th_n ?_
  refine region_seq ?_
  revert a
  refine mA rfl rfl ?_
  refine mA rfl rfl ?_
  refine sA (v := .int .i64 1) rfl (fun _ henv => rn_slen (s := ⟨#[32]⟩) henv Tryd.underlying9 rfl) ?_
  refine mA rfl rfl ?_
  refine sA (v := .int .i64 (n0 : Nat)) rfl (fun _ henv => rn_len henv Tryd.underlying125 rfl) ?_
  refine sA (v := .int .i64 (n0 - 1 : Nat)) rfl (fun _ henv => rn_sub henv rfl rfl (by rw [IntWalk.i64_in _ (by omega)]; omega)) ?_
  refine sA (v := .int .i64 (1 * (n0 - 1) : Nat)) rfl (fun _ henv => rn_mul henv rfl rfl (by rw [IntWalk.i64_in _ (by omega)]; omega)) ?_
  refine sA (v := .int .i64 (0 + (1 * (n0 - 1)) : Nat)) rfl (fun _ henv => rn_add henv rfl rfl (by rw [IntWalk.i64_in _ (by omega)]; omega)) ?_
  refine aA rfl rfl ?_
  intro a henv
  refine wpList_nil ?_
  refine th_n ?_
  refine wp_seq ?_
  refine wp_seq ?_
  refine region_seq ?_
  revert a
  refine mA rfl rfl ?_
  refine sA (v := .int .i64 (n0 : Nat)) rfl (fun _ henv => rn_len henv Tryd.underlying125 rfl) ?_
  refine mA rfl rfl ?_
  intro a henv
  refine wpList_nil ?_
  refine th_n ?_
  refine wp_block ?_
  refine wp_loop_ghost (fun mz a w => ∃ j : Nat, ∃ T : Nat, n0 - j = mz ∧ Env 75 a [(0, .slice (some ⟨b0, o0, none⟩) n0 c0), (1, .string ⟨#[32]⟩), (39, .slice (some ⟨b0, o0, none⟩) n0 c0), (40, .int .i64 (n0 : Nat)), (41, .int .i64 (j : Nat)), (5, .int .i64 (T : Nat))] ∧ St w0 w [] [pfRow fS FTx 1 (some ⟨b0, o0, none⟩) n0 c0 es0] ∧ j ≤ n0 ∧ T ≤ n0 + j * 1000000) _ ⟨0, 0 + (1 * (n0 - 1)), rfl, henv.sub ⟨rfl, rfl, rfl, rfl, rfl, rfl, trivial⟩, hst.pick [] [0] (by decide), (Nat.zero_le _), (by omega)⟩ ?_
  clear henv hst a
  rintro mz a w1 ⟨j, T, rfl, henv, hst, hj, hT⟩
  refine wp_seq ?_
  refine region_seq ?_
  refine sv (v := .bool (decide (((j : Nat) : Int) < ((n0 : Nat) : Int)))) henv rfl (rn_bin henv rfl rfl rfl) ?_
  clear henv a; intro a henv
  refine wpList_nil ?_
  refine th_n ?_
  refine wp_seq ?_
  refine if_split henv rfl (fun hc2 => ?_) (fun hc2 => ?_)
  · have hlt : j < n0 := by have := of_decide_eq_true hc2; omega
    obtain ⟨x, hx⟩ : ∃ x, es0[j]? = some x := ⟨_, List.getElem?_eq_getElem (by omega)⟩
    have hl2 := hb x (List.mem_of_getElem? hx)
    refine wp_skip ?_
    refine th_n ?_
    refine wp_seq ?_
    refine wp_block ?_
    refine wp_seq ?_
    refine region_seq ?_
    revert a
    refine sA (v := .pointer (some ⟨ab (some ⟨b0, o0, none⟩), ao (some ⟨b0, o0, none⟩) + j * 1, none⟩)) rfl (fun _ henv => rn_idxR (i := j) henv Tryd.underlying125 (ty_string.size) rfl rfl (by omega) rfl (show (pfRow fS FTx 1 (some ⟨b0, o0, none⟩) n0 c0 es0).P _ from (hst.pat (k := 0) rfl)).1) ?_
    refine sA (v := .string ⟨x.toArray⟩) rfl (fun _ henv => rn_loadE1 (i := j) (j := 0) (e := x) henv ty_string rfl rfl fS_len (by decide) (show (pfRow fS FTx 1 (some ⟨b0, o0, none⟩) n0 c0 es0).P _ from (hst.pat (k := 0) rfl)).1 (by omega) hx rfl) ?_
    refine aA rfl rfl ?_
    intro a henv
    refine wpList_nil ?_
    refine th_n ?_
    refine wp_seq ?_
    refine wp_seq ?_
    refine region_seq ?_
    revert a
    refine mA rfl rfl ?_
    refine sA (v := .int .i64 (x.length : Nat)) rfl (fun _ henv => rn_lenS henv Tryd.underlying9 rfl) ?_
    refine mA rfl rfl ?_
    refine sA (v := .int .i64 (9223372036854775807 - T : Nat)) rfl (fun _ henv => rn_sub henv rfl rfl (by rw [IntWalk.i64_in _ (by omega)]; omega)) ?_
    refine sA (v := .bool (decide (((x.length : Nat) : Int) > ((9223372036854775807 - T : Nat) : Int)))) rfl (fun _ henv => rn_bin henv rfl rfl rfl) ?_
    intro a henv
    rw [show (decide (((x.length : Nat) : Int) > ((9223372036854775807 - T : Nat) : Int))) = false from decide_eq_false (by omega)] at henv
    refine wpList_nil ?_
    refine th_n ?_
    refine if_f henv rfl (rfl) ?_
    refine wp_skip ?_
    refine th_n ?_
    refine region_seq ?_
    revert a
    refine mA rfl rfl ?_
    refine mA rfl rfl ?_
    refine sA (v := .int .i64 (x.length : Nat)) rfl (fun _ henv => rn_lenS henv Tryd.underlying9 rfl) ?_
    refine sA (v := .int .i64 (T + x.length : Nat)) rfl (fun _ henv => rn_add henv rfl rfl (by rw [IntWalk.i64_in _ (by omega)]; omega)) ?_
    refine aA rfl rfl ?_
    intro a henv
    refine wpList_nil ?_
    refine bl_n (th_n ?_)
    refine region_seq ?_
    revert a
    refine sA (v := .int .i64 (j + 1 : Nat)) rfl (fun _ henv => rn_add henv rfl rfl (by rw [IntWalk.i64_in _ (by omega)]; omega)) ?_
    refine mA rfl rfl ?_
    intro a henv
    refine wpList_nil ?_
    exact th_n ⟨_, (by omega), ⟨j + 1, T + x.length, rfl, henv.sub ⟨rfl, rfl, rfl, rfl, rfl, rfl, trivial⟩, hst.pick [] [0] (by decide), (by omega), (by omega)⟩⟩
  · have hjn : j = n0 := by have := of_decide_eq_false hc2; omega
    refine wp_exit ?_
    refine th_x (th_x (bl_x (th_n ?_)))
    refine wp_seq ?_
    refine region_seq ?_
    refine seq_step rfl (op_alloc (c := #[.pointer none, .slice none 0 0]) henv hst rfl zero_strings_Builder rfl ?_)
    clear henv hst a; intro a w4 g3 henv hst
    refine wpList_nil ?_
    refine th_n ?_
    refine wp_seq ?_
    refine region_seq ?_
    refine sv (v := .int .i64 (T : Nat)) henv rfl (rn_move henv rfl) ?_
    clear henv a; intro a henv
    replace hst := hst.bld (k := 0) rfl
    refine seq_step rfl (op_growB (k := 0) (n := T) henv hst rfl rfl rfl rfl (by omega) ?_)
    clear henv hst a; intro a w5 v6 henv hst
    replace hst : St w0 w5 [bldF g3 v6 ([] : List UInt8).length (byteCells ([] : List UInt8))] [pfRow fS FTx 1 (some ⟨b0, o0, none⟩) n0 c0 es0] := hst
    refine wpList_nil ?_
    refine th_n ?_
    refine wp_seq ?_
    refine region_seq ?_
    revert a
    refine mA rfl rfl ?_
    refine sA (v := .pointer (some ⟨ab (some ⟨b0, o0, none⟩), ao (some ⟨b0, o0, none⟩) + 0 * 1, none⟩)) rfl (fun _ henv => rn_idxR (i := 0) henv Tryd.underlying125 (ty_string.size) rfl rfl (by omega) rfl (show (pfRow fS FTx 1 (some ⟨b0, o0, none⟩) n0 c0 es0).P _ from (hst.pat (k := 0) rfl)).1) ?_
    refine sA (v := .string ⟨x0.toArray⟩) rfl (fun _ henv => rn_loadE1 (i := 0) (j := 0) (e := x0) henv ty_string rfl rfl fS_len (by decide) (show (pfRow fS FTx 1 (some ⟨b0, o0, none⟩) n0 c0 es0).P _ from (hst.pat (k := 0) rfl)).1 (by omega) hx0 rfl) ?_
    intro a henv
    refine seq_step rfl (op_write (s := ⟨(x0 : List UInt8).toArray⟩) (k := 0) henv hst rfl rfl rfl rfl (by rw [ba_size]; simp only [List.length_append, List.length_cons, List.length_nil]; omega) ?_)
    clear henv hst a; intro a w7 v8 henv hst
    rw [ba_size, byteCells_app, ← List.length_append] at hst
    rw [List.nil_append] at hst
    refine wpList_nil ?_
    refine th_n ?_
    refine wp_seq ?_
    refine wp_seq ?_
    refine region_seq ?_
    revert a
    refine mA rfl rfl ?_
    refine sA (v := .slice (some ⟨b0, o0 + 1, none⟩) (n0 - 1) (c0 - 1)) rfl (fun _ henv => rn_sliceFrom (m := 1) henv Tryd.underlying125 (ty_string.size) rfl rfl (by omega) (by omega)) ?_
    refine sA (v := .int .i64 ((n0 - 1) : Nat)) rfl (fun _ henv => rn_len henv Tryd.underlying125 rfl) ?_
    refine mA rfl rfl ?_
    intro a henv
    refine wpList_nil ?_
    refine th_n ?_
    refine wp_block ?_
    replace hst := hst.dropRow (i := 0) rfl 1 fS_len (by omega)
    have hlend : (es0.drop 1).length = n0 - 1 := by rw [List.length_drop, hlen0]
    replace hst : St w0 w7 [bldF g3 v8 (jt x0 (es0.drop 1) 0).length (byteCells (jt x0 (es0.drop 1) 0))] [pfRow fS FTx 1 (some ⟨b0, o0 + 1, none⟩) (n0 - 1) (c0 - 1) (es0.drop 1)] := by rw [jt_zero]; exact hst.pick [0] [0] (by decide)
    refine wp_loop_ghost (fun mz a w => ∃ k : Nat, ∃ vb : Value, n0 - 1 - k = mz ∧ Env 75 a [(8, .pointer (some ⟨g3, 0, none⟩)), (1, .string ⟨#[32]⟩), (63, .slice (some ⟨b0, o0 + 1, none⟩) (n0 - 1) (c0 - 1)), (64, .int .i64 (n0 - 1 : Nat)), (65, .int .i64 (k : Nat))] ∧ St w0 w [bldF g3 vb (jt x0 (es0.drop 1) k).length (byteCells (jt x0 (es0.drop 1) k))] [pfRow fS FTx 1 (some ⟨b0, o0 + 1, none⟩) (n0 - 1) (c0 - 1) (es0.drop 1)] ∧ k ≤ n0 - 1 ∧ (jt x0 (es0.drop 1) k).length ≤ (k + 1) * 1000001) _ ⟨0, v8, rfl, henv.sub ⟨rfl, rfl, rfl, rfl, rfl, trivial⟩, hst.pick [0] [0] (by decide), (Nat.zero_le _), (by rw [jt_zero]; omega)⟩ ?_
    clear henv hst a
    rintro mz a w9 ⟨k, vb, rfl, henv, hst, hk, hX⟩
    refine wp_seq ?_
    refine region_seq ?_
    refine sv (v := .bool (decide (((k : Nat) : Int) < ((n0 - 1 : Nat) : Int)))) henv rfl (rn_bin henv rfl rfl rfl) ?_
    clear henv a; intro a henv
    refine wpList_nil ?_
    refine th_n ?_
    refine wp_seq ?_
    refine if_split henv rfl (fun hc10 => ?_) (fun hc10 => ?_)
    · have hlt : k < n0 - 1 := by have := of_decide_eq_true hc10; omega
      obtain ⟨t, ht⟩ : ∃ t, (es0.drop 1)[k]? = some t := ⟨_, List.getElem?_eq_getElem (by omega)⟩
      have hlt2 := hb t (List.mem_of_mem_drop (List.mem_of_getElem? ht))
      refine wp_skip ?_
      refine th_n ?_
      refine wp_seq ?_
      refine wp_block ?_
      refine wp_seq ?_
      refine region_seq ?_
      revert a
      refine sA (v := .pointer (some ⟨ab (some ⟨b0, o0 + 1, none⟩), ao (some ⟨b0, o0 + 1, none⟩) + k * 1, none⟩)) rfl (fun _ henv => rn_idxR (i := k) henv Tryd.underlying125 (ty_string.size) rfl rfl (by omega) rfl (show (pfRow fS FTx 1 (some ⟨b0, o0 + 1, none⟩) (n0 - 1) (c0 - 1) (es0.drop 1)).P _ from (hst.pat (k := 0) rfl)).1) ?_
      refine sA (v := .string ⟨t.toArray⟩) rfl (fun _ henv => rn_loadE1 (i := k) (j := 0) (e := t) henv ty_string rfl rfl fS_len (by decide) (show (pfRow fS FTx 1 (some ⟨b0, o0 + 1, none⟩) (n0 - 1) (c0 - 1) (es0.drop 1)).P _ from (hst.pat (k := 0) rfl)).1 (by omega) ht rfl) ?_
      refine aA rfl rfl ?_
      intro a henv
      refine wpList_nil ?_
      refine th_n ?_
      refine wp_seq ?_
      refine region_seq ?_
      refine sv (v := .string ⟨#[32]⟩) henv rfl (rn_move henv rfl) ?_
      clear henv a; intro a henv
      refine seq_step rfl (op_write (s := ⟨([32] : List UInt8).toArray⟩) (k := 0) henv hst rfl rfl rfl rfl (by rw [ba_size]; simp only [List.length_append, List.length_cons, List.length_nil]; omega) ?_)
      clear henv hst a; intro a w11 v12 henv hst
      rw [ba_size, byteCells_app, ← List.length_append] at hst
      refine wpList_nil ?_
      refine th_n ?_
      refine region_seq ?_
      refine sv (v := .string ⟨t.toArray⟩) henv rfl (rn_move henv rfl) ?_
      clear henv a; intro a henv
      refine seq_step rfl (op_write (s := ⟨(t : List UInt8).toArray⟩) (k := 0) henv hst rfl rfl rfl rfl (by rw [ba_size]; simp only [List.length_append, List.length_cons, List.length_nil]; omega) ?_)
      clear henv hst a; intro a w13 v14 henv hst
      rw [ba_size, byteCells_app, ← List.length_append] at hst
      refine wpList_nil ?_
      refine bl_n (th_n ?_)
      refine region_seq ?_
      revert a
      refine sA (v := .int .i64 (k + 1 : Nat)) rfl (fun _ henv => rn_add henv rfl rfl (by rw [IntWalk.i64_in _ (by omega)]; omega)) ?_
      refine mA rfl rfl ?_
      intro a henv
      refine wpList_nil ?_
      rw [show (jt x0 (es0.drop 1) k ++ [32]) ++ t = jt x0 (es0.drop 1) (k + 1) by rw [jt_step ht]; simp] at hst
      exact th_n ⟨_, (by omega), ⟨k + 1, v14, rfl, henv.sub ⟨rfl, rfl, rfl, rfl, rfl, trivial⟩, hst.pick [0] [0] (by decide), (by omega), (by rw [jt_step ht, List.length_append, List.length_cons]; omega)⟩⟩
    · obtain rfl : k = n0 - 1 := by have := of_decide_eq_false hc10; omega
      refine wp_exit ?_
      refine th_x (th_x (bl_x (th_n ?_)))
      refine wp_seq ?_
      refine region_seq ?_
      refine seq_step rfl (op_bstr (k := 0) henv hst rfl rfl rfl ?_)
      clear henv hst a; intro a w15 henv hst
      refine sv (v := .string ⟨(jt x0 (es0.drop 1) (n0 - 1)).toArray⟩) henv rfl (rn_assign henv rfl) ?_
      clear henv a; intro a henv
      refine wpList_nil ?_
      refine th_n ?_
      refine wp_ret ?_
      refine leave henv (res1 Tryd.results100 (RV.tmp henv rfl)) ?_
      exact ⟨by rw [jn_all hx0 (by omega)], hst.below⟩
theorem str_join {A0 : Option Addr} {n0 c0 : Nat} {es0 : List (List UInt8)} {w0 : World} (h0 : (pfRow fS FTx 1 A0 n0 c0 es0).P w0) (hb : ∀ s ∈ es0, s.length ≤ 1000000) (hn : n0 ≤ 1000000) :
    Calls Tryd.prog 100 #[.slice A0 n0 c0, .string ⟨#[32]⟩] w0 fun e w' => e = .returned (.string ⟨(jn es0).toArray⟩) ∧ Below w0.heap.size w0 w' := by
  rcases (show n0 = 0 ∨ n0 = 1 ∨ 2 ≤ n0 by omega) with h | h | h
  · exact join_0 h0 hb h
  · exact join_1 h0 hb h
  · exact join_n h0 hb h hn
set_option maxRecDepth 100000 in
set_option maxHeartbeats 2000000 in
theorem row_text {A0 : Option Addr} {n0 c0 : Nat} {es0 : List NE} {w0 : World} (h0 : (pfRow fN FN 2 A0 n0 c0 es0).P w0) (hz : ZB 90000 es0) (hn : n0 ≤ 1000000) :
    Calls Tryd.prog 79 #[.slice A0 n0 c0] w0 fun e w' => e = .returned (.string ⟨(textRow (es0.map zz)).toArray⟩) ∧ Below w0.heap.size w0 w' := by
  refine enter Tryd.func79 rfl Tryd.ntmps79 rfl ?_
  intro a henv hst
  have hlen0 := h0.2.1
  have hbig0 := Nat.le_trans h0.1.cap h0.1.big
  unfold maxLen at hbig0
  replace hst := hst.argRow h0
  clear h0
  refine wp_seq ?_
  refine region_seq ?_
  refine sv (v := .string ⟨#[]⟩) henv rfl (rn_assign henv rfl) ?_
  clear henv a; intro a henv
  refine wpList_nil ?_
  refine th_n ?_
  refine wp_seq ?_
  refine region_seq ?_
  refine sv (v := .slice none 0 0) henv rfl (rn_assign henv rfl) ?_
  clear henv a; intro a henv
  refine wpList_nil ?_
  refine th_n ?_
  refine wp_seq ?_
  refine wp_seq ?_
  refine region_seq ?_
  revert a
  refine mA rfl rfl ?_
  refine sA (v := .int .i64 (n0 : Nat)) rfl (fun _ henv => rn_len henv Tryd.underlying32 rfl) ?_
  refine mA rfl rfl ?_
  intro a henv
  refine wpList_nil ?_
  refine th_n ?_
  refine wp_block ?_
  replace hst := hst.addRowS notU 9 1
  replace hst : St w0 _ [rowS notU 9 1 none 0 0 (fl fS ([]))] [pfRow fN FN 2 A0 n0 c0 es0] := hst
  refine wp_loop_ghost (fun mz a w => ∃ j : Nat, ∃ B : Option Addr, ∃ d : Nat, ∃ os : List (List UInt8), n0 - j = mz ∧ Env 22 a [(6, .slice A0 n0 c0), (7, .int .i64 (n0 : Nat)), (8, .int .i64 (j : Nat)), (3, .slice B j d)] ∧ St w0 w [rowS notU 9 1 B j d (fl fS os)] [pfRow fN FN 2 A0 n0 c0 es0] ∧ j ≤ n0 ∧ os = ((es0.map zz).take j).map textZ) _ ⟨0, none, 0, [], rfl, henv.sub ⟨rfl, rfl, rfl, rfl, trivial⟩, hst.pick [0] [0] (by decide), (Nat.zero_le _), rfl⟩ ?_
  clear henv hst a
  rintro mz a w1 ⟨j, B, d, os, rfl, henv, hst, hj, ho⟩
  refine wp_seq ?_
  refine region_seq ?_
  refine sv (v := .bool (decide (((j : Nat) : Int) < ((n0 : Nat) : Int)))) henv rfl (rn_bin henv rfl rfl rfl) ?_
  clear henv a; intro a henv
  refine wpList_nil ?_
  refine th_n ?_
  refine wp_seq ?_
  refine if_split henv rfl (fun hc2 => ?_) (fun hc2 => ?_)
  · have hlt : j < n0 := by have := of_decide_eq_true hc2; omega
    obtain ⟨⟨A, c, z⟩, he0⟩ : ∃ e, es0[j]? = some e := ⟨_, List.getElem?_eq_getElem (by omega)⟩
    replace hst := hst.elem (k := 0) rfl he0
    replace hst : St w0 _ [rowS notU 9 1 B j d (fl fS os)] [pfZ A c z, pfRow fN FN 2 A0 n0 c0 es0] := hst
    have hzb := hz.at he0
    refine wp_skip ?_
    refine th_n ?_
    refine wp_seq ?_
    refine wp_block ?_
    refine wp_seq ?_
    refine region_seq ?_
    revert a
    refine sA (v := .pointer (some ⟨ab A0, ao A0 + j * 2, none⟩)) rfl (fun _ henv => rn_idxR (i := j) henv Tryd.underlying32 (ty_anvil_integer_Int.size) rfl rfl (by omega) rfl (show (pfRow fN FN 2 A0 n0 c0 es0).P _ from (hst.pat (k := 1) rfl)).1) ?_
    refine sA (v := .agg #[.bool (neg z), .slice A (zl z) c]) rfl (fun _ henv => rn_loadE (i := j) (e := (A, c, z)) henv ty_anvil_integer_Int rfl rfl fN_len (show (pfRow fN FN 2 A0 n0 c0 es0).P _ from (hst.pat (k := 1) rfl)).1 (by omega) he0 rfl) ?_
    intro a henv
    refine seq_step rfl (op_alloc (c := #[.bool (neg 0), .slice none (zl 0) 0]) henv hst rfl zero_anvil_integer_Int zcells ?_)
    clear henv hst a; intro a w4 g3 henv hst
    refine seq_step rfl (op_store (k := 0) (c' := #[.bool (neg z), .slice A (zl z) c]) henv hst (ty_anvil_integer_Int.size) rfl rfl rfl rfl (by simp) rfl rfl ?_)
    clear henv hst a; intro a w5 henv hst
    refine wpList_nil ?_
    refine th_n ?_
    refine region_seq ?_
    revert a
    refine mA rfl rfl ?_
    refine sA (v := .agg #[.bool (neg z), .slice A (zl z) c]) rfl (fun _ henv => rn_load0 henv ty_anvil_integer_Int rfl (hst.oat (k := 0) rfl) rfl) ?_
    intro a henv
    refine seq_step rfl (op_call henv rfl Tryd.call15 rfl (text_z (z := z) (show ZIn _ A c z from hst.pat (k := 0) rfl) (by omega)) ?_)
    rintro e w6 ⟨rfl, hb⟩
    refine ⟨_, rfl, ?_⟩
    clear henv a; intro a henv
    replace hst := hst.call hb
    clear hb
    refine seq_step rfl (op_buildSlice (z := 1) (pv := #[(0, .string ⟨(textZ z).toArray⟩)]) (c := #[.string ⟨(textZ z).toArray⟩]) henv hst rfl Tryd.underlying125 (ty_string.size) zero_string (by decide) (by decide) rfl (by kernel_rfl) ?_)
    clear henv hst a; intro a w8 g7 henv hst
    refine seq_step rfl (op_appendS (k := 2) (j := 0) henv hst rfl Tryd.underlying125 inf_string rfl rfl rfl rfl rfl rfl rfl rfl rfl rfl rfl (by unfold maxLen; omega) (by omega) ?_)
    clear henv hst a; intro a w11 g9 c10 henv hst
    rw [show fl fS os ++ (#[.string ⟨(textZ z).toArray⟩] : Array Value).toList = fl fS (os ++ [(textZ z)]) from fl_snoc (f := fS) os (textZ z)] at hst
    refine sv (v := .slice (some ⟨g9, 0, none⟩) (j + 1) c10) henv rfl (rn_assign henv rfl) ?_
    clear henv a; intro a henv
    refine wpList_nil ?_
    refine bl_n (th_n ?_)
    refine region_seq ?_
    revert a
    refine sA (v := .int .i64 (j + 1 : Nat)) rfl (fun _ henv => rn_add henv rfl rfl (by rw [IntWalk.i64_in _ (by omega)]; omega)) ?_
    refine mA rfl rfl ?_
    intro a henv
    refine wpList_nil ?_
    exact th_n ⟨_, (by omega), ⟨j + 1, (some ⟨g9, 0, none⟩), c10, (os ++ [(textZ z)]), rfl, henv.sub ⟨rfl, rfl, rfl, rfl, trivial⟩, hst.pick [2] [1] (by decide), (by omega), (step_txt ho he0)⟩⟩
  · obtain rfl : j = n0 := by have := of_decide_eq_false hc2; omega
    refine wp_exit ?_
    refine th_x (th_x (bl_x (th_n ?_)))
    refine wp_seq ?_
    refine region_seq ?_
    refine sv (v := .slice B j d) henv rfl (rn_move henv rfl) ?_
    clear henv a; intro a henv
    have hol : os.length = j := by rw [ho, List.length_map, List.length_take, List.length_map]; omega
    have hob : ∀ s ∈ os, s.length ≤ 1000000 := by rw [ho]; exact txt_bd hz
    have hjl := jn_len hob
    replace hst := (hst.addT0s FTx (fun _ => rfl) os).giveRow (k := 0) (j := 0) rfl rfl hol
    refine seq_step rfl (op_call henv rfl Tryd.call100 rfl (str_join (hst.pat (k := 0) rfl) hob (by omega)) ?_)
    rintro e w12 ⟨rfl, hb⟩
    refine ⟨_, rfl, ?_⟩
    clear henv a; intro a henv
    replace hst := hst.call hb
    clear hb
    revert a
    refine sA (v := .string ⟨(([91]) ++ (jn os)).toArray⟩) rfl (fun _ henv => rn_catS (s := [91]) (t := (jn os)) henv rfl rfl (by simp only [List.length_append, List.length_cons, List.length_nil]; omega)) ?_
    refine sA (v := .string ⟨((([91]) ++ (jn os)) ++ ([93])).toArray⟩) rfl (fun _ henv => rn_catS (s := (([91]) ++ (jn os))) (t := [93]) henv rfl rfl (by simp only [List.length_append, List.length_cons, List.length_nil]; omega)) ?_
    refine aA rfl rfl ?_
    intro a henv
    refine wpList_nil ?_
    refine th_n ?_
    refine wp_ret ?_
    refine leave henv (res1 Tryd.results79 (RV.tmp henv rfl)) ?_
    exact ⟨by rw [ho, List.take_of_length_le (by rw [List.length_map]; omega)]; simp [textRow], hst.below⟩
end Go.Proofs.YtghaenkacjgdnaaDoor.W

/- row.Zero, Unit, IsZero; the laws' live; RowMakes. Printed by pv/gen_row2.py. No condition. -/
namespace Go.Proofs.YtghaenkacjgdnaaDoor.W
open Go.RowKit Anv Go.Lib
theorem fN_zero : fN (none, 0, 0) = (Value.agg #[.bool false, .slice none 0 0]).cells.toList := by
  show [Value.bool (neg 0), Value.slice none (zl 0) 0] = _
  rw [neg_zero, zl_zero]; rfl
theorem es_zeros (n : Nat) (w : World) : (pfEs FN (List.replicate n (none, 0, 0))).P w := fun e he => by
  rw [List.eq_of_mem_replicate he]
  exact zin_none w
def allz (es : List NE) : Bool := es.all fun e => decide (zz e = 0)
end Go.Proofs.YtghaenkacjgdnaaDoor.W

/- RowMakes: the law's walk. Printed by pv/gen_row3.py. No condition. -/
namespace Go.Proofs.YtghaenkacjgdnaaDoor.W
open Go.RowKit Anv Go.Lib
end Go.Proofs.YtghaenkacjgdnaaDoor.W

/- Plain laws of the texts of rows: what a text is read as, or where it goes wrong. No program. No condition. -/
namespace Go.Proofs.YtghaenkacjgdnaaDoor.W
open Anv
def stp (c : UInt8) : Prop := c.toNat = 32 ∨ c.toNat = 93
def ndg (c : UInt8) : Prop := c.toNat = 45 ∨ (48 ≤ c.toNat ∧ c.toNat ≤ 57)
def Rz (t : List UInt8) (z : Int) : Prop := (∃ d, t = 45 :: d ∧ Ok 1 d ∧ z = sg true (numOf d)) ∨ ((t.getD 0 0).toNat ≠ 45 ∧ Ok 0 t ∧ z = sg false (numOf t))
def Rb (t : List UInt8) (b : Nat) : Prop := (∃ d b', t = 45 :: d ∧ Fb 1 d b' ∧ b = b' + 1) ∨ ((t.getD 0 0).toNat ≠ 45 ∧ Fb 0 t b)
theorem word_cases (t : List UInt8) : (∃ z, Rz t z) ∨ ∃ b, Rb t b := by
  rcases sign_cases t with h | ⟨d, rfl⟩
  · rcases read_cases 0 t with ⟨b, hb⟩ | ho
    · exact .inr ⟨b, .inr ⟨h, hb⟩⟩
    · exact .inl ⟨_, .inr ⟨h, ho, rfl⟩⟩
  · rcases read_cases 1 d with ⟨b, hb⟩ | ho
    · exact .inr ⟨b + 1, .inl ⟨d, b, rfl, hb, rfl⟩⟩
    · exact .inl ⟨_, .inl ⟨d, rfl, ho, rfl⟩⟩
theorem ok_not_fb {f b : Nat} {d : List UInt8} (h : Ok f d) (k : Fb f d b) : False := by
  rcases k.1 with ⟨h1, h2⟩ | ⟨_, h2⟩
  · exact h.2 b h1 h2
  · have := h.1; omega
theorem fb_eq {f b c : Nat} {d : List UInt8} (h : Fb f d b) (k : Fb f d c) : b = c := by
  rcases Nat.lt_trichotomy b c with hlt | e | hlt
  · rcases h.1 with ⟨_, h2⟩ | ⟨_, h2⟩
    · exact absurd h2 (k.2 b hlt)
    · rcases k.1 with ⟨h3, _⟩ | ⟨h3, _⟩ <;> omega
  · exact e
  · rcases k.1 with ⟨_, h2⟩ | ⟨_, h2⟩
    · exact absurd h2 (h.2 c hlt)
    · rcases h.1 with ⟨h3, _⟩ | ⟨h3, _⟩ <;> omega
theorem head45 {t d : List UInt8} (h : t = 45 :: d) (k : (t.getD 0 0).toNat ≠ 45) : False := k (by rw [h]; rfl)
theorem rz_not_rb {t : List UInt8} {z : Int} {b : Nat} (h : Rz t z) (k : Rb t b) : False := by
  rcases h with ⟨d, h1, h2, _⟩ | ⟨h1, h2, _⟩ <;> rcases k with ⟨e, b', k1, k2, _⟩ | ⟨k1, k2⟩
  · rw [h1] at k1; cases k1; exact ok_not_fb h2 k2
  · exact head45 h1 k1
  · exact head45 k1 h1
  · exact ok_not_fb h2 k2
theorem rz_eq {t : List UInt8} {z y : Int} (h : Rz t z) (k : Rz t y) : z = y := by
  rcases h with ⟨d, h1, _, h3⟩ | ⟨h1, _, h3⟩ <;> rcases k with ⟨e, k1, _, k3⟩ | ⟨k1, _, k3⟩
  · rw [h1] at k1; cases k1; rw [h3, k3]
  · exact (head45 h1 k1).elim
  · exact (head45 k1 h1).elim
  · rw [h3, k3]
theorem rb_eq {t : List UInt8} {b c : Nat} (h : Rb t b) (k : Rb t c) : b = c := by
  rcases h with ⟨d, b', h1, h2, h3⟩ | ⟨h1, h2⟩ <;> rcases k with ⟨e, c', k1, k2, k3⟩ | ⟨k1, k2⟩
  · rw [h1] at k1; cases k1; rw [h3, k3, fb_eq h2 k2]
  · exact (head45 h1 k1).elim
  · exact (head45 k1 h1).elim
  · exact fb_eq h2 k2
theorem getD_app_lt {l r : List UInt8} {i : Nat} (h : i < l.length) : (l ++ r).getD i 0 = l.getD i 0 := by
  simp only [List.getD_eq_getElem?_getD, List.getElem?_append_left h]
theorem getD_app_at (l : List UInt8) (c : UInt8) (r : List UInt8) : (l ++ c :: r).getD l.length 0 = c := by
  simp [List.getD_eq_getElem?_getD]
theorem badD_app {f b : Nat} {d r : List UInt8} (hb : b < d.length) : BadD f (d ++ r) b ↔ BadD f d b := by
  have h0 : (d ++ r).getD 0 0 = d.getD 0 0 := getD_app_lt (by omega)
  unfold BadD
  rw [getD_app_lt hb, h0]
theorem fb_app {f b : Nat} {d : List UInt8} {c : UInt8} {r : List UInt8} (hc : ¬ ndg c) (h : Fb f d b) : Fb f (d ++ c :: r) b := by
  rcases h.1 with ⟨h1, h2⟩ | ⟨rfl, h2⟩
  · exact ⟨.inl ⟨by rw [List.length_append]; omega, (badD_app h1).2 h2⟩, fun q hq hb => h.2 q hq ((badD_app (by omega)).1 hb)⟩
  · obtain rfl : d = [] := List.eq_nil_of_length_eq_zero h2
    refine ⟨.inl ⟨by simp, .inl ?_⟩, fun q hq => absurd hq (Nat.not_lt_zero _)⟩
    show c.toNat < 48 ∨ 57 < c.toNat
    unfold ndg at hc
    omega
theorem ok_app {f : Nat} {d : List UInt8} {c : UInt8} {r : List UInt8} (hc : ¬ ndg c) (h : Ok f d) : Fb f (d ++ c :: r) d.length := by
  refine ⟨.inl ⟨by rw [List.length_append, List.length_cons]; omega, .inl ?_⟩, fun q hq hb => h.2 q hq ((badD_app hq).1 hb)⟩
  rw [getD_app_at]
  unfold ndg at hc
  omega
theorem rb_app {t : List UInt8} {b : Nat} {c : UInt8} {r : List UInt8} (hc : ¬ ndg c) (h : Rb t b) : Rb (t ++ c :: r) b := by
  rcases h with ⟨d, b', rfl, h2, h3⟩ | ⟨h1, h2⟩
  · exact .inl ⟨d ++ c :: r, b', rfl, fb_app hc h2, h3⟩
  · refine .inr ⟨?_, fb_app hc h2⟩
    cases t with
    | nil => show c.toNat ≠ 45; intro e; exact hc (.inl e)
    | cons x t => exact h1
theorem rz_app {t : List UInt8} {z : Int} {c : UInt8} {r : List UInt8} (hc : ¬ ndg c) (h : Rz t z) : Rb (t ++ c :: r) t.length := by
  rcases h with ⟨d, rfl, h2, _⟩ | ⟨h1, h2, _⟩
  · exact .inl ⟨d ++ c :: r, d.length, rfl, ok_app hc h2, by rw [List.length_cons]⟩
  · refine .inr ⟨?_, ok_app hc h2⟩
    cases t with
    | nil => exact absurd h2.1 (by simp)
    | cons x t => exact h1
def cutw (s : List UInt8) (p q : Nat) : List UInt8 := (s.drop p).take (q - p)
theorem cutw_len {s : List UInt8} {p q : Nat} (h1 : p ≤ q) (h2 : q ≤ s.length) : (cutw s p q).length = q - p := by
  unfold cutw
  rw [List.length_take, List.length_drop]
  omega
theorem cutw_app {s : List UInt8} {p q m : Nat} (h1 : p ≤ q) (h2 : q < m) (h3 : m ≤ s.length) : ∃ r, cutw s p m = cutw s p q ++ s.getD q 0 :: r := by
  refine ⟨(s.drop (q + 1)).take (m - (q + 1)), ?_⟩
  unfold cutw
  rw [show m - p = (q - p) + (m - q) by omega, List.take_add, List.drop_drop, show p + (q - p) = q by omega]
  congr 1
  have hq : q < s.length := by omega
  rw [List.drop_eq_getElem_cons hq, show m - q = (m - (q + 1)) + 1 by omega, List.take_succ_cons]
  congr 1
  simp [List.getD_eq_getElem?_getD, hq]
def Seg (s : List UInt8) (p q : Nat) : Prop := p ≤ q ∧ q ≤ s.length ∧ (∀ i, p ≤ i → i < q → ¬ stp (s.getD i 0)) ∧ (q < s.length → stp (s.getD q 0))
def Sen (s : List UInt8) (p q : Nat) : Prop := p ≤ q ∧ q ≤ s.length ∧ (∀ i, p ≤ i → i < q → ndg (s.getD i 0)) ∧ (q < s.length → ¬ ndg (s.getD q 0))
theorem ndg_not_stp {c : UInt8} (h : ndg c) : ¬ stp c := by unfold ndg at h; unfold stp; omega
theorem seg_eq {s : List UInt8} {p q r : Nat} (h : Seg s p q) (k : Seg s p r) : q = r := by
  rcases Nat.lt_trichotomy q r with hlt | e | hlt
  · exact absurd (h.2.2.2 (by have := k.2.1; omega)) (k.2.2.1 q h.1 hlt)
  · exact e
  · exact absurd (k.2.2.2 (by have := h.2.1; omega)) (h.2.2.1 r k.1 hlt)
theorem seg_ex {s : List UInt8} : ∀ (n p : Nat), s.length - p = n → p ≤ s.length → ∃ q, Seg s p q
  | 0, p, h, hp => ⟨p, Nat.le_refl _, hp, fun i h1 h2 => by omega, fun h1 => by omega⟩
  | n + 1, p, h, hp => by
    by_cases hs : stp (s.getD p 0)
    · exact ⟨p, Nat.le_refl _, hp, fun i h1 h2 => by omega, fun _ => hs⟩
    · obtain ⟨q, h1, h2, h3, h4⟩ := seg_ex (s := s) n (p + 1) (by omega) (by omega)
      refine ⟨q, by omega, h2, fun i hi hq => ?_, h4⟩
      rcases Nat.eq_or_lt_of_le hi with rfl | hi
      · exact hs
      · exact h3 i hi hq
inductive Go (s : List UInt8) : Nat → List Int → List Int ⊕ Nat → Prop
  | bad {p q b : Nat} {zs : List Int} (h : Seg s p q) (hb : Rb (cutw s p q) b) : Go s p zs (.inr (p + b))
  | fin {p : Nat} {zs : List Int} {z : Int} (h : Seg s p s.length) (hz : Rz (cutw s p s.length) z) : Go s p zs (.inr s.length)
  | more {p q : Nat} {zs : List Int} {z : Int} (h : Seg s p q) (hz : Rz (cutw s p q) z) (hc : (s.getD q 0).toNat = 93) (hq : q + 1 < s.length) : Go s p zs (.inr (q + 1))
  | done {p q : Nat} {zs : List Int} {z : Int} (h : Seg s p q) (hz : Rz (cutw s p q) z) (hc : (s.getD q 0).toNat = 93) (hq : q + 1 = s.length) : Go s p zs (.inl (zs ++ [z]))
  | next {p q : Nat} {zs : List Int} {z : Int} {r : List Int ⊕ Nat} (h : Seg s p q) (hz : Rz (cutw s p q) z) (hq : q < s.length) (hc : (s.getD q 0).toNat = 32) (hr : Go s (q + 1) (zs ++ [z]) r) : Go s p zs r
theorem go_det {s : List UInt8} {p : Nat} {zs : List Int} {r : List Int ⊕ Nat} (h : Go s p zs r) : ∀ {r'}, Go s p zs r' → r = r' := by
  induction h with
  | bad h hb =>
    intro r' k
    cases k with
    | bad k kb => obtain rfl := seg_eq h k; rw [rb_eq hb kb]
    | fin k kz => obtain rfl := seg_eq h k; exact (rz_not_rb kz hb).elim
    | more k kz => obtain rfl := seg_eq h k; exact (rz_not_rb kz hb).elim
    | done k kz => obtain rfl := seg_eq h k; exact (rz_not_rb kz hb).elim
    | next k kz => obtain rfl := seg_eq h k; exact (rz_not_rb kz hb).elim
  | fin h hz =>
    intro r' k
    cases k with
    | bad k kb => obtain rfl := seg_eq h k; exact (rz_not_rb hz kb).elim
    | fin k kz => rfl
    | more k kz kc kq => have := seg_eq h k; omega
    | done k kz kc kq => have := seg_eq h k; omega
    | next k kz kq => have := seg_eq h k; omega
  | more h hz hc hq =>
    intro r' k
    cases k with
    | bad k kb => obtain rfl := seg_eq h k; exact (rz_not_rb hz kb).elim
    | fin k kz => have := seg_eq h k; omega
    | more k kz kc kq => obtain rfl := seg_eq h k; rfl
    | done k kz kc kq => have := seg_eq h k; omega
    | next k kz kq kc => obtain rfl := seg_eq h k; omega
  | done h hz hc hq =>
    intro r' k
    cases k with
    | bad k kb => obtain rfl := seg_eq h k; exact (rz_not_rb hz kb).elim
    | fin k kz => have := seg_eq h k; omega
    | more k kz kc kq => have := seg_eq h k; omega
    | done k kz kc kq => obtain rfl := seg_eq h k; rw [rz_eq hz kz]
    | next k kz kq kc => obtain rfl := seg_eq h k; omega
  | next h hz hq hc hr ih =>
    intro r' k
    cases k with
    | bad k kb => obtain rfl := seg_eq h k; exact (rz_not_rb hz kb).elim
    | fin k kz => have := seg_eq h k; omega
    | more k kz kc kq => obtain rfl := seg_eq h k; omega
    | done k kz kc kq => obtain rfl := seg_eq h k; omega
    | next k kz kq kc kr => obtain rfl := seg_eq h k; obtain rfl := rz_eq hz kz; exact ih kr
theorem sen_seg {s : List UInt8} {p q : Nat} (h : Sen s p q) : (Seg s p q) ∨ (q < s.length ∧ ¬ stp (s.getD q 0) ∧ ∃ m, q < m ∧ Seg s p m) := by
  rcases Nat.lt_or_ge q s.length with hlt | hge
  · by_cases hs : stp (s.getD q 0)
    · exact .inl ⟨h.1, h.2.1, fun i h1 h2 => ndg_not_stp (h.2.2.1 i h1 h2), fun _ => hs⟩
    · obtain ⟨m, h1, h2, h3, h4⟩ := seg_ex (s := s) _ q rfl (by omega)
      have hm : q < m := by
        rcases Nat.eq_or_lt_of_le h1 with rfl | h1
        · exact absurd (h4 hlt) hs
        · exact h1
      refine .inr ⟨hlt, hs, m, hm, by have := h.1; omega, h2, fun i hi hq => ?_, h4⟩
      rcases Nat.lt_or_ge i q with h5 | h5
      · exact ndg_not_stp (h.2.2.1 i hi h5)
      · exact h3 i h5 hq
  · exact .inl ⟨h.1, h.2.1, fun i h1 h2 => ndg_not_stp (h.2.2.1 i h1 h2), fun h1 => by omega⟩
theorem go_bad {s : List UInt8} {p q b : Nat} {zs : List Int} (h : Sen s p q) (hb : Rb (cutw s p q) b) : Go s p zs (.inr (p + b)) := by
  rcases sen_seg h with k | ⟨h1, h2, m, h3, k⟩
  · exact .bad k hb
  · obtain ⟨r, hr⟩ := cutw_app h.1 h3 k.2.1
    exact .bad k (by rw [hr]; exact rb_app (h.2.2.2 h1) hb)
theorem go_odd {s : List UInt8} {p q : Nat} {z : Int} {zs : List Int} (h : Sen s p q) (hz : Rz (cutw s p q) z) (hq : q < s.length) (hc : ¬ stp (s.getD q 0)) : Go s p zs (.inr q) := by
  rcases sen_seg h with k | ⟨h1, h2, m, h3, k⟩
  · exact absurd (k.2.2.2 hq) hc
  · obtain ⟨r, hr⟩ := cutw_app h.1 h3 k.2.1
    have h5 := rz_app (r := r) (h.2.2.2 h1) hz
    rw [← hr, cutw_len h.1 h.2.1] at h5
    have h6 := Go.bad (zs := zs) k h5
    rwa [show p + (q - p) = q by have := h.1; omega] at h6
theorem sen_stp {s : List UInt8} {p q : Nat} (h : Sen s p q) (hc : q < s.length → stp (s.getD q 0)) : Seg s p q := ⟨h.1, h.2.1, fun i h1 h2 => ndg_not_stp (h.2.2.1 i h1 h2), hc⟩
inductive Rd0 (s : List UInt8) : List Int ⊕ Nat → Prop
  | no (h : s = [] ∨ (s.getD 0 0).toNat ≠ 91) : Rd0 s (.inr 0)
  | void (h : (s.getD 0 0).toNat = 91) (h1 : (s.getD 1 0).toNat = 93) (h2 : s.length = 2) : Rd0 s (.inl [])
  | tail (h : (s.getD 0 0).toNat = 91) (h1 : (s.getD 1 0).toNat = 93) (h2 : 2 < s.length) : Rd0 s (.inr 2)
  | go (h : (s.getD 0 0).toNat = 91) (h0 : s ≠ []) (h1 : ¬ (1 < s.length ∧ (s.getD 1 0).toNat = 93)) {r : List Int ⊕ Nat} (hr : Go s 1 [] r) : Rd0 s r
theorem getD1_len {s : List UInt8} (h : (s.getD 1 0).toNat = 93) : 1 < s.length := by
  rcases Nat.lt_or_ge 1 s.length with h1 | h1
  · exact h1
  · rw [List.getD_eq_getElem?_getD, List.getElem?_eq_none h1] at h
    exact absurd h (by decide)
theorem rd0_det {s : List UInt8} {r r' : List Int ⊕ Nat} (h : Rd0 s r) (k : Rd0 s r') : r = r' := by
  cases h with
  | no h =>
    cases k with
    | no k => rfl
    | void k => rcases h with rfl | h; exact absurd k (by decide); exact absurd k h
    | tail k => rcases h with rfl | h; exact absurd k (by decide); exact absurd k h
    | go k => rcases h with rfl | h; exact absurd k (by decide); exact absurd k h
  | void h h1 h2 =>
    cases k with
    | no k => rcases k with rfl | k; exact absurd h (by decide); exact absurd h k
    | void => rfl
    | tail _ _ k2 => omega
    | go _ _ k1 => exact absurd ⟨by omega, h1⟩ k1
  | tail h h1 h2 =>
    cases k with
    | no k => rcases k with rfl | k; exact absurd h (by decide); exact absurd h k
    | void _ _ k2 => omega
    | tail => rfl
    | go _ _ k1 => exact absurd ⟨by omega, h1⟩ k1
  | go h h0 h1 hr =>
    cases k with
    | no k => rcases k with rfl | k; exact absurd rfl h0; exact absurd h k
    | void _ k1 => exact absurd ⟨getD1_len k1, k1⟩ h1
    | tail _ k1 => exact absurd ⟨getD1_len k1, k1⟩ h1
    | go _ _ _ kr => exact go_det hr kr
end Go.Proofs.YtghaenkacjgdnaaDoor.W

/- Texts of rows: told and read back; the readers of words, by what the plain laws say of a word. No condition. -/
namespace Go.Proofs.YtghaenkacjgdnaaDoor.W
open Go.RowKit Anv Go.Lib
theorem rz_text (z : Int) : Rz (textZ z) z := by
  rcases textZ_cases z with ⟨_, h0, ht, hs⟩ | ⟨_, ht, hs⟩
  · exact .inl ⟨_, ht, ok_textN _ 1 fun _ => h0, by rw [numOf_textN, hs]⟩
  · have h2 := ok_textN z.natAbs 0 (fun e => by cases e)
    have h3 := ok_first h2
    refine .inr ⟨by rw [ht]; omega, by rw [ht]; exact h2, by rw [ht, numOf_textN, hs]⟩
theorem rz_back {t : List UInt8} {z : Int} (h : Rz t z) : textZ z = t := by
  rcases h with ⟨d, rfl, h2, rfl⟩ | ⟨_, h2, rfl⟩
  · exact textZ_back1 h2
  · exact textZ_back0 h2
theorem rz_zl {t : List UInt8} {z : Int} (h : Rz t z) : zl z ≤ t.length + 1 := by
  rcases h with ⟨d, rfl, h2, rfl⟩ | ⟨_, h2, rfl⟩
  · have := zl_num1 (digits_of h2.ok); rw [List.length_cons]; omega
  · exact zl_num0 (digits_of h2.ok)
theorem rz_pos {t : List UInt8} {z : Int} (h : Rz t z) : 0 < t.length := by
  rcases h with ⟨d, rfl, h2, _⟩ | ⟨_, h2, _⟩
  · simp
  · exact h2.1
theorem jn_cons2 (t u : List UInt8) (l : List (List UInt8)) : jn (t :: u :: l) = t ++ 32 :: jn (u :: l) := by simp [jn]
theorem drop_cut {s : List UInt8} {p q : Nat} (h1 : p ≤ q) (h2 : q < s.length) : s.drop p = cutw s p q ++ s.getD q 0 :: s.drop (q + 1) := by
  unfold cutw
  have e : s.drop p = (s.drop p).take (q - p) ++ (s.drop p).drop (q - p) := (List.take_append_drop ..).symm
  rw [List.drop_drop, show p + (q - p) = q by omega, List.drop_eq_getElem_cons h2] at e
  rw [show s.getD q 0 = s[q] by simp [List.getD_eq_getElem?_getD, h2]]
  exact e
theorem byte_eq {c : UInt8} {n : Nat} (h : c.toNat = n) (d : UInt8) (hd : d.toNat = n) : c = d := UInt8.toNat_inj.1 (h.trans hd.symm)
theorem go_back {s : List UInt8} {p : Nat} {acc : List Int} {r : List Int ⊕ Nat} (h : Go s p acc r) : ∀ res, r = .inl res → ∃ z zs, res = acc ++ z :: zs ∧ s.drop p = jn ((z :: zs).map textZ) ++ [93] := by
  induction h with
  | bad => intro res e; cases e
  | fin => intro res e; cases e
  | more => intro res e; cases e
  | @done p q acc z h hz hc hq =>
    intro res e
    cases e
    refine ⟨z, [], rfl, ?_⟩
    rw [drop_cut h.1 (by omega), ← rz_back hz, byte_eq hc 93 rfl, List.drop_eq_nil_of_le (by omega)]
    simp [jn]
  | @next p q acc z r h hz hq hc hr ih =>
    intro res e
    obtain ⟨y, ys, h1, h2⟩ := ih res e
    refine ⟨z, y :: ys, by rw [h1]; simp, ?_⟩
    rw [drop_cut h.1 hq, h2, ← rz_back hz, byte_eq hc 32 rfl, List.map_cons (l := y :: ys), List.map_cons, jn_cons2, ← List.map_cons]
    simp
theorem rd_back {s : List UInt8} {zs : List Int} (h : Rd0 s (.inl zs)) : textRow zs = s := by
  cases h with
  | void h h1 h2 =>
    match s, h2 with
    | [a, b], _ => rw [byte_eq (c := a) h 91 rfl, byte_eq (c := b) h1 93 rfl]; rfl
  | go h h0 h1 hr =>
    obtain ⟨z, ys, h2, h3⟩ := go_back hr _ rfl
    cases s with
    | nil => exact absurd rfl h0
    | cons a s =>
      rw [byte_eq (c := a) h 91 rfl, h2]
      rw [List.drop_succ_cons, List.drop_zero] at h3
      rw [h3]
      simp [textRow]
theorem iread_rz {t : List UInt8} {z : Int} {w0 : World} (h : Rz t z) (hl : t.length ≤ 65536) :
    Calls Tryd.prog 99 #[.string ⟨t.toArray⟩] w0 fun e w' => ∃ v, e = .returned (.tuple #[v, .agg #[.int .i64 0, .int .i64 0]]) ∧ ZAt w' v z ∧ Below w0.heap.size w0 w' := by
  rcases h with ⟨d, rfl, h2, rfl⟩ | ⟨h1, h2, rfl⟩
  · rw [List.length_cons] at hl
    exact iread_ok1 (by omega) h2
  · exact iread_ok0 h1 (by omega) h2
theorem iread_rb {t : List UInt8} {b : Nat} {w0 : World} (h : Rb t b) (hl : t.length ≤ 65536) :
    Calls Tryd.prog 99 #[.string ⟨t.toArray⟩] w0 fun e w' => e = .returned (.tuple #[.agg #[.bool (neg 0), .slice none (zl 0) 0], .agg #[.int .i64 6, .int .i64 (b : Nat)]]) ∧ Below w0.heap.size w0 w' := by
  rcases h with ⟨d, b', rfl, h2, rfl⟩ | ⟨h1, h2⟩
  · rw [List.length_cons] at hl
    exact iread_fb1 (by omega) h2
  · exact iread_fb0 h1 (by omega) h2
theorem rread_rz {t : List UInt8} {z : Int} {w0 : World} (h : Rz t z) (hl : t.length ≤ 65536) :
    Calls Tryd.prog 80 #[.string ⟨t.toArray⟩] w0 fun e w' => ∃ v, e = .returned (.tuple #[v, .int .i64 (-1)]) ∧ RAt w' v z ∧ Below w0.heap.size w0 w' := by
  rcases h with ⟨d, rfl, h2, rfl⟩ | ⟨h1, h2, rfl⟩
  · rw [List.length_cons] at hl
    exact rread_ok1 h2 (by omega)
  · exact rread_ok0 h1 h2 (by omega)
theorem rread_rb {t : List UInt8} {b : Nat} {w0 : World} (h : Rb t b) (hl : t.length ≤ 65536) :
    Calls Tryd.prog 80 #[.string ⟨t.toArray⟩] w0 fun e w' => e = .returned (.tuple #[.agg #[.bool (neg 0), .slice none (dl 0) 0], .int .i64 (b : Nat)]) ∧ Below w0.heap.size w0 w' := by
  rcases h with ⟨d, b', rfl, h2, rfl⟩ | ⟨h1, h2⟩
  · rw [List.length_cons] at hl
    exact rread_fb1 (by omega) h2
  · exact rread_fb0 h1 (by omega) h2
end Go.Proofs.YtghaenkacjgdnaaDoor.W

/- Pairs of ints, the greater and the less of two; block lengths, levels: plain. No condition. -/
namespace Go.Proofs.YtghaenkacjgdnaaDoor.W
open Go.RowKit Anv Go.Lib
theorem bool_em (b : Bool) : b = true ∨ b = false := by cases b <;> simp
def ar2 (a b : Int) (j : Nat) : Int := if j = 0 then a else b
section
variable {N : Nat} {dq : List Deferred} {a : Act} {l : List (Nat × Value)} {w : World} {d : Nat} {ty : TypeId} {pos : String} {af : Array Edge} {gd : Option (Nat × Bool)}
end
def RP (n1 n2 k1 k2 : Int) : Prop := 0 ≤ n1 ∧ n1 ≤ 4096 ∧ 0 ≤ n2 ∧ n2 ≤ 4096 ∧ 1 ≤ k1 ∧ k1 ≤ 8 ∧ 1 ≤ k2 ∧ k2 ≤ 8
instance (n1 n2 k1 k2 : Int) : Decidable (RP n1 n2 k1 k2) := by unfold RP; infer_instance
def upN (n k : Nat) : Nat := (n + k - 1) / k
def blkN (n1 n2 k1 k2 : Nat) : Nat := max (upN n1 k1) (upN n2 k2)
def EP (n1 n2 k1 k2 : Nat) (t : Int) : Prop := max t 1 < (min n1 n2 : Nat) ∧ blkN n1 n2 k1 k2 < max n1 n2
instance (n1 n2 k1 k2 : Nat) (t : Int) : Decidable (EP n1 n2 k1 k2 t) := by unfold EP; infer_instance
def depF (k1 k2 : Nat) (t : Int) : Nat → Nat → Nat → Nat
  | 0, _, _ => 0
  | f + 1, n1, n2 => if EP n1 n2 k1 k2 t then depF k1 k2 t f (blkN n1 n2 k1 k2) (blkN n1 n2 k1 k2) + 1 else 0
end Go.Proofs.YtghaenkacjgdnaaDoor.W

/- Package split: block lengths, levels; the reference's. Printed by pv/gen_sp1.py. No condition. -/
namespace Go.Proofs.YtghaenkacjgdnaaDoor.W
open Go.RowKit Anv Go.Lib
end Go.Proofs.YtghaenkacjgdnaaDoor.W

/- The laws' long. Printed by pv/gen_row4.py. No condition. -/
namespace Go.Proofs.YtghaenkacjgdnaaDoor.W
open Go.RowKit Anv Go.Lib
abbrev VE := Option Addr × Nat × Nat × List UE
def fV (v : VE) : List Value := [.slice v.1 v.2.1 v.2.2.1]
def FV (v : VE) : PF := pfRow fU FU 2 v.1 v.2.1 v.2.2.1 v.2.2.2
def tl (us : List UE) : Nat := (us.map fun e => e.2.2.1).sum
def tv (vs : List VE) : Nat := (vs.map fun v => v.2.1 + tl v.2.2.2).sum
def vz (e : UE) : Int := sg e.1 (val 4294967296 e.2.2.2.2)
end Go.Proofs.YtghaenkacjgdnaaDoor.W

/- row.Cmp, Same; the reference's Cmp, Same, IsZero. Printed by pv/gen_row5.py. No condition. -/
namespace Go.Proofs.YtghaenkacjgdnaaDoor.W
open Go.RowKit Anv Go.Lib
def lexc : List Int → List Int → Int
  | x :: xs, y :: ys => if (x - y).sign = 0 then lexc xs ys else (x - y).sign
  | _, _ => 0
def cmpR (xs ys : List Int) : Int := if xs.length < ys.length then -1 else if ys.length < xs.length then 1 else lexc xs ys
end Go.Proofs.YtghaenkacjgdnaaDoor.W

/- row.Widest, anvilref04.Widest. Printed by pv/gen_row6.py. No condition. -/
namespace Go.Proofs.YtghaenkacjgdnaaDoor.W
open Go.RowKit Anv Go.Lib
def wid (zs : List Int) : Int := zs.foldl (fun w z => if w < (z.natAbs : Int) then (z.natAbs : Int) else w) 0
end Go.Proofs.YtghaenkacjgdnaaDoor.W

/- What the law RowHolds needs, with no program in sight but the shape of the memory. No condition. -/
namespace Go.Proofs.YtghaenkacjgdnaaDoor.W
open Go.RowKit Anv Go.Lib
theorem tl_mem {us : List UE} {e : UE} (h : e ∈ us) : e.2.2.1 ≤ tl us := by
  induction us with
  | nil => cases h
  | cons x us ih =>
    unfold tl at *
    rw [List.map_cons, List.sum_cons]
    rcases List.mem_cons.1 h with rfl | h
    · omega
    · have := ih h; omega
end Go.Proofs.YtghaenkacjgdnaaDoor.W

/- What the laws of rows need of the memory: rows of rows written out, numbers written out, sizes. No program but the shape of the memory. No condition. -/
namespace Go.Proofs.YtghaenkacjgdnaaDoor.W
open Go.RowKit Anv Go.Lib
theorem zl_vze {w : World} {b : Bool} {A : Option Addr} {n c k : Nat} {xs : List Nat} (h : U32 w A n c xs) (hn : n ≤ k) : zl (sg b (val 4294967296 xs)) ≤ k := by
  have h2 := nl_val h
  have e : zl (sg b (val 4294967296 xs)) = nl (val 4294967296 xs) := by
    unfold sg zl
    split
    · rw [Int.natAbs_neg, Int.natAbs_natCast]
    · rw [Int.natAbs_natCast]
  omega
def Zk (k : Nat) (zs : List Int) : Prop := ∀ z ∈ zs, zl z ≤ k
theorem Zk.es {k : Nat} {es : List NE} {zs : List Int} (h : Zk k zs) (e : es.map zz = zs) : ZB k es := fun x hx => h (zz x) (e ▸ List.mem_map_of_mem hx)
theorem Zk.mono {k m : Nat} {zs : List Int} (h : Zk k zs) (hm : k ≤ m) : Zk m zs := fun z hz => Nat.le_trans (h z hz) hm
theorem Zk.map {k m : Nat} {zs : List Int} {f : Int → Int} (h : Zk k zs) (hf : ∀ z, zl z ≤ k → zl (f z) ≤ m) : Zk m (zs.map f) := fun x hx => by
  obtain ⟨z, hz, rfl⟩ := List.mem_map.1 hx
  exact hf z (h z hz)
theorem mem_zipWith {f : Int → Int → Int} {x : Int} : ∀ {xs ys : List Int}, x ∈ List.zipWith f xs ys → ∃ a ∈ xs, ∃ b ∈ ys, x = f a b
  | [], _, h => by simp at h
  | _ :: _, [], h => by simp at h
  | a :: xs, b :: ys, h => by
    rw [List.zipWith_cons_cons] at h
    rcases List.mem_cons.1 h with rfl | h
    · exact ⟨a, List.mem_cons_self .., b, List.mem_cons_self .., rfl⟩
    · obtain ⟨a, ha, b, hb, e⟩ := mem_zipWith h
      exact ⟨a, List.mem_cons_of_mem _ ha, b, List.mem_cons_of_mem _ hb, e⟩
theorem Zk.zip {k j m : Nat} {xs ys : List Int} {f : Int → Int → Int} (h : Zk k xs) (g : Zk j ys) (hf : ∀ x y, zl x ≤ k → zl y ≤ j → zl (f x y) ≤ m) : Zk m (List.zipWith f xs ys) := fun x hx => by
  obtain ⟨a, ha, b, hb, rfl⟩ := mem_zipWith hx
  exact hf a b (h a ha) (g b hb)
theorem Zk.vz {es : List UE} {k : Nat} {w : World} (h : (pfEs FU es).P w) (ht : tl es ≤ k) : Zk k (es.map vz) := by
  intro z hz
  obtain ⟨e, he, rfl⟩ := List.mem_map.1 hz
  have h1 : U32 w e.2.1 e.2.2.1 e.2.2.2.1 e.2.2.2.2 := h e he
  exact zl_vze h1 (Nat.le_trans (tl_mem he) ht)
theorem Zk.prim {k : Nat} {zs : List Int} (h : Zk k zs) : Zk k (prim zs) := h.map fun _ hz => Nat.le_trans (zl_ediv _ _) hz
theorem Zk.take {k : Nat} {zs : List Int} (h : Zk k zs) (j : Nat) : Zk k (zs.take j) := fun z hz => h z (List.mem_of_mem_take hz)
end Go.Proofs.YtghaenkacjgdnaaDoor.W

/- Rows handed as written numbers, compared; split.Parts, poly.Degree, split.Join. Printed by pv/gen_sp2.py. No condition. -/
namespace Go.Proofs.YtghaenkacjgdnaaDoor.W
open Go.RowKit Anv Go.Lib
theorem zts {es : List NE} {xs : List Int} {j : Nat} {A : Option Addr} {c : Nat} {z : Int} (hz : es.map zz = xs) (he : es[j]? = some (A, c, z)) : xs.take (j + 1) = xs.take j ++ [z] :=
  take_one (by rw [← hz, List.getElem?_map, he]; rfl)
theorem tz_inj {x y : Int} (h : textZ x = textZ y) : x = y := rz_eq (rz_text x) (h ▸ rz_text y)
theorem tz_iff {x y : Int} : textZ x = textZ y ↔ x = y := ⟨tz_inj, fun h => h ▸ rfl⟩
theorem eq_full {es fs : List NE} {xs ys : List Int} {n m : Nat} (h : es.map zz = xs) (hl : es.length = n) (k : fs.map zz = ys) (kl : fs.length = m) (hn : n = m) (he : xs.take n = ys.take n) : xs = ys := by
  rw [List.take_of_length_le (by rw [← h, List.length_map]; omega), List.take_of_length_le (by rw [← k, List.length_map]; omega)] at he
  exact he
theorem eq_ne {es fs : List NE} {xs ys : List Int} {n m : Nat} (h : es.map zz = xs) (hl : es.length = n) (k : fs.map zz = ys) (kl : fs.length = m) (hn : n ≠ m) : xs ≠ ys := fun e => hn (by
  have := congrArg List.length e
  rw [← h, ← k, List.length_map, List.length_map] at this
  omega)
theorem eq_at {es fs : List NE} {xs ys : List Int} {j : Nat} {A B : Option Addr} {c d : Nat} {x y : Int} (h : es.map zz = xs) (k : fs.map zz = ys) (he : es[j]? = some (A, c, x)) (hf : fs[j]? = some (B, d, y)) (hxy : ¬ x = y) : xs ≠ ys := by
  rintro rfl
  have h1 : xs[j]? = some x := by rw [← h, List.getElem?_map, he]; rfl
  have h2 : xs[j]? = some y := by rw [← k, List.getElem?_map, hf]; rfl
  rw [h1] at h2
  exact hxy (Option.some.inj h2)
end Go.Proofs.YtghaenkacjgdnaaDoor.W

/- split.Parts. Printed by pv/gen_sp3.py. No condition. -/
namespace Go.Proofs.YtghaenkacjgdnaaDoor.W
open Go.RowKit Anv Go.Lib
def LRow (w : World) (v : Value) (n : Nat) (zss : List (List Int)) : Prop := ∃ A c vs, v = .slice A n c ∧ (pfRow fL FL 1 A n c vs).P w ∧ vs.map lz = zss
def partL (xs : List Int) (m j : Nat) : List Int := (xs.drop (j * m)).take m ++ List.replicate (m - (xs.drop (j * m)).length) 0
end Go.Proofs.YtghaenkacjgdnaaDoor.W

/- poly.Degree, split.Join. Printed by pv/gen_sp4.py. No condition. -/
namespace Go.Proofs.YtghaenkacjgdnaaDoor.W
open Go.RowKit Anv Go.Lib
def degN (xs : List Int) : Nat := (xs.reverse.dropWhile (· == 0)).length
theorem deg_nil (xs : List Int) : degN (xs.take 0) = 0 := by rw [List.take_zero]; rfl
theorem deg_snoc0 (xs : List Int) : degN (xs ++ [0]) = degN xs := by simp [degN]
theorem deg_snoc {xs : List Int} {x : Int} (h : x ≠ 0) : degN (xs ++ [x]) = xs.length + 1 := by
  unfold degN
  rw [List.reverse_append, List.reverse_singleton, List.singleton_append, List.dropWhile_cons_of_neg (by simpa using h), List.length_cons, List.length_reverse]
def NRow (w : World) (v : Value) (n : Nat) (zs : List Int) : Prop := ∃ A c es, v = .slice A n c ∧ (pfRow fN FN 2 A n c es).P w ∧ es.map zz = zs
def szN (zss : List (List Int)) (k m : Nat) : Nat → Nat
  | 0 => m
  | i + 1 => max (szN zss k m i) (i * k + (zss.getD i []).length)
def adN (xs : List Int) (p : Nat) (l : List Int) : Nat → List Int
  | 0 => l
  | j + 1 => (adN xs p l j).set (p + j) ((adN xs p l j).getD (p + j) 0 + xs.getD j 0)
def jnN (zss : List (List Int)) (k T : Nat) : Nat → List Int
  | 0 => List.replicate T 0
  | i + 1 => adN (zss.getD i []) (i * k) (jnN zss k T i) (zss.getD i []).length
theorem adN_len (xs : List Int) (p : Nat) (l : List Int) : ∀ j, (adN xs p l j).length = l.length
  | 0 => rfl
  | j + 1 => by rw [adN, List.length_set, adN_len]
theorem zl_addm (x y : Int) : zl (x + y) ≤ max (zl x) (zl y) + 1 := by
  refine nl_le_of_lt ?_
  have h1 : x.natAbs < 4294967296 ^ max (zl x) (zl y) := Nat.lt_of_lt_of_le (lt_nl _) (Nat.pow_le_pow_right (by decide) (Nat.le_max_left ..))
  have h2 : y.natAbs < 4294967296 ^ max (zl x) (zl y) := Nat.lt_of_lt_of_le (lt_nl _) (Nat.pow_le_pow_right (by decide) (Nat.le_max_right ..))
  have h3 := Int.natAbs_add_le x y
  rw [Nat.pow_succ]
  omega
theorem zk_set {a b p c : Nat} {ps : List NE} {A : Option Addr} {v : Int} (h : Zk a (ps.map zz)) (hv : zl v ≤ b) (hab : a ≤ b) : Zk b ((ps.set p (A, c, v)).map zz) := by
  intro z hz
  rw [List.map_set] at hz
  rcases mem_set_cases hz with h1 | h1
  · exact Nat.le_trans (h z h1) hab
  · rw [h1]; exact hv
set_option maxRecDepth 100000 in
set_option maxHeartbeats 2000000 in
theorem p_deg {A0 : Option Addr} {n0 c0 : Nat} {es0 : List NE} {xs : List Int} {w0 : World} (h0 : (pfRow fN FN 2 A0 n0 c0 es0).P w0) (hz0 : es0.map zz = xs) (hn : n0 ≤ 100000000) :
    Calls Tryd.prog 23 #[.slice A0 n0 c0] w0 fun e w' => e = .returned (.int .i64 (((degN xs : Nat) : Int) - 1)) ∧ Below w0.heap.size w0 w' := by
  refine enter Tryd.func23 rfl Tryd.ntmps23 rfl ?_
  intro a henv hst
  have hlen0 := h0.2.1
  have hbig0 := Nat.le_trans h0.1.cap h0.1.big
  unfold maxLen at hbig0
  replace hst := hst.argRow h0
  clear h0
  refine wp_seq ?_
  refine region_seq ?_
  refine sv (v := .int .i64 0) henv rfl (rn_assign henv rfl) ?_
  clear henv a; intro a henv
  refine wpList_nil ?_
  refine th_n ?_
  refine wp_scope_straight ?_
  refine wp_seq ?_
  refine region_seq ?_
  revert a
  refine mA rfl rfl ?_
  refine sA (v := .int .i64 (n0 : Nat)) rfl (fun _ henv => rn_len henv Tryd.underlying32 rfl) ?_
  refine sA (v := .int .i64 (((n0 : Nat) : Int) - (1 : Int))) rfl (fun _ henv => rn_sub henv rfl rfl (IntWalk.i64_in _ (by omega))) ?_
  refine aA rfl rfl ?_
  intro a henv
  refine wpList_nil ?_
  refine th_n ?_
  refine wp_seq ?_
  refine wp_label ?_
  refine th_n ?_
  refine wp_seq ?_
  refine cut (fun a w => ∃ q : Nat, Env 18 a [(3, .int .i64 (((q : Nat) : Int) - 1))] ∧ St w0 w [] [] ∧ degN xs = q) ?_ ?_
  · refine wp_block ?_
    refine wp_loop_ghost (fun mz a w => ∃ i : Nat, i = mz ∧ Env 18 a [(0, .slice A0 n0 c0), (3, .int .i64 (((i : Nat) : Int) - 1))] ∧ St w0 w [] [pfRow fN FN 2 A0 n0 c0 es0] ∧ i ≤ n0 ∧ degN xs = degN (xs.take i)) _ ⟨n0, rfl, henv.sub ⟨rfl, rfl, trivial⟩, hst.pick [] [0] (by decide), (Nat.le_refl _), (by rw [List.take_of_length_le (by rw [← hz0, List.length_map]; omega)])⟩ ?_
    clear henv hst a
    rintro mz a w51 ⟨i, rfl, henv, hst, hi, hd⟩
    refine wp_seq ?_
    refine wp_seq ?_
    refine region_seq ?_
    revert a
    refine mA rfl rfl ?_
    refine sA (v := .bool (decide (((i : Nat) : Int) - 1 ≥ (0 : Int)))) rfl (fun _ henv => rn_bin henv rfl rfl rfl) ?_
    intro a henv
    refine wpList_nil ?_
    refine th_n ?_
    refine if_split henv rfl (fun hc52 => ?_) (fun hc52 => ?_)
    · obtain ⟨j, hj⟩ : ∃ j : Nat, ((i : Nat) : Int) - 1 = (j : Nat) := ⟨i - 1, by have := of_decide_eq_true hc52; omega⟩
      rw [hj] at henv
      obtain rfl : i = j + 1 := by omega
      clear hj
      obtain ⟨⟨A, c, x⟩, he0⟩ : ∃ e, es0[j]? = some e := ⟨_, List.getElem?_eq_getElem (by omega)⟩
      replace hst := hst.elem (k := 0) rfl he0
      replace hst : St w0 _ [] [pfZ A c x, pfRow fN FN 2 A0 n0 c0 es0] := hst
      refine wp_skip ?_
      refine th_n ?_
      refine wp_seq ?_
      refine wp_block ?_
      refine wp_seq ?_
      refine region_seq ?_
      revert a
      refine mA rfl rfl ?_
      refine mA rfl rfl ?_
      refine sA (v := .pointer (some ⟨ab A0, ao A0 + j * 2, none⟩)) rfl (fun _ henv => rn_idxR (i := j) henv Tryd.underlying32 (ty_anvil_integer_Int.size) rfl rfl (by omega) rfl (show (pfRow fN FN 2 A0 n0 c0 es0).P _ from (hst.pat (k := 1) rfl)).1) ?_
      refine sA (v := .agg #[.bool (neg x), .slice A (zl x) c]) rfl (fun _ henv => rn_loadE (i := j) (e := (A, c, x)) henv ty_anvil_integer_Int rfl rfl fN_len (show (pfRow fN FN 2 A0 n0 c0 es0).P _ from (hst.pat (k := 1) rfl)).1 (by omega) he0 rfl) ?_
      intro a henv
      refine seq_step rfl (op_call henv rfl Tryd.call14 rfl (sign_z (z := x)) ?_)
      rintro e w53 ⟨rfl, hb⟩
      refine ⟨_, rfl, ?_⟩
      clear henv a; intro a henv
      replace hst := hst.call hb
      clear hb
      refine sv (v := .bool (x.sign != (0 : Int))) henv rfl (rn_bin henv rfl rfl rfl) ?_
      clear henv a; intro a henv
      refine wpList_nil ?_
      refine th_n ?_
      refine if_split henv rfl (fun hc54 => ?_) (fun hc54 => ?_)
      · have hx0 : x ≠ 0 := fun h0 => by rw [h0] at hc54; simp at hc54
        rw [show ((j : Nat) : Int) = ((j + 1 : Nat) : Int) - 1 by omega] at henv
        refine wp_exit ?_
        refine bl_o rfl (th_x (th_x (bl_x (th_n ?_))))
        exact ⟨j + 1, henv.sub ⟨rfl, trivial⟩, hst.pick [] [] (by decide), (hd.trans (by rw [zts hz0 he0, deg_snoc hx0, List.length_take, ← hz0, List.length_map]; omega))⟩
      · have hx0 : x = 0 := Int.sign_eq_zero_iff_zero.1 (by have := hc54; simpa using this)
        refine wp_skip ?_
        refine bl_n (th_n ?_)
        refine region_seq ?_
        revert a
        refine mA rfl rfl ?_
        refine sA (v := .int .i64 (((j : Nat) : Int) - (1 : Int))) rfl (fun _ henv => rn_sub henv rfl rfl (IntWalk.i64_in _ (by omega))) ?_
        refine aA rfl rfl ?_
        intro a henv
        refine wpList_nil ?_
        exact th_n ⟨_, (by omega), ⟨j, rfl, henv.sub ⟨rfl, rfl, trivial⟩, hst.pick [] [1] (by decide), (by omega), (by rw [hd, zts hz0 he0, hx0, deg_snoc0])⟩⟩
    · obtain rfl : i = 0 := by have := of_decide_eq_false hc52; omega
      refine wp_exit ?_
      refine th_x (th_x (bl_x (th_n ?_)))
      exact ⟨0, henv.sub ⟨rfl, trivial⟩, hst.pick [] [] (by decide), (hd.trans (deg_nil _))⟩
  clear henv hst a
  rintro a w55 ⟨q, henv, hst, hq⟩
  refine wp_seq ?_
  refine region_seq ?_
  revert a
  refine mA rfl rfl ?_
  refine aA rfl rfl ?_
  intro a henv
  refine wpList_nil ?_
  refine th_n ?_
  refine wp_ret ?_
  refine sc_r ?_
  refine leave henv (res1 Tryd.results23 (RV.tmp henv rfl)) ?_
  exact ⟨by rw [hq], hst.below⟩
end Go.Proofs.YtghaenkacjgdnaaDoor.W

/- anvillaw21.works. Printed by pv/gen_sp5.py. No condition. -/
namespace Go.Proofs.YtghaenkacjgdnaaDoor.W
open Go.RowKit Anv Go.Lib
theorem zk_small {k : Nat} {zs : List Int} (h : zs.all (fun z => decide (z.natAbs < 4294967296)) = true) : Zk (k + 1) zs := fun z hz => by
  have h1 : z.natAbs < 4294967296 := of_decide_eq_true (List.all_eq_true.1 h z hz)
  have h2 : zl z ≤ 1 := nl_le_of_lt (by rw [Nat.pow_one]; exact h1)
  omega
end Go.Proofs.YtghaenkacjgdnaaDoor.W

/- poly.Mul; alike. Printed by pv/gen_sp12.py. No condition. -/
namespace Go.Proofs.YtghaenkacjgdnaaDoor.W
open Go.RowKit Anv Go.Lib
def sumF (xs ys : List Int) (i : Nat) : Int := xs.getD i 0 + ys.getD i 0
def mlN (xs ys : List Int) (N : Nat) : Nat → List Int
  | 0 => List.replicate N 0
  | i + 1 => adN (ys.map (xs.getD i 0 * ·)) i (mlN xs ys N i) ys.length
theorem mlN_len (xs ys : List Int) (N : Nat) : ∀ i, (mlN xs ys N i).length = N
  | 0 => List.length_replicate
  | i + 1 => by rw [mlN, adN_len, mlN_len]
theorem ml_step {ps es : List NE} {ys l : List Int} {p j : Nat} {C E A : Option Addr} {d f c : Nat} {x y z : Int} (ho : ps.map zz = adN (ys.map (x * ·)) p l j) (hz : es.map zz = ys) (he : es[j]? = some (C, d, y)) (hp : ps[p + j]? = some (E, f, z)) : (ps.set (p + j) (A, c, z + x * y)).map zz = adN (ys.map (x * ·)) p l (j + 1) := by
  have e1 : (ys.map (x * ·)).getD j 0 = x * y := by rw [List.getD_eq_getElem?_getD, List.getElem?_map, ← hz, List.getElem?_map, he]; rfl
  have e2 : (adN (ys.map (x * ·)) p l j).getD (p + j) 0 = z := by rw [← ho, List.getD_eq_getElem?_getD, List.getElem?_map, hp]; rfl
  rw [adN, e1, e2, ← ho, List.map_set]
set_option maxRecDepth 100000 in
set_option maxHeartbeats 4000000 in
theorem p_mul {A0 A1 : Option Addr} {n0 n1 c0 c1 : Nat} {es0 es1 : List NE} {xs ys : List Int} {w0 : World} (h0 : (pfRow fN FN 2 A0 n0 c0 es0).P w0) (hz0 : es0.map zz = xs) (h1 : (pfRow fN FN 2 A1 n1 c1 es1).P w0) (hz1 : es1.map zz = ys) (hk0 : Zk 1000 xs) (hk1 : Zk 1000 ys) (h00 : 0 < n0) (h01 : 0 < n1) (hn0 : n0 ≤ 300) (hn1 : n1 ≤ 300) :
    Calls Tryd.prog 24 #[.slice A0 n0 c0, .slice A1 n1 c1] w0 fun e w' => ∃ v, e = .returned (.tuple #[v, .int .i64 (n0 * n1 : Nat)]) ∧ ZRow w0.heap.size w' v (n0 + n1 - 1) (mlN xs ys (n0 + n1 - 1) n0) ∧ Below w0.heap.size w0 w' := by
  refine enter Tryd.func24 rfl Tryd.ntmps24 rfl ?_
  intro a henv hst
  have hlen0 := h0.2.1
  have hlen1 := h1.2.1
  have hbig0 := Nat.le_trans h0.1.cap h0.1.big
  unfold maxLen at hbig0
  replace hst := (hst.argRow h1).argRow h0
  clear h0 h1
  refine wp_seq ?_
  refine region_seq ?_
  revert a
  refine aA rfl rfl ?_
  refine aA rfl rfl ?_
  intro a henv
  refine wpList_nil ?_
  refine th_n ?_
  refine wp_seq ?_
  refine wp_seq ?_
  refine region_seq ?_
  revert a
  refine mA rfl rfl ?_
  refine sA (v := .int .i64 (n0 : Nat)) rfl (fun _ henv => rn_len henv Tryd.underlying32 rfl) ?_
  refine sA (v := .bool (((n0 : Nat) : Int) == (0 : Int))) rfl (fun _ henv => rn_bin henv rfl rfl rfl) ?_
  intro a henv
  rw [show (((n0 : Nat) : Int) == (0 : Int)) = false from (beq_eq_false_iff_ne.2 (by omega))] at henv
  revert a
  refine mA rfl rfl ?_
  refine gA (v := .slice A1 n1 c1) rfl rfl rfl rfl (fun _ henv => rn_move henv rfl) ?_
  refine gA (v := .int .i64 (n1 : Nat)) rfl rfl rfl rfl (fun _ henv => rn_len henv Tryd.underlying32 rfl) ?_
  refine gA (v := .bool (((n1 : Nat) : Int) == (0 : Int))) rfl rfl rfl rfl (fun _ henv => rn_bin henv rfl rfl rfl) ?_
  intro a henv
  rw [show (((n1 : Nat) : Int) == (0 : Int)) = false from (beq_eq_false_iff_ne.2 (by omega))] at henv
  refine sv (v := .bool false) henv rfl (rn_pick henv rfl rfl) ?_
  clear henv a; intro a henv
  refine wpList_nil ?_
  refine th_n ?_
  refine if_f henv rfl (rfl) ?_
  refine wp_skip ?_
  refine th_n ?_
  refine wp_seq ?_
  refine region_seq ?_
  revert a
  refine mA rfl rfl ?_
  refine sA (v := .int .i64 (n0 : Nat)) rfl (fun _ henv => rn_len henv Tryd.underlying32 rfl) ?_
  refine mA rfl rfl ?_
  refine sA (v := .int .i64 (n1 : Nat)) rfl (fun _ henv => rn_len henv Tryd.underlying32 rfl) ?_
  refine sA (v := .int .i64 (n0 + n1 : Nat)) rfl (fun _ henv => rn_add henv rfl rfl (by rw [IntWalk.i64_in _ (by omega)]; omega)) ?_
  refine sA (v := .int .i64 ((n0 + n1) - 1 : Nat)) rfl (fun _ henv => rn_sub henv rfl rfl (by rw [IntWalk.i64_in _ (by omega)]; omega)) ?_
  intro a henv
  refine seq_step rfl (op_makeS (f := fN) (e0 := (none, 0, 0)) (q := notU) (n := (n0 + n1) - 1) henv hst rfl Tryd.underlying32 inf_anvil_integer_Int rfl rfl fN_zero rfl rfl rfl (by omega) (by unfold maxLen; omega) ?_)
  clear henv hst a; intro a w52 g51 henv hst
  replace hst := hst.addNs (es_zeros (n0 + n1 - 1) _) ⟨nou_rowS, trivial⟩
  refine sv (v := .slice (some ⟨g51, 0, none⟩) ((n0 + n1) - 1) ((n0 + n1) - 1)) henv rfl (rn_assign henv rfl) ?_
  clear henv a; intro a henv
  refine wpList_nil ?_
  refine th_n ?_
  refine wp_seq ?_
  refine region_seq ?_
  refine sv (v := .int .i64 0) henv rfl (rn_assign henv rfl) ?_
  clear henv a; intro a henv
  refine wpList_nil ?_
  refine th_n ?_
  refine wp_seq ?_
  refine wp_seq ?_
  refine region_seq ?_
  revert a
  refine mA rfl rfl ?_
  refine sA (v := .int .i64 (n0 : Nat)) rfl (fun _ henv => rn_len henv Tryd.underlying32 rfl) ?_
  refine mA rfl rfl ?_
  intro a henv
  refine wpList_nil ?_
  refine th_n ?_
  refine wp_block ?_
  refine wp_loop_ghost (fun mz a w => ∃ i : Nat, ∃ q : Nat, ∃ os : List NE, n0 - i = mz ∧ Env 62 a [(1, .slice A1 n1 c1), (6, .slice (some ⟨g51, 0, none⟩) ((n0 + n1) - 1) ((n0 + n1) - 1)), (7, .int .i64 (q : Nat)), (27, .slice A0 n0 c0), (28, .int .i64 (n0 : Nat)), (29, .int .i64 (i : Nat))] ∧ St w0 w [rowS notU 28 2 (some ⟨g51, 0, none⟩) ((n0 + n1) - 1) ((n0 + n1) - 1) (fl fN os)] [pfRow fN FN 2 A0 n0 c0 es0, pfRow fN FN 2 A1 n1 c1 es1, pfEs FN os] ∧ i ≤ n0 ∧ q = i * n1 ∧ os.map zz = mlN xs ys ((n0 + n1) - 1) i ∧ Zk (2000 + 300 * i) (os.map zz)) _ ⟨0, 0, (List.replicate ((n0 + n1) - 1) (none, 0, 0)), rfl, henv.sub ⟨rfl, rfl, rfl, rfl, rfl, rfl, trivial⟩, hst.pick [0] [1, 2, 0] (by decide), (Nat.zero_le _), (by omega), (by rw [List.map_replicate]; rfl), (fun z hz => by rw [List.map_replicate] at hz; rw [List.eq_of_mem_replicate hz]; exact Nat.le_trans (by rw [zl_zero]; omega) (Nat.zero_le _))⟩ ?_
  clear henv hst a
  rintro mz a w53 ⟨i, q, os, rfl, henv, hst, hi, hq, ho, hkz⟩
  refine wp_seq ?_
  refine region_seq ?_
  refine sv (v := .bool (decide (((i : Nat) : Int) < ((n0 : Nat) : Int)))) henv rfl (rn_bin henv rfl rfl rfl) ?_
  clear henv a; intro a henv
  refine wpList_nil ?_
  refine th_n ?_
  refine wp_seq ?_
  refine if_split henv rfl (fun hc54 => ?_) (fun hc54 => ?_)
  · have hlt0 : i < n0 := by have := of_decide_eq_true hc54; omega
    obtain ⟨⟨A, c, x⟩, he0⟩ : ∃ e, es0[i]? = some e := ⟨_, List.getElem?_eq_getElem (by omega)⟩
    replace hst := hst.elem (k := 0) rfl he0
    replace hst : St w0 _ [rowS notU 28 2 (some ⟨g51, 0, none⟩) ((n0 + n1) - 1) ((n0 + n1) - 1) (fl fN os)] [pfZ A c x, pfRow fN FN 2 A0 n0 c0 es0, pfRow fN FN 2 A1 n1 c1 es1, pfEs FN os] := hst
    replace hst : St w0 _ [rowS notU 28 2 (some ⟨g51, 0, none⟩) ((n0 + n1) - 1) ((n0 + n1) - 1) (fl fN os)] [pfZ A c x, pfRow fN FN 2 A0 n0 c0 es0, pfRow fN FN 2 A1 n1 c1 es1, pfEs FN os] := hst
    have hx1 : zl x ≤ 1000 := hk0.es hz0 _ (List.mem_of_getElem? he0)
    have hin : i * n1 ≤ 90000 := Nat.mul_le_mul (show i ≤ 300 by omega) hn1
    have hxi : xs.getD i 0 = x := by rw [List.getD_eq_getElem?_getD, ← hz0, List.getElem?_map, he0]; rfl
    have hyl : ys.length = n1 := by rw [← hz1, List.length_map, hlen1]
    refine wp_skip ?_
    refine th_n ?_
    refine wp_seq ?_
    refine wp_block ?_
    refine wp_seq ?_
    refine region_seq ?_
    revert a
    refine mA rfl rfl ?_
    refine sA (v := .pointer (some ⟨ab A0, ao A0 + i * 2, none⟩)) rfl (fun _ henv => rn_idxR (i := i) henv Tryd.underlying32 (ty_anvil_integer_Int.size) rfl rfl (by omega) rfl (show (pfRow fN FN 2 A0 n0 c0 es0).P _ from (hst.pat (k := 1) rfl)).1) ?_
    refine sA (v := .agg #[.bool (neg x), .slice A (zl x) c]) rfl (fun _ henv => rn_loadE (i := i) (e := (A, c, x)) henv ty_anvil_integer_Int rfl rfl fN_len (show (pfRow fN FN 2 A0 n0 c0 es0).P _ from (hst.pat (k := 1) rfl)).1 (by omega) he0 rfl) ?_
    intro a henv
    refine seq_step rfl (op_alloc (c := #[.bool (neg 0), .slice none (zl 0) 0]) henv hst rfl zero_anvil_integer_Int zcells ?_)
    clear henv hst a; intro a w56 g55 henv hst
    refine sv (v := .int .i64 (i : Nat)) henv rfl (rn_assign henv rfl) ?_
    clear henv a; intro a henv
    refine seq_step rfl (op_store (k := 0) (c' := #[.bool (neg x), .slice A (zl x) c]) henv hst (ty_anvil_integer_Int.size) rfl rfl rfl rfl (by simp) rfl rfl ?_)
    clear henv hst a; intro a w57 henv hst
    refine wpList_nil ?_
    refine th_n ?_
    refine wp_seq ?_
    refine region_seq ?_
    revert a
    refine mA rfl rfl ?_
    refine sA (v := .int .i64 (n1 : Nat)) rfl (fun _ henv => rn_len henv Tryd.underlying32 rfl) ?_
    refine mA rfl rfl ?_
    intro a henv
    refine wpList_nil ?_
    refine th_n ?_
    refine wp_block ?_
    refine wp_loop_ghost (fun mz a w => ∃ j : Nat, ∃ p : Nat, ∃ ps : List NE, n1 - j = mz ∧ Env 62 a [(1, .slice A1 n1 c1), (6, .slice (some ⟨g51, 0, none⟩) ((n0 + n1) - 1) ((n0 + n1) - 1)), (7, .int .i64 (p : Nat)), (8, .int .i64 (i : Nat)), (9, .pointer (some ⟨g55, 0, none⟩)), (27, .slice A0 n0 c0), (28, .int .i64 (n0 : Nat)), (29, .int .i64 (i : Nat)), (34, .slice A1 n1 c1), (35, .int .i64 (n1 : Nat)), (36, .int .i64 (j : Nat))] ∧ St w0 w [rowS notU 28 2 (some ⟨g51, 0, none⟩) ((n0 + n1) - 1) ((n0 + n1) - 1) (fl fN ps), bk g55 #[.bool (neg x), .slice A (zl x) c] 28] [pfRow fN FN 2 A0 n0 c0 es0, pfRow fN FN 2 A1 n1 c1 es1, pfZ A c x, pfEs FN ps] ∧ j ≤ n1 ∧ p = q + j ∧ ps.map zz = adN (ys.map (x * ·)) i (mlN xs ys ((n0 + n1) - 1) i) j ∧ Zk (2000 + 300 * i + j) (ps.map zz)) _ ⟨0, q, os, rfl, henv.sub ⟨rfl, rfl, rfl, rfl, rfl, rfl, rfl, rfl, rfl, rfl, rfl, trivial⟩, hst.pick [1, 0] [1, 2, 0, 3] (by decide), (Nat.zero_le _), (by omega), ho, hkz⟩ ?_
    clear henv hst a
    rintro mz a w58 ⟨j, p, ps, rfl, henv, hst, hj, hp, ho2, hkz2⟩
    refine wp_seq ?_
    refine region_seq ?_
    refine sv (v := .bool (decide (((j : Nat) : Int) < ((n1 : Nat) : Int)))) henv rfl (rn_bin henv rfl rfl rfl) ?_
    clear henv a; intro a henv
    refine wpList_nil ?_
    refine th_n ?_
    refine wp_seq ?_
    refine if_split henv rfl (fun hc59 => ?_) (fun hc59 => ?_)
    · have hlt : j < n1 := by have := of_decide_eq_true hc59; omega
      have hpl : ps.length = n0 + n1 - 1 := by rw [← List.length_map (f := zz), ho2, adN_len, mlN_len]
      obtain ⟨⟨C, d, y⟩, he1⟩ : ∃ e, es1[j]? = some e := ⟨_, List.getElem?_eq_getElem (by omega)⟩
      replace hst := hst.elem (k := 1) rfl he1
      replace hst : St w0 _ [rowS notU 28 2 (some ⟨g51, 0, none⟩) ((n0 + n1) - 1) ((n0 + n1) - 1) (fl fN ps), bk g55 #[.bool (neg x), .slice A (zl x) c] 28] [pfZ C d y, pfRow fN FN 2 A0 n0 c0 es0, pfRow fN FN 2 A1 n1 c1 es1, pfZ A c x, pfEs FN ps] := hst
      replace hst : St w0 _ [rowS notU 28 2 (some ⟨g51, 0, none⟩) ((n0 + n1) - 1) ((n0 + n1) - 1) (fl fN ps), bk g55 #[.bool (neg x), .slice A (zl x) c] 28] [pfZ C d y, pfRow fN FN 2 A0 n0 c0 es0, pfRow fN FN 2 A1 n1 c1 es1, pfZ A c x, pfEs FN ps] := hst
      obtain ⟨⟨E, f, z⟩, he2⟩ : ∃ e, ps[i + j]? = some e := ⟨_, List.getElem?_eq_getElem (by omega)⟩
      replace hst := hst.elemE (k := 4) rfl he2
      replace hst : St w0 _ [rowS notU 28 2 (some ⟨g51, 0, none⟩) ((n0 + n1) - 1) ((n0 + n1) - 1) (fl fN ps), bk g55 #[.bool (neg x), .slice A (zl x) c] 28] [pfZ E f z, pfZ C d y, pfRow fN FN 2 A0 n0 c0 es0, pfRow fN FN 2 A1 n1 c1 es1, pfZ A c x, pfEs FN ps] := hst
      have hy1 : zl y ≤ 1000 := hk1.es hz1 _ (List.mem_of_getElem? he1)
      have hzz : zl z ≤ 2000 + 300 * i + j := hkz2.es rfl _ (List.mem_of_getElem? he2)
      have hxy := zl_mul x y
      refine wp_skip ?_
      refine th_n ?_
      refine wp_seq ?_
      refine wp_block ?_
      refine wp_seq ?_
      refine region_seq ?_
      revert a
      refine mA rfl rfl ?_
      refine sA (v := .pointer (some ⟨ab A1, ao A1 + j * 2, none⟩)) rfl (fun _ henv => rn_idxR (i := j) henv Tryd.underlying32 (ty_anvil_integer_Int.size) rfl rfl (by omega) rfl (show (pfRow fN FN 2 A1 n1 c1 es1).P _ from (hst.pat (k := 3) rfl)).1) ?_
      refine sA (v := .agg #[.bool (neg y), .slice C (zl y) d]) rfl (fun _ henv => rn_loadE (i := j) (e := (C, d, y)) henv ty_anvil_integer_Int rfl rfl fN_len (show (pfRow fN FN 2 A1 n1 c1 es1).P _ from (hst.pat (k := 3) rfl)).1 (by omega) he1 rfl) ?_
      intro a henv
      refine seq_step rfl (op_alloc (c := #[.bool (neg 0), .slice none (zl 0) 0]) henv hst rfl zero_anvil_integer_Int zcells ?_)
      clear henv hst a; intro a w61 g60 henv hst
      refine sv (v := .int .i64 (j : Nat)) henv rfl (rn_assign henv rfl) ?_
      clear henv a; intro a henv
      refine seq_step rfl (op_store (k := 0) (c' := #[.bool (neg y), .slice C (zl y) d]) henv hst (ty_anvil_integer_Int.size) rfl rfl rfl rfl (by simp) rfl rfl ?_)
      clear henv hst a; intro a w62 henv hst
      refine wpList_nil ?_
      refine th_n ?_
      refine wp_seq ?_
      refine region_any (n := 16) (Sk [bk g60 #[.bool (neg y), .slice C (zl y) d] 28, bk g55 #[.bool (neg x), .slice A (zl x) c] 28] [pfZ E f z, pfZ C d y, pfRow fN FN 2 A0 n0 c0 es0, pfRow fN FN 2 A1 n1 c1 es1, pfZ A c x, pfEs FN ps] [15] [rowS notU 28 2 (some ⟨g51, 0, none⟩) ((n0 + n1) - 1) ((n0 + n1) - 1) (fl fN ps)]) mixed rfl henv hst ?_
      clear henv hst; intro w63 henv hst
      refine tM (i := 0) [14, 15] rfl (by kernel_rfl) (fun _ _ _ h => h) henv rfl rfl ?_
      clear henv a; intro a henv
      refine tM (i := 1) [3, 14, 15] rfl (by kernel_rfl) (fun _ _ _ h => h) henv rfl rfl ?_
      clear henv a; intro a henv
      refine tM (i := 2) [3, 14, 15] rfl (by kernel_rfl) (fun _ _ _ h => h) henv rfl rfl ?_
      clear henv a; intro a henv
      refine tA (i := 3) [14, 15] (v := .int .i64 (i + j : Nat)) rfl (by kernel_rfl) (fun _ _ _ h => h) henv rfl (fun _ => rn_add henv rfl rfl (by rw [IntWalk.i64_in _ (by omega)]; omega)) ?_
      clear henv a; intro a henv
      refine tM (i := 4) [8, 9, 13, 14, 15] rfl (by kernel_rfl) (fun _ _ _ h => h) henv rfl rfl ?_
      clear henv a; intro a henv
      refine tM (i := 5) [7, 8, 9, 13, 14, 15] rfl (by kernel_rfl) (fun _ _ _ h => h) henv rfl rfl ?_
      clear henv a; intro a henv
      refine tM (i := 6) [7, 8, 9, 13, 14, 15] rfl (by kernel_rfl) (fun _ _ _ h => h) henv rfl rfl ?_
      clear henv a; intro a henv
      refine tA (i := 7) [8, 9, 13, 14, 15] (v := .int .i64 (i + j : Nat)) rfl (by kernel_rfl) (fun _ _ _ h => h) henv rfl (fun _ => rn_add henv rfl rfl (by rw [IntWalk.i64_in _ (by omega)]; omega)) ?_
      clear henv a; intro a henv
      refine sAny_take (i := 8) [9, 13, 14, 15] (fun w' => (rowS notU 28 2 (some ⟨g51, 0, none⟩) ((n0 + n1) - 1) ((n0 + n1) - 1) (fl fN ps)).P w') (v := .pointer (some ⟨ab (some ⟨g51, 0, none⟩), ao (some ⟨g51, 0, none⟩) + (i + j) * 2, none⟩)) rfl (by kernel_rfl) (fun _ _ _ h => h) (fun _ _ hj hS => (hS.two rfl hj).owns (k := 0) rfl) henv rfl (hst.owns (k := 1) rfl) (fun w' hg => rn_idxR (i := i + j) henv Tryd.underlying32 (ty_anvil_integer_Int.size) rfl rfl (by omega) rfl (rowS_rd hg)) ?_
      clear henv a; intro a henv
      refine sAny_take (i := 9) [13, 14, 15] (fun w' => (rowS notU 28 2 (some ⟨g51, 0, none⟩) ((n0 + n1) - 1) ((n0 + n1) - 1) (fl fN ps)).P w') (v := .agg #[.bool (neg z), .slice E (zl z) f]) rfl (by kernel_rfl) (fun _ _ _ h => h) (fun _ _ hj hS => (hS.two rfl hj).owns (k := 0) rfl) henv rfl (hst.owns (k := 1) rfl) (fun w' hg => rn_loadE (i := i + j) (e := (E, f, z)) henv ty_anvil_integer_Int rfl rfl fN_len (rowS_rd hg) (by omega) he2 rfl) ?_
      clear henv a; intro a henv
      refine tL (i := 10) 1 2 (rg 12 4) rfl (by kernel_rfl) (fun _ _ _ h => h) henv rfl ty_anvil_integer_Int rfl hst rfl rfl rfl ?_
      clear henv a; intro a henv
      refine tL (i := 11) 0 0 (rg 12 4) rfl (by kernel_rfl) (fun _ _ _ h => h) henv rfl ty_anvil_integer_Int rfl hst rfl rfl rfl ?_
      clear henv a; intro a henv
      have hs64 := zl_mul x y
      refine sAny_one (i := 12) (by kernel_rfl) rfl rfl (op_call henv rfl Tryd.call43 rfl (mul_z (x := x) (y := y) (show ZIn _ A c x from hst.pat (k := 4) rfl) (show ZIn _ C d y from hst.pat (k := 1) rfl) (by omega) (by omega)) ?_)
      rintro e w68 ⟨_, rfl, ⟨A65, c66, rfl, hz67⟩, hb⟩
      refine ⟨_, rfl, ?_⟩
      clear henv a; intro a henv
      replace hst := (hst.call hb).addZ hz67 ⟨nou_bk rfl, nou_rowS, nou_bk rfl, trivial⟩
      clear hz67
      clear hb
      refine ⟨.inr ⟨hst.kn.pick [0, 2] (rg 1 6), .inr (hst.kn.pick [1] [])⟩, ?_⟩
      have hs69 := zl_add z (x * y)
      refine sAny_one (i := 13) (by kernel_rfl) rfl rfl (op_call henv rfl Tryd.call49 rfl (add_z (x := z) (y := x * y) (show ZIn _ E f z from hst.pat (k := 1) rfl) (show ZIn _ A65 c66 (x * y) from hst.pat (k := 0) rfl) (by omega) (by omega)) ?_)
      rintro e w73 ⟨_, rfl, ⟨A70, c71, rfl, hz72⟩, hb⟩
      refine ⟨_, rfl, ?_⟩
      clear henv a; intro a henv
      replace hst := (hst.call hb).addZ hz72 ⟨nou_bk rfl, nou_rowS, nou_bk rfl, trivial⟩
      clear hz72
      clear hb
      refine ⟨.inr ⟨hst.kn.pick [0, 2] (rg 2 6), .inr (hst.kn.pick [1] [])⟩, ?_⟩
      refine sAny_take (i := 14) [15] (fun w' => (rowS notU 28 2 (some ⟨g51, 0, none⟩) ((n0 + n1) - 1) ((n0 + n1) - 1) (fl fN ps)).P w') (v := .pointer (some ⟨ab (some ⟨g51, 0, none⟩), ao (some ⟨g51, 0, none⟩) + (i + j) * 2, none⟩)) rfl (by kernel_rfl) (fun _ _ _ h => h) (fun _ _ hj hS => (hS.two rfl hj).owns (k := 0) rfl) henv rfl (hst.owns (k := 1) rfl) (fun w' hg => rn_idxR (i := i + j) henv Tryd.underlying32 (ty_anvil_integer_Int.size) rfl rfl (by omega) rfl (rowS_rd hg)) ?_
      clear henv a; intro a henv
      refine sAny_one (i := 15) (by kernel_rfl) rfl rfl (op_storeS (i := i + j) (e := (A70, c71, (z + (x * y)))) (k := 1) henv hst (ty_anvil_integer_Int.size) rfl rfl rfl rfl fN_len (by omega) hpl rfl rfl rfl ?_)
      clear henv hst a; intro a w74 henv hst
      replace hst := hst.setEs (e := (A70, c71, (z + (x * y)))) (i := 7) (j := 0) rfl rfl (i + j)
      refine ⟨.inr ⟨hst.kn.pick [0, 2] (rg 3 6), .inl rfl⟩, ?_⟩
      refine sAny_done (by kernel_rfl) ?_ _
      refine th_n ?_
      refine region_seq ?_
      revert a
      refine mA rfl rfl ?_
      refine sA (v := .int .i64 (p + 1 : Nat)) rfl (fun _ henv => rn_add henv rfl rfl (by rw [IntWalk.i64_in _ (by omega)]; omega)) ?_
      refine aA rfl rfl ?_
      intro a henv
      refine wpList_nil ?_
      refine bl_n (th_n ?_)
      refine region_seq ?_
      revert a
      refine sA (v := .int .i64 (j + 1 : Nat)) rfl (fun _ henv => rn_add henv rfl rfl (by rw [IntWalk.i64_in _ (by omega)]; omega)) ?_
      refine mA rfl rfl ?_
      intro a henv
      refine wpList_nil ?_
      exact th_n ⟨_, (by omega), ⟨j + 1, p + 1, (ps.set (i + j) (A70, c71, (z + (x * y)))), rfl, henv.sub ⟨rfl, rfl, rfl, rfl, rfl, rfl, rfl, rfl, rfl, rfl, rfl, trivial⟩, hst.pick [1, 2] [5, 6, 7, 0] (by decide), (by omega), (by omega), (ml_step ho2 hz1 he1 he2), (zk_set hkz2 (by have := zl_addm z (x * y); have := zl_mul x y; omega) (by omega))⟩⟩
    · obtain rfl : n1 = j := by have := of_decide_eq_false hc59; omega
      refine wp_exit ?_
      refine th_x (th_x (bl_x (bl_n (th_n ?_))))
      refine region_seq ?_
      revert a
      refine sA (v := .int .i64 (i + 1 : Nat)) rfl (fun _ henv => rn_add henv rfl rfl (by rw [IntWalk.i64_in _ (by omega)]; omega)) ?_
      refine mA rfl rfl ?_
      intro a henv
      refine wpList_nil ?_
      exact th_n ⟨_, (by omega), ⟨i + 1, p, ps, rfl, henv.sub ⟨rfl, rfl, rfl, rfl, rfl, rfl, trivial⟩, hst.pick [0] [0, 1, 3] (by decide), (by omega), (by rw [Nat.succ_mul]; omega), (by rw [ho2, mlN, hyl, hxi]), (hkz2.mono (by omega))⟩⟩
  · obtain rfl : n0 = i := by have := of_decide_eq_false hc54; omega
    refine wp_exit ?_
    refine th_x (th_x (bl_x (th_n ?_)))
    refine wp_seq ?_
    refine region_seq ?_
    revert a
    refine mA rfl rfl ?_
    refine mA rfl rfl ?_
    refine aA rfl rfl ?_
    refine aA rfl rfl ?_
    intro a henv
    refine wpList_nil ?_
    refine th_n ?_
    refine wp_ret ?_
    refine leave henv (res2 Tryd.results24 (RV.tmp henv rfl) (RV.tmp henv rfl)) ?_
    subst hq
    exact ⟨_, rfl, ⟨_, _, os, rfl, hst.newRow (k := 0) (j := 2) rfl rfl, (by rw [← List.length_map (f := zz), ho, mlN_len]), ho⟩, hst.below⟩
end Go.Proofs.YtghaenkacjgdnaaDoor.W

/- Plain laws of polynomials: coefficients, products, degrees, values. No program. No condition. -/
namespace Go.Proofs.YtghaenkacjgdnaaDoor.W
open Go.RowKit Anv Go.Lib
def sg (f : Nat → Int) : Nat → Int
  | 0 => 0
  | n + 1 => sg f n + f n
theorem sg_add (f g : Nat → Int) : ∀ n, sg (fun i => f i + g i) n = sg f n + sg g n
  | 0 => rfl
  | n + 1 => by rw [sg, sg, sg, sg_add f g n]; omega
theorem sg_mul (c : Int) (f : Nat → Int) : ∀ n, sg (fun i => c * f i) n = c * sg f n
  | 0 => (Int.mul_zero c).symm
  | n + 1 => by rw [sg, sg, sg_mul c f n, Int.mul_add]
abbrev co (xs : List Int) (k : Nat) : Int := xs.getD k 0
theorem co_off {xs : List Int} {k : Nat} (h : xs.length ≤ k) : co xs k = 0 := by
  rw [co, List.getD_eq_getElem?_getD, List.getElem?_eq_none h]; rfl
theorem co_ext {xs ys : List Int} (hl : xs.length = ys.length) (h : ∀ k, co xs k = co ys k) : xs = ys := by
  apply List.ext_getElem?
  intro k
  rcases Nat.lt_or_ge k xs.length with h1 | h1
  · have := h k
    rw [co, co, List.getD_eq_getElem?_getD, List.getD_eq_getElem?_getD, List.getElem?_eq_getElem h1, List.getElem?_eq_getElem (by omega)] at this
    rw [List.getElem?_eq_getElem h1, List.getElem?_eq_getElem (by omega)]
    exact congrArg some this
  · rw [List.getElem?_eq_none h1, List.getElem?_eq_none (by omega)]
def cv (f g : Nat → Int) (k : Nat) : Int := sg (fun i => f i * g (k - i)) (k + 1)
def mulF (xs ys : List Int) : List Int := if xs.length = 0 ∨ ys.length = 0 then [] else mlN xs ys (xs.length + ys.length - 1) xs.length
def addF (xs ys : List Int) : List Int := (List.range (max xs.length ys.length)).map (sumF xs ys)
def difF (xs ys : List Int) (i : Nat) : Int := xs.getD i 0 - ys.getD i 0
def subF (xs ys : List Int) : List Int := (List.range (max xs.length ys.length)).map (difF xs ys)
theorem deg_len (xs : List Int) : degN xs ≤ xs.length := by
  unfold degN
  refine Nat.le_trans (List.dropWhile_sublist _).length_le ?_
  rw [List.length_reverse]
  exact Nat.le_refl _
theorem co_app {xs : List Int} {x : Int} {k : Nat} (h : k < xs.length) : co (xs ++ [x]) k = co xs k := by
  rw [co, co, List.getD_eq_getElem?_getD, List.getD_eq_getElem?_getD, List.getElem?_append_left h]
theorem co_last (xs : List Int) (x : Int) : co (xs ++ [x]) xs.length = x := by
  rw [co, List.getD_eq_getElem?_getD, List.getElem?_append_right (Nat.le_refl _), Nat.sub_self]; rfl
theorem co_snoc0 (xs : List Int) (k : Nat) : co (xs ++ [0]) k = co xs k := by
  rcases Nat.lt_or_ge k xs.length with h | h
  · exact co_app h
  · rcases Nat.lt_or_ge xs.length k with h1 | h1
    · rw [co_off (by rw [List.length_append]; simp; omega), co_off h]
    · obtain rfl : k = xs.length := by omega
      rw [co_last, co_off (Nat.le_refl _)]
theorem deg_le : ∀ (m : Nat) (xs : List Int), xs.length = m → ∀ n, degN xs ≤ n ↔ ∀ k, n ≤ k → co xs k = 0 := by
  intro m
  induction m with
  | zero =>
    intro xs hl n
    obtain rfl := List.eq_nil_of_length_eq_zero hl
    exact ⟨fun _ k _ => rfl, fun _ => Nat.zero_le _⟩
  | succ m ih =>
    intro xs hl n
    rcases List.eq_nil_or_concat xs with rfl | ⟨l, x, rfl⟩
    · cases hl
    · rw [List.concat_eq_append] at hl ⊢
      rw [List.length_append] at hl
      have hl2 : l.length = m := by simpa using hl
      clear hl
      by_cases hx : x = 0
      · subst hx
        rw [deg_snoc0, ih l hl2]
        exact ⟨fun h k hk => (co_snoc0 l k).trans (h k hk), fun h k hk => (co_snoc0 l k).symm.trans (h k hk)⟩
      · rw [deg_snoc hx]
        refine ⟨fun h k hk => co_off (by rw [List.length_append]; simp; omega), fun h => ?_⟩
        refine Nat.lt_of_not_le fun h1 => hx ?_
        rw [← co_last l x]
        exact h _ h1
theorem deg_iff (xs : List Int) (n : Nat) : degN xs ≤ n ↔ ∀ k, n ≤ k → co xs k = 0 := deg_le _ xs rfl n
def trimN (xs : List Int) : List Int := xs.take (degN xs)
theorem trim_len (xs : List Int) : (trimN xs).length = degN xs := by
  rw [trimN, List.length_take]
  exact Nat.min_eq_left (deg_len xs)
theorem co_trim (xs : List Int) (k : Nat) : co (trimN xs) k = co xs k := by
  rcases Nat.lt_or_ge k (degN xs) with h | h
  · rw [co, co, List.getD_eq_getElem?_getD, List.getD_eq_getElem?_getD, trimN, List.getElem?_take_of_lt h]
  · rw [co_off (by rw [trim_len]; exact h), (deg_iff xs (degN xs)).1 (Nat.le_refl _) k h]
theorem trim_eq {xs ys : List Int} : trimN xs = trimN ys ↔ ∀ k, co xs k = co ys k := by
  constructor
  · intro h k
    rw [← co_trim xs, ← co_trim ys, h]
  · intro h
    have e : degN xs = degN ys := Nat.le_antisymm ((deg_iff _ _).2 fun k hk => (h k).trans ((deg_iff _ _).1 (Nat.le_refl _) k hk)) ((deg_iff _ _).2 fun k hk => (h k).symm.trans ((deg_iff _ _).1 (Nat.le_refl _) k hk))
    exact co_ext (by rw [trim_len, trim_len, e]) fun k => by rw [co_trim, co_trim, h]
def hval (a b : Int) : List Int → Int
  | [] => 0
  | x :: xs => hval a b xs * a + x * b ^ xs.length
def I16 (n : Int) : Prop := -16 ≤ n ∧ n ≤ 16
instance (n : Int) : Decidable (I16 n) := by unfold I16; infer_instance
end Go.Proofs.YtghaenkacjgdnaaDoor.W

/- row.Neg, Scale, Combine, Dot, integer.Sum; the reference's Combine, Add, Sub, Scale, Dot; the laws' is, own. Printed by pv/gen_row8.py. No condition. -/
namespace Go.Proofs.YtghaenkacjgdnaaDoor.W
open Go.RowKit Anv Go.Lib
theorem ztake_snoc {es : List NE} {xs : List Int} {j : Nat} {A : Option Addr} {c : Nat} {z : Int} (hz : es.map zz = xs) (he : es[j]? = some (A, c, z)) : xs.take (j + 1) = xs.take j ++ [z] :=
  take_one (by rw [← hz, List.getElem?_map, he]; rfl)
end Go.Proofs.YtghaenkacjgdnaaDoor.W

/- row.Read; the reference's Read, Text. Printed by pv/gen_rowD.py. No condition. -/
namespace Go.Proofs.YtghaenkacjgdnaaDoor.W
open Go.RowKit Anv Go.Lib
theorem take_two {s : List UInt8} (h0 : (s.getD 0 0).toNat = 91) (h1 : 1 < s.length) (h2 : (s.getD 1 0).toNat = 93) : s.take 2 = [91, 93] := by
  match s, h1 with
  | a :: b :: r, _ => rw [byte_eq (c := a) h0 91 rfl, byte_eq (c := b) h2 93 rfl]; rfl
theorem two_text {s : List UInt8} (h0 : (s.getD 0 0).toNat = 91) (h1 : (s.getD 1 0).toNat = 93) (h2 : s.length = 2) : s = [91, 93] := by
  have h := take_two h0 (by omega) h1
  rwa [List.take_of_length_le (by omega)] at h
theorem bne_false {a b : Int} (h : a = b) : (a != b) = false := by rw [h]; exact bne_self_eq_false _
theorem eq_of_bneF {a b : Int} (h : (a != b) = false) : a = b := by simpa using h
def Wd (t : List UInt8) (z p q : Int) : Prop := (p = 0 ∧ q = 0 ∧ Rz t z) ∨ (p = 6 ∧ ∃ b : Nat, q = b ∧ Rb t b)
def Wr (t : List UInt8) (z b : Int) : Prop := (b = -1 ∧ Rz t z) ∨ ∃ c : Nat, b = c ∧ Rb t c
theorem zin_at2 (w : World) : ZAt w (.agg #[.bool (neg 0), .slice none (zl 0) 0]) 0 := ⟨_, _, rfl, zin_none _⟩
theorem rin_at2 (w : World) : RAt w (.agg #[.bool (neg 0), .slice none (dl 0) 0]) 0 := ⟨_, _, rfl, rin_none _⟩
theorem iread_w {t : List UInt8} {w0 : World} (hl : t.length ≤ 65536) :
    Calls Tryd.prog 99 #[.string ⟨t.toArray⟩] w0 fun e w' => ∃ z p q v, e = .returned (.tuple #[v, .agg #[.int .i64 p, .int .i64 q]]) ∧ ZAt w' v z ∧ Wd t z p q ∧ Below w0.heap.size w0 w' := by
  rcases word_cases t with ⟨z, h⟩ | ⟨b, h⟩
  · exact (iread_rz h hl).mono fun e w' ⟨v, he, hz, hb⟩ => ⟨z, 0, 0, v, he, hz, .inl ⟨rfl, rfl, h⟩, hb⟩
  · exact (iread_rb h hl).mono fun e w' ⟨he, hb⟩ => ⟨0, 6, b, _, he, zin_at2 _, .inr ⟨rfl, b, rfl, h⟩, hb⟩
theorem rread_w {t : List UInt8} {w0 : World} (hl : t.length ≤ 65536) :
    Calls Tryd.prog 80 #[.string ⟨t.toArray⟩] w0 fun e w' => ∃ z b v, e = .returned (.tuple #[v, .int .i64 b]) ∧ RAt w' v z ∧ Wr t z b ∧ Below w0.heap.size w0 w' := by
  rcases word_cases t with ⟨z, h⟩ | ⟨b, h⟩
  · exact (rread_rz h hl).mono fun e w' ⟨v, he, hz, hb⟩ => ⟨z, -1, v, he, hz, .inl ⟨rfl, h⟩, hb⟩
  · exact (rread_rb h hl).mono fun e w' ⟨he, hb⟩ => ⟨0, b, _, he, rin_at2 _, .inr ⟨b, rfl, h⟩, hb⟩
theorem wd_bad {t : List UInt8} {z p q : Int} (h : Wd t z p q) (k : (p != 0) = true) : p = 6 ∧ ∃ b : Nat, q = b ∧ Rb t b := by
  rcases h with ⟨h1, _⟩ | h
  · rw [h1] at k; cases k
  · exact h
theorem wd_ok {t : List UInt8} {z p q : Int} (h : Wd t z p q) (k : (p != 0) = false) : p = 0 ∧ q = 0 ∧ Rz t z := by
  rcases h with h | ⟨h1, _⟩
  · exact h
  · rw [h1] at k; cases k
theorem wr_bad {t : List UInt8} {z b : Int} (h : Wr t z b) (k : b ≥ 0) : ∃ c : Nat, b = c ∧ Rb t c := by
  rcases h with ⟨h1, _⟩ | h
  · omega
  · exact h
theorem wr_ok {t : List UInt8} {z b : Int} (h : Wr t z b) (k : ¬ b ≥ 0) : Rz t z := by
  rcases h with ⟨_, h⟩ | ⟨c, h, _⟩
  · exact h
  · omega
theorem rb_le {t : List UInt8} {b : Nat} (h : Rb t b) : b ≤ t.length := by
  rcases h with ⟨d, b', rfl, h2, rfl⟩ | ⟨_, h2⟩
  · rcases h2.1 with ⟨h3, _⟩ | ⟨h3, _⟩ <;> rw [List.length_cons] <;> omega
  · rcases h2.1 with ⟨h3, _⟩ | ⟨h3, _⟩ <;> omega
theorem range_step {s : List UInt8} {p q : Nat} {C : UInt8 → Prop} (h : ∀ i, p ≤ i → i < q → C (s.getD i 0)) (hq : C (s.getD q 0)) : ∀ i, p ≤ i → i < q + 1 → C (s.getD i 0) := fun i h1 h2 => by
  rcases Nat.lt_or_ge i q with h3 | h3
  · exact h i h1 h3
  · obtain rfl : i = q := by omega
    exact hq
theorem sen_cases (s : List UInt8) (q : Nat) (h : q ≤ s.length) : (q = s.length) ∨ (q < s.length ∧ (s.getD q 0).toNat = 45) ∨ (q < s.length ∧ (s.getD q 0).toNat ≠ 45 ∧ (s.getD q 0).toNat < 48) ∨ (q < s.length ∧ 48 ≤ (s.getD q 0).toNat ∧ (s.getD q 0).toNat ≤ 57) ∨ (q < s.length ∧ 57 < (s.getD q 0).toNat) := by omega
theorem seg_cases (s : List UInt8) (q : Nat) (h : q ≤ s.length) : (q = s.length) ∨ (q < s.length ∧ (s.getD q 0).toNat = 32) ∨ (q < s.length ∧ (s.getD q 0).toNat = 93) ∨ (q < s.length ∧ (s.getD q 0).toNat ≠ 32 ∧ (s.getD q 0).toNat ≠ 93) := by omega
theorem seg_fin {s : List UInt8} {p q : Nat} {z : Int} {zs : List Int} (h : Seg s p q) (hz : Rz (cutw s p q) z) (hq : q = s.length) : Go s p zs (.inr q) := by
  subst hq
  exact .fin h hz
theorem go_fin {s : List UInt8} {p q : Nat} {z : Int} {zs : List Int} (h : Sen s p q) (hz : Rz (cutw s p q) z) (hq : q = s.length) : Go s p zs (.inr q) := seg_fin (sen_stp h fun h => by omega) hz hq
def preT (zs : List Int) : List UInt8 := 91 :: zs.flatMap fun z => textZ z ++ [32]
theorem pre_nil {s : List UInt8} (h : s ≠ []) (h0 : (s.getD 0 0).toNat = 91) : s.take 1 = preT [] := by
  cases s with
  | nil => exact absurd rfl h
  | cons a s => rw [byte_eq (c := a) h0 91 rfl]; rfl
theorem pre_step {s : List UInt8} {p q : Nat} {z : Int} {zs : List Int} (h : s.take p = preT zs) (hz : Rz (cutw s p q) z) (h1 : p ≤ q) (h2 : q < s.length) (hc : (s.getD q 0).toNat = 32) : s.take (q + 1) = preT (zs ++ [z]) := by
  have e : s.take (q + 1) = s.take p ++ (s.drop p).take (q + 1 - p) := by rw [← List.take_add, show p + (q + 1 - p) = q + 1 by omega]
  rw [e, drop_cut h1 h2, h]
  unfold preT
  rw [List.flatMap_append, List.take_append, cutw_len h1 (by omega), List.take_of_length_le (by rw [cutw_len h1 (by omega)]; omega), show q + 1 - p - (q - p) = 1 by omega, ← rz_back hz, byte_eq hc 32 rfl]
  simp
theorem zrow_nil (B : Nat) (w : World) : ZRow B w (.slice none 0 0) 0 [] := ⟨none, 0, [], rfl, ⟨⟨World.ownsRow_nil w 0 _ 2, fun g hg => by simp [Value.ownBlock] at hg⟩, es_nil FN w, fun a h => by cases h⟩, rfl, rfl⟩
theorem mrow_nil {B g : Nat} {w : World} (h : w.heap[g]? = some (.cells #[] 39 (0, 0))) (hg : B ≤ g) : MRow B w (.slice (some ⟨g, 0, none⟩) 0 0) 0 [] :=
  ⟨_, 0, [], rfl, ⟨⟨⟨rfl, .inr ⟨g, 0, #[], rfl, Nat.zero_le _, h, Nat.le_refl _, by decide, rfl, rfl⟩⟩, fun g' hg' => by
    obtain rfl : g = g' := by simpa [Value.ownBlock] using hg'
    exact ⟨#[], h, rfl⟩⟩, es_nil FM w, fun a h => by cases h; exact hg⟩, rfl, rfl⟩
theorem rtxt_step {es : List NE} {xs : List Int} {j : Nat} {A : Option Addr} {c : Nat} {z : Int} (hz : es.map zz = xs) (he : es[j]? = some (A, c, z)) : (xs.take (j + 1)).map textZ = (xs.take j).map textZ ++ [textZ z] := by
  rw [ztake_snoc hz he, List.map_append]
  rfl
theorem txt_one {es : List NE} {xs : List Int} {j : Nat} {A : Option Addr} {c : Nat} {z : Int} {t : List UInt8} (hz : es.map zz = xs) (ht : t = 91 :: jn ((xs.take j).map textZ)) (he : es[j]? = some (A, c, z)) (h0 : j = 0) : t ++ textZ z = 91 :: jn ((xs.take (j + 1)).map textZ) := by
  rw [rtxt_step hz he, ht, h0]
  simp [jn]
theorem txt_more {es : List NE} {xs : List Int} {j : Nat} {A : Option Addr} {c : Nat} {z : Int} {t : List UInt8} (hz : es.map zz = xs) (ht : t = 91 :: jn ((xs.take j).map textZ)) (he : es[j]? = some (A, c, z)) (h0 : 0 < j) : (t ++ [32]) ++ textZ z = 91 :: jn ((xs.take (j + 1)).map textZ) := by
  have hne : (xs.take j).map textZ ≠ [] := by
    intro e
    have h1 := congrArg List.length e
    have h2 : j < xs.length := by rw [← hz, List.length_map]; exact (List.getElem?_eq_some_iff.1 he).1
    rw [List.length_map, List.length_take, List.length_nil] at h1
    omega
  rw [rtxt_step hz he, jn_snoc _ _ hne, ht]
  simp
theorem rtxt_len {xs : List Int} {j : Nat} {t : List UInt8} (hk : Zk 2000 xs) (hj : j ≤ 400) (ht : t = 91 :: jn ((xs.take j).map textZ)) : t.length ≤ 9000000 := by
  have h1 : ∀ s ∈ (xs.take j).map textZ, s.length ≤ 20002 := by
    intro s hs
    obtain ⟨z, hz, rfl⟩ := List.mem_map.1 hs
    have h1 := textZ_bd z
    have h2 := hk z (List.mem_of_mem_take hz)
    omega
  have h2 := jn_len h1
  have h3 : ((xs.take j).map textZ).length * (20002 + 1) ≤ 400 * (20002 + 1) := Nat.mul_le_mul_right _ (by rw [List.length_map, List.length_take]; omega)
  rw [ht, List.length_cons]
  omega
set_option maxRecDepth 100000 in
set_option maxHeartbeats 2000000 in
theorem hp_short {s : List UInt8} {w0 : World} (h : s.length < 2) :
    Calls Tryd.prog 107 #[.string ⟨s.toArray⟩, .string ⟨#[91, 93]⟩] w0 fun e w' => e = .returned (.bool false) ∧ Below w0.heap.size w0 w' := by
  refine enter Tryd.func107 rfl Tryd.ntmps107 rfl ?_
  intro a henv hst
  refine wp_seq ?_
  refine region_seq ?_
  refine sv (v := .bool false) henv rfl (rn_assign henv rfl) ?_
  clear henv a; intro a henv
  refine wpList_nil ?_
  refine th_n ?_
  refine wp_seq ?_
  refine region_seq ?_
  revert a
  refine mA rfl rfl ?_
  refine sA (v := .int .i64 (s.length : Nat)) rfl (fun _ henv => rn_lenS henv Tryd.underlying9 rfl) ?_
  refine mA rfl rfl ?_
  refine sA (v := .int .i64 2) rfl (fun _ henv => rn_slen (s := ⟨#[91, 93]⟩) henv Tryd.underlying9 rfl) ?_
  refine sA (v := .bool (decide (((s.length : Nat) : Int) ≥ (2 : Int)))) rfl (fun _ henv => rn_bin henv rfl rfl rfl) ?_
  intro a henv
  rw [show (decide (((s.length : Nat) : Int) ≥ (2 : Int))) = false from decide_eq_false (by omega)] at henv
  revert a
  refine mA rfl rfl ?_
  refine kA rfl rfl rfl rfl rfl ?_
  refine kA rfl rfl rfl rfl rfl ?_
  refine kA rfl rfl rfl rfl rfl ?_
  refine kA rfl rfl rfl rfl rfl ?_
  refine kA rfl rfl rfl rfl rfl ?_
  refine kA rfl rfl rfl rfl rfl ?_
  refine sA (v := .bool false) rfl (fun _ henv => rn_pick henv rfl rfl) ?_
  refine aA rfl rfl ?_
  intro a henv
  refine wpList_nil ?_
  refine th_n ?_
  refine wp_ret ?_
  refine leave henv (res1 Tryd.results107 (RV.tmp henv rfl)) ?_
  exact ⟨rfl, hst.below⟩
set_option maxRecDepth 100000 in
set_option maxHeartbeats 2000000 in
theorem hpx_short {s : List UInt8} {w0 : World} (h : s.length < 2) :
    Calls Tryd.prog 98 #[.string ⟨s.toArray⟩, .string ⟨#[91, 93]⟩] w0 fun e w' => e = .returned (.bool false) ∧ Below w0.heap.size w0 w' := by
  refine enter Tryd.func98 rfl Tryd.ntmps98 rfl ?_
  intro a henv hst
  refine wp_seq ?_
  refine region_seq ?_
  refine sv (v := .bool false) henv rfl (rn_assign henv rfl) ?_
  clear henv a; intro a henv
  refine wpList_nil ?_
  refine th_n ?_
  refine wp_seq ?_
  refine region_seq ?_
  revert a
  refine mA rfl rfl ?_
  refine mA rfl rfl ?_
  intro a henv
  refine seq_step rfl (op_call henv rfl Tryd.call107 rfl (hp_short h) ?_)
  rintro e w51 ⟨rfl, hb⟩
  refine ⟨_, rfl, ?_⟩
  clear henv a; intro a henv
  replace hst := hst.call hb
  clear hb
  refine sv (v := .bool false) henv rfl (rn_assign henv rfl) ?_
  clear henv a; intro a henv
  refine wpList_nil ?_
  refine th_n ?_
  refine wp_ret ?_
  refine leave henv (res1 Tryd.results98 (RV.tmp henv rfl)) ?_
  exact ⟨rfl, hst.below⟩
set_option maxRecDepth 100000 in
set_option maxHeartbeats 2000000 in
theorem hp_long {s : List UInt8} {w0 : World} (h : 2 ≤ s.length) :
    Calls Tryd.prog 107 #[.string ⟨s.toArray⟩, .string ⟨#[91, 93]⟩] w0 fun e w' => e = .returned (.bool (decide (s.take 2 = [91, 93]))) ∧ Below w0.heap.size w0 w' := by
  refine enter Tryd.func107 rfl Tryd.ntmps107 rfl ?_
  intro a henv hst
  refine wp_seq ?_
  refine region_seq ?_
  refine sv (v := .bool false) henv rfl (rn_assign henv rfl) ?_
  clear henv a; intro a henv
  refine wpList_nil ?_
  refine th_n ?_
  refine wp_seq ?_
  refine region_seq ?_
  revert a
  refine mA rfl rfl ?_
  refine sA (v := .int .i64 (s.length : Nat)) rfl (fun _ henv => rn_lenS henv Tryd.underlying9 rfl) ?_
  refine mA rfl rfl ?_
  refine sA (v := .int .i64 2) rfl (fun _ henv => rn_slen (s := ⟨#[91, 93]⟩) henv Tryd.underlying9 rfl) ?_
  refine sA (v := .bool (decide (((s.length : Nat) : Int) ≥ (2 : Int)))) rfl (fun _ henv => rn_bin henv rfl rfl rfl) ?_
  intro a henv
  rw [show (decide (((s.length : Nat) : Int) ≥ (2 : Int))) = true from decide_eq_true (by omega)] at henv
  revert a
  refine mA rfl rfl ?_
  refine gA (v := .string ⟨s.toArray⟩) rfl rfl rfl rfl (fun _ henv => rn_move henv rfl) ?_
  refine gA (v := .string ⟨#[91, 93]⟩) rfl rfl rfl rfl (fun _ henv => rn_move henv rfl) ?_
  refine gA (v := .int .i64 2) rfl rfl rfl rfl (fun _ henv => rn_slen (s := ⟨#[91, 93]⟩) henv Tryd.underlying9 rfl) ?_
  refine gA (v := .string ⟨(s.take 2).toArray⟩) rfl rfl rfl rfl (fun _ henv => rn_takeS (n := 2) henv Tryd.underlying9 rfl rfl (by omega)) ?_
  refine gA (v := .string ⟨#[91, 93]⟩) rfl rfl rfl rfl (fun _ henv => rn_move henv rfl) ?_
  refine gA (v := .bool (decide ((s.take 2) = [91, 93]))) rfl rfl rfl rfl (fun _ henv => rn_eqls (s := (s.take 2)) (t := [91, 93]) henv rfl rfl) ?_
  refine sA (v := .bool (decide ((s.take 2) = [91, 93]))) rfl (fun _ henv => rn_pick henv rfl rfl) ?_
  refine aA rfl rfl ?_
  intro a henv
  refine wpList_nil ?_
  refine th_n ?_
  refine wp_ret ?_
  refine leave henv (res1 Tryd.results107 (RV.tmp henv rfl)) ?_
  exact ⟨rfl, hst.below⟩
set_option maxRecDepth 100000 in
set_option maxHeartbeats 2000000 in
theorem hpx_long {s : List UInt8} {w0 : World} (h : 2 ≤ s.length) :
    Calls Tryd.prog 98 #[.string ⟨s.toArray⟩, .string ⟨#[91, 93]⟩] w0 fun e w' => e = .returned (.bool (decide (s.take 2 = [91, 93]))) ∧ Below w0.heap.size w0 w' := by
  refine enter Tryd.func98 rfl Tryd.ntmps98 rfl ?_
  intro a henv hst
  refine wp_seq ?_
  refine region_seq ?_
  refine sv (v := .bool false) henv rfl (rn_assign henv rfl) ?_
  clear henv a; intro a henv
  refine wpList_nil ?_
  refine th_n ?_
  refine wp_seq ?_
  refine region_seq ?_
  revert a
  refine mA rfl rfl ?_
  refine mA rfl rfl ?_
  intro a henv
  refine seq_step rfl (op_call henv rfl Tryd.call107 rfl (hp_long h) ?_)
  rintro e w51 ⟨rfl, hb⟩
  refine ⟨_, rfl, ?_⟩
  clear henv a; intro a henv
  replace hst := hst.call hb
  clear hb
  refine sv (v := .bool (decide (s.take 2 = [91, 93]))) henv rfl (rn_assign henv rfl) ?_
  clear henv a; intro a henv
  refine wpList_nil ?_
  refine th_n ?_
  refine wp_ret ?_
  refine leave henv (res1 Tryd.results98 (RV.tmp henv rfl)) ?_
  exact ⟨rfl, hst.below⟩
theorem hpx_no {s : List UInt8} {w0 : World} (h : ¬ (1 < s.length ∧ (s.getD 1 0).toNat = 93)) :
    Calls Tryd.prog 98 #[.string ⟨s.toArray⟩, .string ⟨#[91, 93]⟩] w0 fun e w' => e = .returned (.bool false) ∧ Below w0.heap.size w0 w' := by
  rcases Nat.lt_or_ge s.length 2 with h2 | h2
  · exact hpx_short h2
  · have h3 := hpx_long (w0 := w0) h2
    rw [decide_eq_false (fun e => h ⟨by omega, by rw [show s.getD 1 0 = (s.take 2).getD 1 0 by simp [List.getD_eq_getElem?_getD], e]; rfl⟩)] at h3
    exact h3
theorem hpx_yes {s : List UInt8} {w0 : World} (h0 : (s.getD 0 0).toNat = 91) (h1 : 1 < s.length) (h2 : (s.getD 1 0).toNat = 93) :
    Calls Tryd.prog 98 #[.string ⟨s.toArray⟩, .string ⟨#[91, 93]⟩] w0 fun e w' => e = .returned (.bool true) ∧ Below w0.heap.size w0 w' := by
  have h3 := hpx_long (w0 := w0) (s := s) (by omega)
  rw [decide_eq_true (take_two h0 h1 h2)] at h3
  exact h3
set_option maxRecDepth 100000 in
set_option maxHeartbeats 2000000 in
theorem row_wrong {p : Nat} {w0 : World} :
    Calls Tryd.prog 97 #[.int .i64 (p : Nat)] w0 fun e w' => e = .returned (.tuple #[.slice none 0 0, .agg #[.int .i64 6, .int .i64 (p : Nat)]]) ∧ Below w0.heap.size w0 w' := by
  refine enter Tryd.func97 rfl Tryd.ntmps97 rfl ?_
  intro a henv hst
  refine wp_seq ?_
  refine region_seq ?_
  refine sv (v := .slice none 0 0) henv rfl (rn_assign henv rfl) ?_
  clear henv a; intro a henv
  refine seq_step rfl (op_alloc (c := #[.int .i64 0, .int .i64 0]) henv hst rfl zero_anvil_api_Spot rfl ?_)
  clear henv hst a; intro a w52 g51 henv hst
  refine wpList_nil ?_
  refine th_n ?_
  refine wp_seq ?_
  refine region_seq ?_
  revert a
  refine mA rfl rfl ?_
  refine sA (v := .agg #[.int .i64 6, .int .i64 (p : Nat)]) rfl (fun _ henv => rn_spot2 henv rfl rfl) ?_
  refine aA rfl rfl ?_
  intro a henv
  refine seq_step rfl (op_store (k := 0) (c' := #[.int .i64 6, .int .i64 (p : Nat)]) henv hst (ty_anvil_api_Spot.size) rfl rfl rfl rfl (by simp) rfl rfl ?_)
  clear henv hst a; intro a w53 henv hst
  refine wpList_nil ?_
  refine th_n ?_
  refine wp_ret ?_
  refine leave henv (res2 Tryd.results97 (RV.tmp henv rfl) (RV.cell henv ty_anvil_api_Spot rfl (hst.oat (k := 0) rfl) rfl)) ?_
  exact ⟨rfl, hst.below⟩
set_option maxRecDepth 100000 in
set_option maxHeartbeats 2000000 in
theorem row_read_long {s : List UInt8} {w0 : World} (hl : 65536 < s.length) (_hm : s.length ≤ maxLen) :
    Calls Tryd.prog 78 #[.string ⟨s.toArray⟩] w0 fun e w' => e = .returned (.tuple #[.slice none 0 0, .agg #[.int .i64 3, .int .i64 65536]]) ∧ Below w0.heap.size w0 w' := by
  refine enter Tryd.func78 rfl Tryd.ntmps78 rfl ?_
  intro a henv hst
  refine wp_seq ?_
  refine region_seq ?_
  refine sv (v := .slice none 0 0) henv rfl (rn_assign henv rfl) ?_
  clear henv a; intro a henv
  refine seq_step rfl (op_alloc (c := #[.int .i64 0, .int .i64 0]) henv hst rfl zero_anvil_api_Spot rfl ?_)
  clear henv hst a; intro a w52 g51 henv hst
  refine wpList_nil ?_
  refine th_n ?_
  refine wp_scope_straight ?_
  refine wp_seq ?_
  refine wp_seq ?_
  refine region_seq ?_
  revert a
  refine mA rfl rfl ?_
  refine sA (v := .int .i64 (s.length : Nat)) rfl (fun _ henv => rn_lenS henv Tryd.underlying9 rfl) ?_
  refine sA (v := .bool (decide (((s.length : Nat) : Int) > (65536 : Int)))) rfl (fun _ henv => rn_bin henv rfl rfl rfl) ?_
  intro a henv
  rw [show (decide (((s.length : Nat) : Int) > (65536 : Int))) = true from decide_eq_true (by omega)] at henv
  refine wpList_nil ?_
  refine th_n ?_
  refine if_t henv rfl (rfl) ?_
  refine wp_seq ?_
  refine region_seq ?_
  revert a
  refine sA (v := .agg #[.int .i64 3, .int .i64 65536]) rfl (fun _ henv => rn_spot2 henv rfl rfl) ?_
  refine aA rfl rfl ?_
  intro a henv
  refine seq_step rfl (op_store (k := 0) (c' := #[.int .i64 3, .int .i64 65536]) henv hst (ty_anvil_api_Spot.size) rfl rfl rfl rfl (by simp) rfl rfl ?_)
  clear henv hst a; intro a w53 henv hst
  refine wpList_nil ?_
  refine th_n ?_
  refine wp_ret ?_
  refine th_r (sc_r ?_)
  refine leave henv (res2 Tryd.results78 (RV.tmp henv rfl) (RV.cell henv ty_anvil_api_Spot rfl (hst.oat (k := 0) rfl) rfl)) ?_
  exact ⟨rfl, hst.below⟩
set_option maxRecDepth 100000 in
set_option maxHeartbeats 2000000 in
theorem row_read_empty {s : List UInt8} {w0 : World} (h0 : s = []) :
    Calls Tryd.prog 78 #[.string ⟨s.toArray⟩] w0 fun e w' => e = .returned (.tuple #[.slice none 0 0, .agg #[.int .i64 6, .int .i64 0]]) ∧ Below w0.heap.size w0 w' := by
  have hl0 : s.length = 0 := by rw [h0]; rfl
  refine enter Tryd.func78 rfl Tryd.ntmps78 rfl ?_
  intro a henv hst
  refine wp_seq ?_
  refine region_seq ?_
  refine sv (v := .slice none 0 0) henv rfl (rn_assign henv rfl) ?_
  clear henv a; intro a henv
  refine seq_step rfl (op_alloc (c := #[.int .i64 0, .int .i64 0]) henv hst rfl zero_anvil_api_Spot rfl ?_)
  clear henv hst a; intro a w52 g51 henv hst
  refine wpList_nil ?_
  refine th_n ?_
  refine wp_scope_straight ?_
  refine wp_seq ?_
  refine wp_seq ?_
  refine region_seq ?_
  revert a
  refine mA rfl rfl ?_
  refine sA (v := .int .i64 (s.length : Nat)) rfl (fun _ henv => rn_lenS henv Tryd.underlying9 rfl) ?_
  refine sA (v := .bool (decide (((s.length : Nat) : Int) > (65536 : Int)))) rfl (fun _ henv => rn_bin henv rfl rfl rfl) ?_
  intro a henv
  rw [show (decide (((s.length : Nat) : Int) > (65536 : Int))) = false from decide_eq_false (by omega)] at henv
  refine wpList_nil ?_
  refine th_n ?_
  refine if_f henv rfl (rfl) ?_
  refine wp_skip ?_
  refine th_n ?_
  refine wp_seq ?_
  refine region_seq ?_
  refine sv (v := .func (.func 97) #[] #[]) henv rfl (rn_assign henv rfl) ?_
  clear henv a; intro a henv
  refine wpList_nil ?_
  refine th_n ?_
  refine wp_seq ?_
  refine wp_seq ?_
  refine region_seq ?_
  revert a
  refine mA rfl rfl ?_
  refine sA (v := .bool (decide (s = []))) rfl (fun _ henv => rn_eqls (s := s) (t := []) henv rfl rfl) ?_
  intro a henv
  rw [show (decide (s = [])) = true from decide_eq_true h0] at henv
  revert a
  refine mA rfl rfl ?_
  refine kA rfl rfl rfl rfl rfl ?_
  refine kA rfl rfl rfl rfl rfl ?_
  refine kA rfl rfl rfl rfl rfl ?_
  refine sA (v := .bool true) rfl (fun _ henv => rn_pick henv rfl rfl) ?_
  intro a henv
  refine wpList_nil ?_
  refine th_n ?_
  refine if_t henv rfl (rfl) ?_
  refine wp_seq ?_
  refine region_seq ?_
  refine sv (v := .func (.func 97) #[] #[]) henv rfl (rn_move henv rfl) ?_
  clear henv a; intro a henv
  refine seq_step rfl (op_callc (vs := #[.int .i64 0]) henv rfl Tryd.call97 rfl rfl (calls_app (by simp) (row_wrong (p := 0))) ?_)
  rintro e w53 ⟨rfl, hb⟩
  refine ⟨_, rfl, ?_⟩
  clear henv a; intro a henv
  replace hst := hst.call hb
  clear hb
  revert a
  refine sA (v := .slice none 0 0) rfl (fun _ henv => rn_extract henv rfl rfl) ?_
  refine sA (v := .agg #[.int .i64 6, .int .i64 (0 : Nat)]) rfl (fun _ henv => rn_extract henv rfl rfl) ?_
  refine aA rfl rfl ?_
  intro a henv
  refine seq_step rfl (op_store (k := 0) (c' := #[.int .i64 6, .int .i64 (0 : Nat)]) henv hst (ty_anvil_api_Spot.size) rfl rfl rfl rfl (by simp) rfl rfl ?_)
  clear henv hst a; intro a w54 henv hst
  refine wpList_nil ?_
  refine th_n ?_
  refine wp_ret ?_
  refine th_r (sc_r ?_)
  refine leave henv (res2 Tryd.results78 (RV.tmp henv rfl) (RV.cell henv ty_anvil_api_Spot rfl (hst.oat (k := 0) rfl) rfl)) ?_
  exact ⟨rfl, hst.below⟩
set_option maxRecDepth 100000 in
set_option maxHeartbeats 2000000 in
theorem row_read_no {s : List UInt8} {w0 : World} (hl : s.length ≤ 65536) (hne : s ≠ []) (h0 : (s.getD 0 0).toNat ≠ 91) :
    Calls Tryd.prog 78 #[.string ⟨s.toArray⟩] w0 fun e w' => e = .returned (.tuple #[.slice none 0 0, .agg #[.int .i64 6, .int .i64 0]]) ∧ Below w0.heap.size w0 w' := by
  have hlen : 0 < s.length := List.length_pos_iff.2 hne
  refine enter Tryd.func78 rfl Tryd.ntmps78 rfl ?_
  intro a henv hst
  refine wp_seq ?_
  refine region_seq ?_
  refine sv (v := .slice none 0 0) henv rfl (rn_assign henv rfl) ?_
  clear henv a; intro a henv
  refine seq_step rfl (op_alloc (c := #[.int .i64 0, .int .i64 0]) henv hst rfl zero_anvil_api_Spot rfl ?_)
  clear henv hst a; intro a w52 g51 henv hst
  refine wpList_nil ?_
  refine th_n ?_
  refine wp_scope_straight ?_
  refine wp_seq ?_
  refine wp_seq ?_
  refine region_seq ?_
  revert a
  refine mA rfl rfl ?_
  refine sA (v := .int .i64 (s.length : Nat)) rfl (fun _ henv => rn_lenS henv Tryd.underlying9 rfl) ?_
  refine sA (v := .bool (decide (((s.length : Nat) : Int) > (65536 : Int)))) rfl (fun _ henv => rn_bin henv rfl rfl rfl) ?_
  intro a henv
  rw [show (decide (((s.length : Nat) : Int) > (65536 : Int))) = false from decide_eq_false (by omega)] at henv
  refine wpList_nil ?_
  refine th_n ?_
  refine if_f henv rfl (rfl) ?_
  refine wp_skip ?_
  refine th_n ?_
  refine wp_seq ?_
  refine region_seq ?_
  refine sv (v := .func (.func 97) #[] #[]) henv rfl (rn_assign henv rfl) ?_
  clear henv a; intro a henv
  refine wpList_nil ?_
  refine th_n ?_
  refine wp_seq ?_
  refine wp_seq ?_
  refine region_seq ?_
  revert a
  refine mA rfl rfl ?_
  refine sA (v := .bool (decide (s = []))) rfl (fun _ henv => rn_eqls (s := s) (t := []) henv rfl rfl) ?_
  intro a henv
  rw [show (decide (s = [])) = false from decide_eq_false hne] at henv
  revert a
  refine mA rfl rfl ?_
  refine gA (v := .string ⟨s.toArray⟩) rfl rfl rfl rfl (fun _ henv => rn_move henv rfl) ?_
  refine gA (v := .int .u8 ((s.getD 0 0).toNat : Nat)) rfl rfl rfl rfl (fun _ henv => rn_idxS (i := 0) henv Tryd.underlying9 rfl rfl (by omega)) ?_
  refine gA (v := .bool ((((s.getD 0 0).toNat : Nat) : Int) != (91 : Int))) rfl rfl rfl rfl (fun _ henv => rn_bin henv rfl rfl rfl) ?_
  intro a henv
  rw [show ((((s.getD 0 0).toNat : Nat) : Int) != (91 : Int)) = true from bne_iff_ne.2 (by omega)] at henv
  refine sv (v := .bool true) henv rfl (rn_pick henv rfl rfl) ?_
  clear henv a; intro a henv
  refine wpList_nil ?_
  refine th_n ?_
  refine if_t henv rfl (rfl) ?_
  refine wp_seq ?_
  refine region_seq ?_
  refine sv (v := .func (.func 97) #[] #[]) henv rfl (rn_move henv rfl) ?_
  clear henv a; intro a henv
  refine seq_step rfl (op_callc (vs := #[.int .i64 0]) henv rfl Tryd.call97 rfl rfl (calls_app (by simp) (row_wrong (p := 0))) ?_)
  rintro e w53 ⟨rfl, hb⟩
  refine ⟨_, rfl, ?_⟩
  clear henv a; intro a henv
  replace hst := hst.call hb
  clear hb
  revert a
  refine sA (v := .slice none 0 0) rfl (fun _ henv => rn_extract henv rfl rfl) ?_
  refine sA (v := .agg #[.int .i64 6, .int .i64 (0 : Nat)]) rfl (fun _ henv => rn_extract henv rfl rfl) ?_
  refine aA rfl rfl ?_
  intro a henv
  refine seq_step rfl (op_store (k := 0) (c' := #[.int .i64 6, .int .i64 (0 : Nat)]) henv hst (ty_anvil_api_Spot.size) rfl rfl rfl rfl (by simp) rfl rfl ?_)
  clear henv hst a; intro a w54 henv hst
  refine wpList_nil ?_
  refine th_n ?_
  refine wp_ret ?_
  refine th_r (sc_r ?_)
  refine leave henv (res2 Tryd.results78 (RV.tmp henv rfl) (RV.cell henv ty_anvil_api_Spot rfl (hst.oat (k := 0) rfl) rfl)) ?_
  exact ⟨rfl, hst.below⟩
set_option maxRecDepth 100000 in
set_option maxHeartbeats 2000000 in
theorem row_read_void {s : List UInt8} {w0 : World} (h0 : (s.getD 0 0).toNat = 91) (h1 : (s.getD 1 0).toNat = 93) (h2 : s.length = 2) :
    Calls Tryd.prog 78 #[.string ⟨s.toArray⟩] w0 fun e w' => e = .returned (.tuple #[.slice none 0 0, .agg #[.int .i64 0, .int .i64 0]]) ∧ Below w0.heap.size w0 w' := by
  have hne : s ≠ [] := fun e => by rw [e] at h2; simp at h2
  refine enter Tryd.func78 rfl Tryd.ntmps78 rfl ?_
  intro a henv hst
  refine wp_seq ?_
  refine region_seq ?_
  refine sv (v := .slice none 0 0) henv rfl (rn_assign henv rfl) ?_
  clear henv a; intro a henv
  refine seq_step rfl (op_alloc (c := #[.int .i64 0, .int .i64 0]) henv hst rfl zero_anvil_api_Spot rfl ?_)
  clear henv hst a; intro a w52 g51 henv hst
  refine wpList_nil ?_
  refine th_n ?_
  refine wp_scope_straight ?_
  refine wp_seq ?_
  refine wp_seq ?_
  refine region_seq ?_
  revert a
  refine mA rfl rfl ?_
  refine sA (v := .int .i64 (s.length : Nat)) rfl (fun _ henv => rn_lenS henv Tryd.underlying9 rfl) ?_
  refine sA (v := .bool (decide (((s.length : Nat) : Int) > (65536 : Int)))) rfl (fun _ henv => rn_bin henv rfl rfl rfl) ?_
  intro a henv
  rw [show (decide (((s.length : Nat) : Int) > (65536 : Int))) = false from decide_eq_false (by omega)] at henv
  refine wpList_nil ?_
  refine th_n ?_
  refine if_f henv rfl (rfl) ?_
  refine wp_skip ?_
  refine th_n ?_
  refine wp_seq ?_
  refine region_seq ?_
  refine sv (v := .func (.func 97) #[] #[]) henv rfl (rn_assign henv rfl) ?_
  clear henv a; intro a henv
  refine wpList_nil ?_
  refine th_n ?_
  refine wp_seq ?_
  refine wp_seq ?_
  refine region_seq ?_
  revert a
  refine mA rfl rfl ?_
  refine sA (v := .bool (decide (s = []))) rfl (fun _ henv => rn_eqls (s := s) (t := []) henv rfl rfl) ?_
  intro a henv
  rw [show (decide (s = [])) = false from decide_eq_false hne] at henv
  revert a
  refine mA rfl rfl ?_
  refine gA (v := .string ⟨s.toArray⟩) rfl rfl rfl rfl (fun _ henv => rn_move henv rfl) ?_
  refine gA (v := .int .u8 ((s.getD 0 0).toNat : Nat)) rfl rfl rfl rfl (fun _ henv => rn_idxS (i := 0) henv Tryd.underlying9 rfl rfl (by omega)) ?_
  refine gA (v := .bool ((((s.getD 0 0).toNat : Nat) : Int) != (91 : Int))) rfl rfl rfl rfl (fun _ henv => rn_bin henv rfl rfl rfl) ?_
  intro a henv
  rw [show ((((s.getD 0 0).toNat : Nat) : Int) != (91 : Int)) = false from bne_false (by omega)] at henv
  refine sv (v := .bool false) henv rfl (rn_pick henv rfl rfl) ?_
  clear henv a; intro a henv
  refine wpList_nil ?_
  refine th_n ?_
  refine if_f henv rfl (rfl) ?_
  refine wp_skip ?_
  refine th_n ?_
  refine wp_seq ?_
  refine region_seq ?_
  refine sv (v := .slice none 0 0) henv rfl (rn_assign henv rfl) ?_
  clear henv a; intro a henv
  refine wpList_nil ?_
  refine th_n ?_
  refine wp_seq ?_
  refine region_seq ?_
  refine sv (v := .int .i64 1) henv rfl (rn_assign henv rfl) ?_
  clear henv a; intro a henv
  refine wpList_nil ?_
  refine th_n ?_
  refine wp_seq ?_
  refine wp_seq ?_
  refine region_seq ?_
  revert a
  refine mA rfl rfl ?_
  refine sA (v := .bool (decide (s = [91, 93]))) rfl (fun _ henv => rn_eqls (s := s) (t := [91, 93]) henv rfl rfl) ?_
  intro a henv
  rw [show (decide (s = [91, 93])) = true from decide_eq_true (two_text h0 h1 h2)] at henv
  refine wpList_nil ?_
  refine th_n ?_
  refine if_t henv rfl (rfl) ?_
  refine wp_seq ?_
  refine region_seq ?_
  revert a
  refine sA (v := .agg #[.int .i64 0, .int .i64 0]) rfl (fun _ henv => rn_spot0) ?_
  refine aA rfl rfl ?_
  intro a henv
  refine seq_step rfl (op_store (k := 0) (c' := #[.int .i64 0, .int .i64 0]) henv hst (ty_anvil_api_Spot.size) rfl rfl rfl rfl (by simp) rfl rfl ?_)
  clear henv hst a; intro a w53 henv hst
  refine wpList_nil ?_
  refine th_n ?_
  refine wp_ret ?_
  refine th_r (sc_r ?_)
  refine leave henv (res2 Tryd.results78 (RV.tmp henv rfl) (RV.cell henv ty_anvil_api_Spot rfl (hst.oat (k := 0) rfl) rfl)) ?_
  exact ⟨rfl, hst.below⟩
set_option maxRecDepth 100000 in
set_option maxHeartbeats 2000000 in
theorem row_read_tail {s : List UInt8} {w0 : World} (hl : s.length ≤ 65536) (h0 : (s.getD 0 0).toNat = 91) (h1 : (s.getD 1 0).toNat = 93) (h2 : 2 < s.length) :
    Calls Tryd.prog 78 #[.string ⟨s.toArray⟩] w0 fun e w' => e = .returned (.tuple #[.slice none 0 0, .agg #[.int .i64 6, .int .i64 2]]) ∧ Below w0.heap.size w0 w' := by
  have hne : s ≠ [] := fun e => by rw [e] at h2; simp at h2
  refine enter Tryd.func78 rfl Tryd.ntmps78 rfl ?_
  intro a henv hst
  refine wp_seq ?_
  refine region_seq ?_
  refine sv (v := .slice none 0 0) henv rfl (rn_assign henv rfl) ?_
  clear henv a; intro a henv
  refine seq_step rfl (op_alloc (c := #[.int .i64 0, .int .i64 0]) henv hst rfl zero_anvil_api_Spot rfl ?_)
  clear henv hst a; intro a w52 g51 henv hst
  refine wpList_nil ?_
  refine th_n ?_
  refine wp_scope_straight ?_
  refine wp_seq ?_
  refine wp_seq ?_
  refine region_seq ?_
  revert a
  refine mA rfl rfl ?_
  refine sA (v := .int .i64 (s.length : Nat)) rfl (fun _ henv => rn_lenS henv Tryd.underlying9 rfl) ?_
  refine sA (v := .bool (decide (((s.length : Nat) : Int) > (65536 : Int)))) rfl (fun _ henv => rn_bin henv rfl rfl rfl) ?_
  intro a henv
  rw [show (decide (((s.length : Nat) : Int) > (65536 : Int))) = false from decide_eq_false (by omega)] at henv
  refine wpList_nil ?_
  refine th_n ?_
  refine if_f henv rfl (rfl) ?_
  refine wp_skip ?_
  refine th_n ?_
  refine wp_seq ?_
  refine region_seq ?_
  refine sv (v := .func (.func 97) #[] #[]) henv rfl (rn_assign henv rfl) ?_
  clear henv a; intro a henv
  refine wpList_nil ?_
  refine th_n ?_
  refine wp_seq ?_
  refine wp_seq ?_
  refine region_seq ?_
  revert a
  refine mA rfl rfl ?_
  refine sA (v := .bool (decide (s = []))) rfl (fun _ henv => rn_eqls (s := s) (t := []) henv rfl rfl) ?_
  intro a henv
  rw [show (decide (s = [])) = false from decide_eq_false hne] at henv
  revert a
  refine mA rfl rfl ?_
  refine gA (v := .string ⟨s.toArray⟩) rfl rfl rfl rfl (fun _ henv => rn_move henv rfl) ?_
  refine gA (v := .int .u8 ((s.getD 0 0).toNat : Nat)) rfl rfl rfl rfl (fun _ henv => rn_idxS (i := 0) henv Tryd.underlying9 rfl rfl (by omega)) ?_
  refine gA (v := .bool ((((s.getD 0 0).toNat : Nat) : Int) != (91 : Int))) rfl rfl rfl rfl (fun _ henv => rn_bin henv rfl rfl rfl) ?_
  intro a henv
  rw [show ((((s.getD 0 0).toNat : Nat) : Int) != (91 : Int)) = false from bne_false (by omega)] at henv
  refine sv (v := .bool false) henv rfl (rn_pick henv rfl rfl) ?_
  clear henv a; intro a henv
  refine wpList_nil ?_
  refine th_n ?_
  refine if_f henv rfl (rfl) ?_
  refine wp_skip ?_
  refine th_n ?_
  refine wp_seq ?_
  refine region_seq ?_
  refine sv (v := .slice none 0 0) henv rfl (rn_assign henv rfl) ?_
  clear henv a; intro a henv
  refine wpList_nil ?_
  refine th_n ?_
  refine wp_seq ?_
  refine region_seq ?_
  refine sv (v := .int .i64 1) henv rfl (rn_assign henv rfl) ?_
  clear henv a; intro a henv
  refine wpList_nil ?_
  refine th_n ?_
  refine wp_seq ?_
  refine wp_seq ?_
  refine region_seq ?_
  revert a
  refine mA rfl rfl ?_
  refine sA (v := .bool (decide (s = [91, 93]))) rfl (fun _ henv => rn_eqls (s := s) (t := [91, 93]) henv rfl rfl) ?_
  intro a henv
  rw [show (decide (s = [91, 93])) = false from decide_eq_false (fun e => by rw [e] at h2; simp at h2)] at henv
  refine wpList_nil ?_
  refine th_n ?_
  refine if_f henv rfl (rfl) ?_
  refine wp_skip ?_
  refine th_n ?_
  refine wp_seq ?_
  refine wp_seq ?_
  refine region_seq ?_
  refine sv (v := .string ⟨s.toArray⟩) henv rfl (rn_move henv rfl) ?_
  clear henv a; intro a henv
  refine seq_step rfl (op_call henv rfl Tryd.call98 rfl (hpx_yes h0 (by omega) h1) ?_)
  rintro e w53 ⟨rfl, hb⟩
  refine ⟨_, rfl, ?_⟩
  clear henv a; intro a henv
  replace hst := hst.call hb
  clear hb
  refine wpList_nil ?_
  refine th_n ?_
  refine if_t henv rfl (rfl) ?_
  refine wp_seq ?_
  refine region_seq ?_
  refine sv (v := .func (.func 97) #[] #[]) henv rfl (rn_move henv rfl) ?_
  clear henv a; intro a henv
  refine seq_step rfl (op_callc (vs := #[.int .i64 2]) henv rfl Tryd.call97 rfl rfl (calls_app (by simp) (row_wrong (p := 2))) ?_)
  rintro e w54 ⟨rfl, hb⟩
  refine ⟨_, rfl, ?_⟩
  clear henv a; intro a henv
  replace hst := hst.call hb
  clear hb
  revert a
  refine sA (v := .slice none 0 0) rfl (fun _ henv => rn_extract henv rfl rfl) ?_
  refine sA (v := .agg #[.int .i64 6, .int .i64 (2 : Nat)]) rfl (fun _ henv => rn_extract henv rfl rfl) ?_
  refine aA rfl rfl ?_
  intro a henv
  refine seq_step rfl (op_store (k := 0) (c' := #[.int .i64 6, .int .i64 (2 : Nat)]) henv hst (ty_anvil_api_Spot.size) rfl rfl rfl rfl (by simp) rfl rfl ?_)
  clear henv hst a; intro a w55 henv hst
  refine wpList_nil ?_
  refine th_n ?_
  refine wp_ret ?_
  refine th_r (sc_r ?_)
  refine leave henv (res2 Tryd.results78 (RV.tmp henv rfl) (RV.cell henv ty_anvil_api_Spot rfl (hst.oat (k := 0) rfl) rfl)) ?_
  exact ⟨rfl, hst.below⟩
set_option maxRecDepth 100000 in
set_option maxHeartbeats 4000000 in
theorem row_read_go {s : List UInt8} {w0 : World} (hl : s.length ≤ 65536) (h0 : (s.getD 0 0).toNat = 91) (hne : s ≠ []) (h1 : ¬ (1 < s.length ∧ (s.getD 1 0).toNat = 93)) :
    Calls Tryd.prog 78 #[.string ⟨s.toArray⟩] w0 fun e w' => ((∃ zs n v, Rd0 s (.inl zs) ∧ zs.length = n ∧ n ≤ 4096 ∧ e = .returned (.tuple #[v, .agg #[.int .i64 0, .int .i64 0]]) ∧ ZRow w0.heap.size w' v n zs) ∨ (∃ b : Nat, Rd0 s (.inr b) ∧ e = .returned (.tuple #[.slice none 0 0, .agg #[.int .i64 6, .int .i64 (b : Nat)]])) ∨ (∃ (p : Nat) (zs : List Int), zs.length = 4096 ∧ p ≤ s.length ∧ s.take p = preT zs ∧ e = .returned (.tuple #[.slice none 0 0, .agg #[.int .i64 3, .int .i64 (p : Nat)]]))) ∧ Below w0.heap.size w0 w' := by
  have hlen : 1 ≤ s.length := List.length_pos_iff.2 hne
  refine enter Tryd.func78 rfl Tryd.ntmps78 rfl ?_
  intro a henv hst
  refine wp_seq ?_
  refine region_seq ?_
  refine sv (v := .slice none 0 0) henv rfl (rn_assign henv rfl) ?_
  clear henv a; intro a henv
  refine seq_step rfl (op_alloc (c := #[.int .i64 0, .int .i64 0]) henv hst rfl zero_anvil_api_Spot rfl ?_)
  clear henv hst a; intro a w52 g51 henv hst
  refine wpList_nil ?_
  refine th_n ?_
  refine wp_scope_at 0 (fun mz a w => ∃ p : Nat, ∃ j : Nat, ∃ zs : List Int, ∃ B : Option Addr, ∃ c : Nat, ∃ os : List NE, s.length + 1 - p = mz ∧ Env 130 a [(0, .string ⟨s.toArray⟩), (3, .pointer (some ⟨g51, 0, none⟩)), (4, .func (.func 97) #[] #[]), (5, .slice B j c), (6, .int .i64 (p : Nat))] ∧ St w0 w [rowS notU 28 2 B j c (fl fN os), bk g51 #[.int .i64 0, .int .i64 0] 71] [pfEs FN os] ∧ 1 ≤ p ∧ p ≤ s.length ∧ j ≤ 4096 ∧ zs.length = j ∧ os.map zz = zs ∧ s.take p = preT zs ∧ ∀ r, Go s p zs r → Go s 1 [] r) rfl ?_ ?_
  · clear henv hst a
    rintro mz a w53 ⟨p, j, zs, B, c, os, rfl, henv, hst, hp0, hp1, hj, hzl, ho, hpre, hgo⟩
    refine wp_seq ?_
    refine region_seq ?_
    revert a
    refine mA rfl rfl ?_
    refine aA rfl rfl ?_
    intro a henv
    refine wpList_nil ?_
    refine th_n ?_
    refine wp_seq ?_
    refine cut (fun a w => ∃ q : Nat, Env 130 a [(0, .string ⟨s.toArray⟩), (3, .pointer (some ⟨g51, 0, none⟩)), (4, .func (.func 97) #[] #[]), (5, .slice B j c), (6, .int .i64 (p : Nat)), (7, .int .i64 (q : Nat))] ∧ St w0 w [rowS notU 28 2 B j c (fl fN os), bk g51 #[.int .i64 0, .int .i64 0] 71] [pfEs FN os] ∧ Sen s p q) ?_ ?_
    · refine wp_block ?_
      refine wp_loop_ghost (fun mz a w => ∃ q : Nat, s.length - q = mz ∧ Env 130 a [(0, .string ⟨s.toArray⟩), (3, .pointer (some ⟨g51, 0, none⟩)), (4, .func (.func 97) #[] #[]), (5, .slice B j c), (6, .int .i64 (p : Nat)), (7, .int .i64 (q : Nat))] ∧ St w0 w [rowS notU 28 2 B j c (fl fN os), bk g51 #[.int .i64 0, .int .i64 0] 71] [pfEs FN os] ∧ p ≤ q ∧ q ≤ s.length ∧ ∀ i, p ≤ i → i < q → ndg (s.getD i 0)) _ ⟨p, rfl, henv.sub ⟨rfl, rfl, rfl, rfl, rfl, rfl, trivial⟩, hst.pick [0, 1] [0] (by decide), (Nat.le_refl _), hp1, (fun i h1 h2 => by omega)⟩ ?_
      clear henv hst a
      rintro mz a w54 ⟨q, rfl, henv, hst, hq1, hq2, hq3⟩
      rcases sen_cases s q hq2 with hv | ⟨hv1, hv2⟩ | ⟨hv1, hv2, hv3⟩ | ⟨hv1, hv2, hv3⟩ | ⟨hv1, hv2⟩
      · refine wp_seq ?_
        refine wp_seq ?_
        refine region_seq ?_
        revert a
        refine mA rfl rfl ?_
        refine mA rfl rfl ?_
        refine sA (v := .int .i64 (s.length : Nat)) rfl (fun _ henv => rn_lenS henv Tryd.underlying9 rfl) ?_
        refine sA (v := .bool (decide (((q : Nat) : Int) < ((s.length : Nat) : Int)))) rfl (fun _ henv => rn_bin henv rfl rfl rfl) ?_
        intro a henv
        rw [show (decide (((q : Nat) : Int) < ((s.length : Nat) : Int))) = false from decide_eq_false (by omega)] at henv
        revert a
        refine mA rfl rfl ?_
        refine kA rfl rfl rfl rfl rfl ?_
        refine kA rfl rfl rfl rfl rfl ?_
        refine kA rfl rfl rfl rfl rfl ?_
        refine kA rfl rfl rfl rfl rfl ?_
        refine kA rfl rfl rfl rfl rfl ?_
        refine kA rfl rfl rfl rfl rfl ?_
        refine kA rfl rfl rfl rfl rfl ?_
        refine kA rfl rfl rfl rfl rfl ?_
        refine kA rfl rfl rfl rfl rfl ?_
        refine kA rfl rfl rfl rfl rfl ?_
        refine kA rfl rfl rfl rfl rfl ?_
        refine kA rfl rfl rfl rfl rfl ?_
        refine kA rfl rfl rfl rfl rfl ?_
        refine kA rfl rfl rfl rfl rfl ?_
        refine kA rfl rfl rfl rfl rfl ?_
        refine kA rfl rfl rfl rfl rfl ?_
        refine sA (v := .bool false) rfl (fun _ henv => rn_pick henv rfl rfl) ?_
        intro a henv
        refine wpList_nil ?_
        refine th_n ?_
        refine if_f henv rfl (rfl) ?_
        refine wp_exit ?_
        refine th_x (th_x (bl_x (th_n ?_)))
        exact ⟨q, henv.sub ⟨rfl, rfl, rfl, rfl, rfl, rfl, trivial⟩, hst.pick [0, 1] [0] (by decide), ⟨hq1, hq2, hq3, fun h => absurd h (by omega)⟩⟩
      · refine wp_seq ?_
        refine wp_seq ?_
        refine region_seq ?_
        revert a
        refine mA rfl rfl ?_
        refine mA rfl rfl ?_
        refine sA (v := .int .i64 (s.length : Nat)) rfl (fun _ henv => rn_lenS henv Tryd.underlying9 rfl) ?_
        refine sA (v := .bool (decide (((q : Nat) : Int) < ((s.length : Nat) : Int)))) rfl (fun _ henv => rn_bin henv rfl rfl rfl) ?_
        intro a henv
        rw [show (decide (((q : Nat) : Int) < ((s.length : Nat) : Int))) = true from decide_eq_true (by omega)] at henv
        revert a
        refine mA rfl rfl ?_
        refine gA (v := .string ⟨s.toArray⟩) rfl rfl rfl rfl (fun _ henv => rn_move henv rfl) ?_
        refine gA (v := .int .i64 (q : Nat)) rfl rfl rfl rfl (fun _ henv => rn_move henv rfl) ?_
        refine gA (v := .int .u8 ((s.getD q 0).toNat : Nat)) rfl rfl rfl rfl (fun _ henv => rn_idxS (i := q) henv Tryd.underlying9 rfl rfl (by omega)) ?_
        refine gA (v := .bool ((((s.getD q 0).toNat : Nat) : Int) == (45 : Int))) rfl rfl rfl rfl (fun _ henv => rn_bin henv rfl rfl rfl) ?_
        intro a henv
        rw [show ((((s.getD q 0).toNat : Nat) : Int) == (45 : Int)) = true from beq_iff_eq.2 (by omega)] at henv
        revert a
        refine gA (v := .bool true) rfl rfl rfl rfl (fun _ henv => rn_move henv rfl) ?_
        refine kA rfl rfl rfl rfl rfl ?_
        refine kA rfl rfl rfl rfl rfl ?_
        refine kA rfl rfl rfl rfl rfl ?_
        refine kA rfl rfl rfl rfl rfl ?_
        refine kA rfl rfl rfl rfl rfl ?_
        refine kA rfl rfl rfl rfl rfl ?_
        refine kA rfl rfl rfl rfl rfl ?_
        refine kA rfl rfl rfl rfl rfl ?_
        refine kA rfl rfl rfl rfl rfl ?_
        refine kA rfl rfl rfl rfl rfl ?_
        refine gA (v := .bool true) rfl rfl rfl rfl (fun _ henv => rn_pick henv rfl rfl) ?_
        refine sA (v := .bool true) rfl (fun _ henv => rn_pick henv rfl rfl) ?_
        intro a henv
        refine wpList_nil ?_
        refine th_n ?_
        refine if_t henv rfl (rfl) ?_
        refine wp_skip ?_
        refine th_n ?_
        refine wp_block ?_
        refine region_seq ?_
        revert a
        refine mA rfl rfl ?_
        refine sA (v := .int .i64 (q + 1 : Nat)) rfl (fun _ henv => rn_add henv rfl rfl (by rw [IntWalk.i64_in _ (by omega)]; omega)) ?_
        refine aA rfl rfl ?_
        intro a henv
        refine wpList_nil ?_
        refine bl_n ?_
        exact th_n ⟨_, (by omega), ⟨q + 1, rfl, henv.sub ⟨rfl, rfl, rfl, rfl, rfl, rfl, trivial⟩, hst.pick [0, 1] [0] (by decide), (by omega), (by omega), (range_step hq3 (.inl hv2))⟩⟩
      · refine wp_seq ?_
        refine wp_seq ?_
        refine region_seq ?_
        revert a
        refine mA rfl rfl ?_
        refine mA rfl rfl ?_
        refine sA (v := .int .i64 (s.length : Nat)) rfl (fun _ henv => rn_lenS henv Tryd.underlying9 rfl) ?_
        refine sA (v := .bool (decide (((q : Nat) : Int) < ((s.length : Nat) : Int)))) rfl (fun _ henv => rn_bin henv rfl rfl rfl) ?_
        intro a henv
        rw [show (decide (((q : Nat) : Int) < ((s.length : Nat) : Int))) = true from decide_eq_true (by omega)] at henv
        revert a
        refine mA rfl rfl ?_
        refine gA (v := .string ⟨s.toArray⟩) rfl rfl rfl rfl (fun _ henv => rn_move henv rfl) ?_
        refine gA (v := .int .i64 (q : Nat)) rfl rfl rfl rfl (fun _ henv => rn_move henv rfl) ?_
        refine gA (v := .int .u8 ((s.getD q 0).toNat : Nat)) rfl rfl rfl rfl (fun _ henv => rn_idxS (i := q) henv Tryd.underlying9 rfl rfl (by omega)) ?_
        refine gA (v := .bool ((((s.getD q 0).toNat : Nat) : Int) == (45 : Int))) rfl rfl rfl rfl (fun _ henv => rn_bin henv rfl rfl rfl) ?_
        intro a henv
        rw [show ((((s.getD q 0).toNat : Nat) : Int) == (45 : Int)) = false from beq_eq_false_iff_ne.2 (by omega)] at henv
        revert a
        refine gA (v := .bool false) rfl rfl rfl rfl (fun _ henv => rn_move henv rfl) ?_
        refine gA (v := .string ⟨s.toArray⟩) rfl rfl rfl rfl (fun _ henv => rn_move henv rfl) ?_
        refine gA (v := .int .i64 (q : Nat)) rfl rfl rfl rfl (fun _ henv => rn_move henv rfl) ?_
        refine gA (v := .int .u8 ((s.getD q 0).toNat : Nat)) rfl rfl rfl rfl (fun _ henv => rn_idxS (i := q) henv Tryd.underlying9 rfl rfl (by omega)) ?_
        refine gA (v := .bool (decide ((((s.getD q 0).toNat : Nat) : Int) ≥ (48 : Int)))) rfl rfl rfl rfl (fun _ henv => rn_bin henv rfl rfl rfl) ?_
        intro a henv
        rw [show (decide ((((s.getD q 0).toNat : Nat) : Int) ≥ (48 : Int))) = false from decide_eq_false (by omega)] at henv
        revert a
        refine gA (v := .bool false) rfl rfl rfl rfl (fun _ henv => rn_move henv rfl) ?_
        refine kA rfl rfl rfl rfl rfl ?_
        refine kA rfl rfl rfl rfl rfl ?_
        refine kA rfl rfl rfl rfl rfl ?_
        refine kA rfl rfl rfl rfl rfl ?_
        refine gA (v := .bool false) rfl rfl rfl rfl (fun _ henv => rn_pick henv rfl rfl) ?_
        refine gA (v := .bool false) rfl rfl rfl rfl (fun _ henv => rn_pick henv rfl rfl) ?_
        refine sA (v := .bool false) rfl (fun _ henv => rn_pick henv rfl rfl) ?_
        intro a henv
        refine wpList_nil ?_
        refine th_n ?_
        refine if_f henv rfl (rfl) ?_
        refine wp_exit ?_
        refine th_x (th_x (bl_x (th_n ?_)))
        exact ⟨q, henv.sub ⟨rfl, rfl, rfl, rfl, rfl, rfl, trivial⟩, hst.pick [0, 1] [0] (by decide), ⟨hq1, hq2, hq3, fun _ hn => by unfold ndg at hn; omega⟩⟩
      · refine wp_seq ?_
        refine wp_seq ?_
        refine region_seq ?_
        revert a
        refine mA rfl rfl ?_
        refine mA rfl rfl ?_
        refine sA (v := .int .i64 (s.length : Nat)) rfl (fun _ henv => rn_lenS henv Tryd.underlying9 rfl) ?_
        refine sA (v := .bool (decide (((q : Nat) : Int) < ((s.length : Nat) : Int)))) rfl (fun _ henv => rn_bin henv rfl rfl rfl) ?_
        intro a henv
        rw [show (decide (((q : Nat) : Int) < ((s.length : Nat) : Int))) = true from decide_eq_true (by omega)] at henv
        revert a
        refine mA rfl rfl ?_
        refine gA (v := .string ⟨s.toArray⟩) rfl rfl rfl rfl (fun _ henv => rn_move henv rfl) ?_
        refine gA (v := .int .i64 (q : Nat)) rfl rfl rfl rfl (fun _ henv => rn_move henv rfl) ?_
        refine gA (v := .int .u8 ((s.getD q 0).toNat : Nat)) rfl rfl rfl rfl (fun _ henv => rn_idxS (i := q) henv Tryd.underlying9 rfl rfl (by omega)) ?_
        refine gA (v := .bool ((((s.getD q 0).toNat : Nat) : Int) == (45 : Int))) rfl rfl rfl rfl (fun _ henv => rn_bin henv rfl rfl rfl) ?_
        intro a henv
        rw [show ((((s.getD q 0).toNat : Nat) : Int) == (45 : Int)) = false from beq_eq_false_iff_ne.2 (by omega)] at henv
        revert a
        refine gA (v := .bool false) rfl rfl rfl rfl (fun _ henv => rn_move henv rfl) ?_
        refine gA (v := .string ⟨s.toArray⟩) rfl rfl rfl rfl (fun _ henv => rn_move henv rfl) ?_
        refine gA (v := .int .i64 (q : Nat)) rfl rfl rfl rfl (fun _ henv => rn_move henv rfl) ?_
        refine gA (v := .int .u8 ((s.getD q 0).toNat : Nat)) rfl rfl rfl rfl (fun _ henv => rn_idxS (i := q) henv Tryd.underlying9 rfl rfl (by omega)) ?_
        refine gA (v := .bool (decide ((((s.getD q 0).toNat : Nat) : Int) ≥ (48 : Int)))) rfl rfl rfl rfl (fun _ henv => rn_bin henv rfl rfl rfl) ?_
        intro a henv
        rw [show (decide ((((s.getD q 0).toNat : Nat) : Int) ≥ (48 : Int))) = true from decide_eq_true (by omega)] at henv
        revert a
        refine gA (v := .bool true) rfl rfl rfl rfl (fun _ henv => rn_move henv rfl) ?_
        refine gA (v := .string ⟨s.toArray⟩) rfl rfl rfl rfl (fun _ henv => rn_move henv rfl) ?_
        refine gA (v := .int .i64 (q : Nat)) rfl rfl rfl rfl (fun _ henv => rn_move henv rfl) ?_
        refine gA (v := .int .u8 ((s.getD q 0).toNat : Nat)) rfl rfl rfl rfl (fun _ henv => rn_idxS (i := q) henv Tryd.underlying9 rfl rfl (by omega)) ?_
        refine gA (v := .bool (decide ((((s.getD q 0).toNat : Nat) : Int) ≤ (57 : Int)))) rfl rfl rfl rfl (fun _ henv => rn_bin henv rfl rfl rfl) ?_
        intro a henv
        rw [show (decide ((((s.getD q 0).toNat : Nat) : Int) ≤ (57 : Int))) = true from decide_eq_true (by omega)] at henv
        revert a
        refine gA (v := .bool true) rfl rfl rfl rfl (fun _ henv => rn_pick henv rfl rfl) ?_
        refine gA (v := .bool true) rfl rfl rfl rfl (fun _ henv => rn_pick henv rfl rfl) ?_
        refine sA (v := .bool true) rfl (fun _ henv => rn_pick henv rfl rfl) ?_
        intro a henv
        refine wpList_nil ?_
        refine th_n ?_
        refine if_t henv rfl (rfl) ?_
        refine wp_skip ?_
        refine th_n ?_
        refine wp_block ?_
        refine region_seq ?_
        revert a
        refine mA rfl rfl ?_
        refine sA (v := .int .i64 (q + 1 : Nat)) rfl (fun _ henv => rn_add henv rfl rfl (by rw [IntWalk.i64_in _ (by omega)]; omega)) ?_
        refine aA rfl rfl ?_
        intro a henv
        refine wpList_nil ?_
        refine bl_n ?_
        exact th_n ⟨_, (by omega), ⟨q + 1, rfl, henv.sub ⟨rfl, rfl, rfl, rfl, rfl, rfl, trivial⟩, hst.pick [0, 1] [0] (by decide), (by omega), (by omega), (range_step hq3 (.inr ⟨hv2, hv3⟩))⟩⟩
      · refine wp_seq ?_
        refine wp_seq ?_
        refine region_seq ?_
        revert a
        refine mA rfl rfl ?_
        refine mA rfl rfl ?_
        refine sA (v := .int .i64 (s.length : Nat)) rfl (fun _ henv => rn_lenS henv Tryd.underlying9 rfl) ?_
        refine sA (v := .bool (decide (((q : Nat) : Int) < ((s.length : Nat) : Int)))) rfl (fun _ henv => rn_bin henv rfl rfl rfl) ?_
        intro a henv
        rw [show (decide (((q : Nat) : Int) < ((s.length : Nat) : Int))) = true from decide_eq_true (by omega)] at henv
        revert a
        refine mA rfl rfl ?_
        refine gA (v := .string ⟨s.toArray⟩) rfl rfl rfl rfl (fun _ henv => rn_move henv rfl) ?_
        refine gA (v := .int .i64 (q : Nat)) rfl rfl rfl rfl (fun _ henv => rn_move henv rfl) ?_
        refine gA (v := .int .u8 ((s.getD q 0).toNat : Nat)) rfl rfl rfl rfl (fun _ henv => rn_idxS (i := q) henv Tryd.underlying9 rfl rfl (by omega)) ?_
        refine gA (v := .bool ((((s.getD q 0).toNat : Nat) : Int) == (45 : Int))) rfl rfl rfl rfl (fun _ henv => rn_bin henv rfl rfl rfl) ?_
        intro a henv
        rw [show ((((s.getD q 0).toNat : Nat) : Int) == (45 : Int)) = false from beq_eq_false_iff_ne.2 (by omega)] at henv
        revert a
        refine gA (v := .bool false) rfl rfl rfl rfl (fun _ henv => rn_move henv rfl) ?_
        refine gA (v := .string ⟨s.toArray⟩) rfl rfl rfl rfl (fun _ henv => rn_move henv rfl) ?_
        refine gA (v := .int .i64 (q : Nat)) rfl rfl rfl rfl (fun _ henv => rn_move henv rfl) ?_
        refine gA (v := .int .u8 ((s.getD q 0).toNat : Nat)) rfl rfl rfl rfl (fun _ henv => rn_idxS (i := q) henv Tryd.underlying9 rfl rfl (by omega)) ?_
        refine gA (v := .bool (decide ((((s.getD q 0).toNat : Nat) : Int) ≥ (48 : Int)))) rfl rfl rfl rfl (fun _ henv => rn_bin henv rfl rfl rfl) ?_
        intro a henv
        rw [show (decide ((((s.getD q 0).toNat : Nat) : Int) ≥ (48 : Int))) = true from decide_eq_true (by omega)] at henv
        revert a
        refine gA (v := .bool true) rfl rfl rfl rfl (fun _ henv => rn_move henv rfl) ?_
        refine gA (v := .string ⟨s.toArray⟩) rfl rfl rfl rfl (fun _ henv => rn_move henv rfl) ?_
        refine gA (v := .int .i64 (q : Nat)) rfl rfl rfl rfl (fun _ henv => rn_move henv rfl) ?_
        refine gA (v := .int .u8 ((s.getD q 0).toNat : Nat)) rfl rfl rfl rfl (fun _ henv => rn_idxS (i := q) henv Tryd.underlying9 rfl rfl (by omega)) ?_
        refine gA (v := .bool (decide ((((s.getD q 0).toNat : Nat) : Int) ≤ (57 : Int)))) rfl rfl rfl rfl (fun _ henv => rn_bin henv rfl rfl rfl) ?_
        intro a henv
        rw [show (decide ((((s.getD q 0).toNat : Nat) : Int) ≤ (57 : Int))) = false from decide_eq_false (by omega)] at henv
        revert a
        refine gA (v := .bool false) rfl rfl rfl rfl (fun _ henv => rn_pick henv rfl rfl) ?_
        refine gA (v := .bool false) rfl rfl rfl rfl (fun _ henv => rn_pick henv rfl rfl) ?_
        refine sA (v := .bool false) rfl (fun _ henv => rn_pick henv rfl rfl) ?_
        intro a henv
        refine wpList_nil ?_
        refine th_n ?_
        refine if_f henv rfl (rfl) ?_
        refine wp_exit ?_
        refine th_x (th_x (bl_x (th_n ?_)))
        exact ⟨q, henv.sub ⟨rfl, rfl, rfl, rfl, rfl, rfl, trivial⟩, hst.pick [0, 1] [0] (by decide), ⟨hq1, hq2, hq3, fun _ hn => by unfold ndg at hn; omega⟩⟩
    clear henv hst a
    rintro a w55 ⟨q, henv, hst, hsen⟩
    have hs1 := hsen.1
    have hs2 := hsen.2.1
    have hlw : (cutw s p q).length ≤ 65536 := by rw [cutw_len hs1 hs2]; omega
    refine wp_seq ?_
    refine region_seq ?_
    revert a
    refine mA rfl rfl ?_
    refine mA rfl rfl ?_
    refine mA rfl rfl ?_
    refine sA (v := .string ⟨((s.drop p).take (q - p)).toArray⟩) rfl (fun _ henv => rn_cutS (n := p) (m := q) henv Tryd.underlying9 rfl rfl rfl (by omega) (by omega)) ?_
    intro a henv
    refine seq_step rfl (op_call henv rfl Tryd.call99 rfl (iread_w (t := cutw s p q) hlw) ?_)
    rintro e w59 ⟨z1, e1, a1, _, rfl, ⟨A56, c57, rfl, hz58⟩, hw, hb⟩
    refine ⟨_, rfl, ?_⟩
    clear henv a; intro a henv
    replace hst := (hst.call hb).addZ hz58 ⟨nou_rowS, nou_bk rfl, trivial⟩
    clear hz58
    clear hb
    revert a
    refine mA rfl rfl ?_
    refine sA (v := .agg #[.bool (neg z1), .slice A56 (zl z1) c57]) rfl (fun _ henv => rn_extract henv rfl rfl) ?_
    refine sA (v := .agg #[.int .i64 e1, .int .i64 a1]) rfl (fun _ henv => rn_extract henv rfl rfl) ?_
    intro a henv
    refine seq_step rfl (op_alloc (c := #[.bool (neg 0), .slice none (zl 0) 0]) henv hst rfl zero_anvil_integer_Int zcells ?_)
    clear henv hst a; intro a w61 g60 henv hst
    refine seq_step rfl (op_alloc (c := #[.int .i64 0, .int .i64 0]) henv hst rfl zero_anvil_api_Spot rfl ?_)
    clear henv hst a; intro a w63 g62 henv hst
    refine seq_step rfl (op_store (k := 1) (c' := #[.bool (neg z1), .slice A56 (zl z1) c57]) henv hst (ty_anvil_integer_Int.size) rfl rfl rfl rfl (by simp) rfl rfl ?_)
    clear henv hst a; intro a w64 henv hst
    refine seq_step rfl (op_store (k := 0) (c' := #[.int .i64 e1, .int .i64 a1]) henv hst (ty_anvil_api_Spot.size) rfl rfl rfl rfl (by simp) rfl rfl ?_)
    clear henv hst a; intro a w65 henv hst
    refine wpList_nil ?_
    refine th_n ?_
    refine wp_seq ?_
    refine wp_block ?_
    refine wp_seq ?_
    refine region_seq ?_
    revert a
    refine sA (v := .pointer (some ⟨g62, 0, none⟩)) rfl (fun _ henv => rn_fieldAddr henv fd_anvil_api_Spot_0 (ty_anvil_api_Errno.size) (by decide) rfl) ?_
    refine sA (v := .int .i64 e1) rfl (fun _ henv => rn_load1 henv ty_anvil_api_Errno rfl (hst.oat (k := 0) rfl) rfl) ?_
    refine sA (v := .bool (e1 != (0 : Int))) rfl (fun _ henv => rn_bin henv rfl rfl rfl) ?_
    refine aA rfl rfl ?_
    intro a henv
    refine wpList_nil ?_
    refine th_n ?_
    refine if_split henv rfl (fun hc66 => ?_) (fun hc66 => ?_)
    · obtain ⟨rfl, b, rfl, hrb⟩ := wd_bad hw hc66
      have hbl := rb_le hrb
      rw [cutw_len hs1 hs2] at hbl
      refine wp_seq ?_
      refine region_seq ?_
      revert a
      refine mA rfl rfl ?_
      refine mA rfl rfl ?_
      refine sA (v := .pointer (some ⟨g62, 1, none⟩)) rfl (fun _ henv => rn_fieldAddr henv fd_anvil_api_Spot_1 (ty_int.size) (by decide) rfl) ?_
      refine sA (v := .int .i64 (b : Nat)) rfl (fun _ henv => rn_load1 henv ty_int rfl (hst.oat (k := 0) rfl) rfl) ?_
      refine sA (v := .int .i64 (p + b : Nat)) rfl (fun _ henv => rn_add henv rfl rfl (by rw [IntWalk.i64_in _ (by omega)]; omega)) ?_
      intro a henv
      refine seq_step rfl (op_callc (vs := #[.int .i64 (p + b : Nat)]) henv rfl Tryd.call97 rfl rfl (calls_app (by simp) (row_wrong (p := p + b))) ?_)
      rintro e w67 ⟨rfl, hb⟩
      refine ⟨_, rfl, ?_⟩
      clear henv a; intro a henv
      replace hst := hst.call hb
      clear hb
      revert a
      refine sA (v := .slice none 0 0) rfl (fun _ henv => rn_extract henv rfl rfl) ?_
      refine sA (v := .agg #[.int .i64 6, .int .i64 (p + b : Nat)]) rfl (fun _ henv => rn_extract henv rfl rfl) ?_
      refine aA rfl rfl ?_
      intro a henv
      refine seq_step rfl (op_store (k := 3) (c' := #[.int .i64 6, .int .i64 (p + b : Nat)]) henv hst (ty_anvil_api_Spot.size) rfl rfl rfl rfl (by simp) rfl rfl ?_)
      clear henv hst a; intro a w68 henv hst
      refine wpList_nil ?_
      refine th_n ?_
      refine wp_ret ?_
      refine bl_r (th_r (sj_r ?_))
      refine leave henv (res2 Tryd.results78 (RV.tmp henv rfl) (RV.cell henv ty_anvil_api_Spot rfl (hst.oat (k := 3) rfl) rfl)) ?_
      exact ⟨.inr (.inl ⟨_, (.go h0 hne h1 (hgo _ (go_bad hsen hrb))), rfl⟩), hst.below⟩
    · obtain ⟨rfl, rfl, hrz⟩ := wd_ok hw hc66
      refine wp_seq ?_
      refine region_seq ?_
      revert a
      refine mA rfl rfl ?_
      refine sA (v := .int .i64 (j : Nat)) rfl (fun _ henv => rn_len henv Tryd.underlying32 rfl) ?_
      refine sA (v := .bool (((j : Nat) : Int) == (4096 : Int))) rfl (fun _ henv => rn_bin henv rfl rfl rfl) ?_
      refine aA rfl rfl ?_
      intro a henv
      refine wpList_nil ?_
      refine th_n ?_
      refine if_split henv rfl (fun hc69 => ?_) (fun hc69 => ?_)
      · have hj4 := eq_of_beq hc69
        replace hj4 : j = 4096 := by omega
        refine wp_seq ?_
        refine region_seq ?_
        revert a
        refine mA rfl rfl ?_
        refine sA (v := .agg #[.int .i64 3, .int .i64 (p : Nat)]) rfl (fun _ henv => rn_spot2 henv rfl rfl) ?_
        refine aA rfl rfl ?_
        intro a henv
        refine seq_step rfl (op_store (k := 3) (c' := #[.int .i64 3, .int .i64 (p : Nat)]) henv hst (ty_anvil_api_Spot.size) rfl rfl rfl rfl (by simp) rfl rfl ?_)
        clear henv hst a; intro a w70 henv hst
        refine wpList_nil ?_
        refine th_n ?_
        refine wp_ret ?_
        refine bl_r (th_r (sj_r ?_))
        refine leave henv (res2 Tryd.results78 (RV.tmp henv rfl) (RV.cell henv ty_anvil_api_Spot rfl (hst.oat (k := 3) rfl) rfl)) ?_
        exact ⟨.inr (.inr ⟨p, zs, by omega, hp1, hpre, rfl⟩), hst.below⟩
      · have hj4 := ne_of_beq_false hc69
        replace hj4 : j < 4096 := by omega
        refine wp_skip ?_
        refine bl_n (th_n ?_)
        refine wp_seq ?_
        refine region_seq ?_
        revert a
        refine mA rfl rfl ?_
        refine sA (v := .agg #[.bool (neg z1), .slice A56 (zl z1) c57]) rfl (fun _ henv => rn_load0 henv ty_anvil_integer_Int rfl (hst.oat (k := 1) rfl) rfl) ?_
        intro a henv
        refine seq_step rfl (op_buildSlice (z := 2) (pv := #[(0, .agg #[.bool (neg z1), .slice A56 (zl z1) c57])]) (c := #[.bool (neg z1), .slice A56 (zl z1) c57]) henv hst rfl Tryd.underlying32 (ty_anvil_integer_Int.size) zero_anvil_integer_Int (by decide) (by decide) rfl (by kernel_rfl) ?_)
        clear henv hst a; intro a w72 g71 henv hst
        refine seq_step rfl (op_appendS (k := 3) (j := 0) henv hst rfl Tryd.underlying32 inf_anvil_integer_Int rfl rfl rfl rfl rfl rfl rfl rfl rfl rfl rfl (by unfold maxLen; omega) (by omega) ?_)
        clear henv hst a; intro a w75 g73 c74 henv hst
        rw [show fl fN os ++ (#[.bool (neg z1), .slice A56 (zl z1) c57] : Array Value).toList = fl fN (os ++ [(A56, c57, z1)]) from fl_snoc (f := fN) os (A56, c57, z1)] at hst
        replace hst := hst.snocEs (e := (A56, c57, z1)) (i := 1) (j := 0) rfl rfl
        refine sv (v := .slice (some ⟨g73, 0, none⟩) (j + 1) c74) henv rfl (rn_assign henv rfl) ?_
        clear henv a; intro a henv
        refine wpList_nil ?_
        refine th_n ?_
        refine wp_seq ?_
        refine wp_block ?_
        refine wp_seq ?_
        refine region_seq ?_
        revert a
        refine mA rfl rfl ?_
        refine mA rfl rfl ?_
        refine sA (v := .int .i64 (s.length : Nat)) rfl (fun _ henv => rn_lenS henv Tryd.underlying9 rfl) ?_
        refine sA (v := .bool (((q : Nat) : Int) == ((s.length : Nat) : Int))) rfl (fun _ henv => rn_bin henv rfl rfl rfl) ?_
        refine aA rfl rfl ?_
        intro a henv
        refine wpList_nil ?_
        refine th_n ?_
        refine if_split henv rfl (fun hc76 => ?_) (fun hc76 => ?_)
        · have hqe := eq_of_beq hc76
          replace hqe : q = s.length := by omega
          refine wp_seq ?_
          refine region_seq ?_
          revert a
          refine mA rfl rfl ?_
          refine mA rfl rfl ?_
          intro a henv
          refine seq_step rfl (op_callc (vs := #[.int .i64 (q : Nat)]) henv rfl Tryd.call97 rfl rfl (calls_app (by simp) (row_wrong (p := q))) ?_)
          rintro e w77 ⟨rfl, hb⟩
          refine ⟨_, rfl, ?_⟩
          clear henv a; intro a henv
          replace hst := hst.call hb
          clear hb
          revert a
          refine sA (v := .slice none 0 0) rfl (fun _ henv => rn_extract henv rfl rfl) ?_
          refine sA (v := .agg #[.int .i64 6, .int .i64 (q : Nat)]) rfl (fun _ henv => rn_extract henv rfl rfl) ?_
          refine aA rfl rfl ?_
          intro a henv
          refine seq_step rfl (op_store (k := 4) (c' := #[.int .i64 6, .int .i64 (q : Nat)]) henv hst (ty_anvil_api_Spot.size) rfl rfl rfl rfl (by simp) rfl rfl ?_)
          clear henv hst a; intro a w78 henv hst
          refine wpList_nil ?_
          refine th_n ?_
          refine wp_ret ?_
          refine bl_r (th_r (sj_r ?_))
          refine leave henv (res2 Tryd.results78 (RV.tmp henv rfl) (RV.cell henv ty_anvil_api_Spot rfl (hst.oat (k := 4) rfl) rfl)) ?_
          exact ⟨.inr (.inl ⟨_, (.go h0 hne h1 (hgo _ (go_fin hsen hrz hqe))), rfl⟩), hst.below⟩
        · have hqe := ne_of_beq_false hc76
          have hql : q < s.length := by omega
          refine wp_seq ?_
          refine region_seq ?_
          revert a
          refine mA rfl rfl ?_
          refine mA rfl rfl ?_
          refine sA (v := .int .u8 ((s.getD q 0).toNat : Nat)) rfl (fun _ henv => rn_idxS (i := q) henv Tryd.underlying9 rfl rfl (by omega)) ?_
          refine sA (v := .bool ((((s.getD q 0).toNat : Nat) : Int) == (32 : Int))) rfl (fun _ henv => rn_bin henv rfl rfl rfl) ?_
          refine aA rfl rfl ?_
          intro a henv
          refine wpList_nil ?_
          refine th_n ?_
          refine if_split henv rfl (fun hc79 => ?_) (fun hc79 => ?_)
          · have hcc := eq_of_beq hc79
            replace hcc : (s.getD q 0).toNat = 32 := by omega
            have hseg : Seg s p q := sen_stp hsen (fun _ => .inl hcc)
            refine wp_seq ?_
            refine region_seq ?_
            revert a
            refine mA rfl rfl ?_
            refine sA (v := .int .i64 (q + 1 : Nat)) rfl (fun _ henv => rn_add henv rfl rfl (by rw [IntWalk.i64_in _ (by omega)]; omega)) ?_
            refine aA rfl rfl ?_
            intro a henv
            refine wpList_nil ?_
            refine th_n ?_
            refine wp_goto ?_
            refine bl_g (th_g (sj_g ?_))
            exact ⟨_, (by omega), ⟨(q + 1), (j + 1), (zs ++ [z1]), (some ⟨g73, 0, none⟩), c74, (os ++ [(A56, c57, z1)]), rfl, henv.sub ⟨rfl, rfl, rfl, rfl, rfl, trivial⟩, hst.pick [3, 4] [0] (by decide), (by omega), (by omega), (by omega), (by rw [List.length_append, hzl]; rfl), (by rw [List.map_append, ho]; rfl), (pre_step hpre hrz hs1 hql hcc), (fun r hr => hgo r (.next hseg hrz hql hcc hr))⟩⟩
          · have hcc := ne_of_beq_false hc79
            refine wp_seq ?_
            refine region_seq ?_
            revert a
            refine mA rfl rfl ?_
            refine mA rfl rfl ?_
            refine sA (v := .int .u8 ((s.getD q 0).toNat : Nat)) rfl (fun _ henv => rn_idxS (i := q) henv Tryd.underlying9 rfl rfl (by omega)) ?_
            refine sA (v := .bool ((((s.getD q 0).toNat : Nat) : Int) != (93 : Int))) rfl (fun _ henv => rn_bin henv rfl rfl rfl) ?_
            refine aA rfl rfl ?_
            intro a henv
            refine wpList_nil ?_
            refine th_n ?_
            refine if_split henv rfl (fun hc80 => ?_) (fun hc80 => ?_)
            · have hdd := bne_iff_ne.1 hc80
              have hns : ¬ stp (s.getD q 0) := fun hn => by unfold stp at hn; omega
              refine wp_seq ?_
              refine region_seq ?_
              revert a
              refine mA rfl rfl ?_
              refine mA rfl rfl ?_
              intro a henv
              refine seq_step rfl (op_callc (vs := #[.int .i64 (q : Nat)]) henv rfl Tryd.call97 rfl rfl (calls_app (by simp) (row_wrong (p := q))) ?_)
              rintro e w81 ⟨rfl, hb⟩
              refine ⟨_, rfl, ?_⟩
              clear henv a; intro a henv
              replace hst := hst.call hb
              clear hb
              revert a
              refine sA (v := .slice none 0 0) rfl (fun _ henv => rn_extract henv rfl rfl) ?_
              refine sA (v := .agg #[.int .i64 6, .int .i64 (q : Nat)]) rfl (fun _ henv => rn_extract henv rfl rfl) ?_
              refine aA rfl rfl ?_
              intro a henv
              refine seq_step rfl (op_store (k := 4) (c' := #[.int .i64 6, .int .i64 (q : Nat)]) henv hst (ty_anvil_api_Spot.size) rfl rfl rfl rfl (by simp) rfl rfl ?_)
              clear henv hst a; intro a w82 henv hst
              refine wpList_nil ?_
              refine th_n ?_
              refine wp_ret ?_
              refine bl_r (th_r (sj_r ?_))
              refine leave henv (res2 Tryd.results78 (RV.tmp henv rfl) (RV.cell henv ty_anvil_api_Spot rfl (hst.oat (k := 4) rfl) rfl)) ?_
              exact ⟨.inr (.inl ⟨_, (.go h0 hne h1 (hgo _ (go_odd hsen hrz hql hns))), rfl⟩), hst.below⟩
            · have hdd := eq_of_bneF hc80
              replace hdd : (s.getD q 0).toNat = 93 := by omega
              have hseg : Seg s p q := sen_stp hsen (fun _ => .inr hdd)
              refine wp_seq ?_
              refine region_seq ?_
              revert a
              refine mA rfl rfl ?_
              refine sA (v := .int .i64 (q + 1 : Nat)) rfl (fun _ henv => rn_add henv rfl rfl (by rw [IntWalk.i64_in _ (by omega)]; omega)) ?_
              refine mA rfl rfl ?_
              refine sA (v := .int .i64 (s.length : Nat)) rfl (fun _ henv => rn_lenS henv Tryd.underlying9 rfl) ?_
              refine sA (v := .bool (decide (((q + 1 : Nat) : Int) < ((s.length : Nat) : Int)))) rfl (fun _ henv => rn_bin henv rfl rfl rfl) ?_
              refine aA rfl rfl ?_
              intro a henv
              refine wpList_nil ?_
              refine th_n ?_
              refine if_split henv rfl (fun hc83 => ?_) (fun hc83 => ?_)
              · have hlast := of_decide_eq_true hc83
                refine wp_seq ?_
                refine region_seq ?_
                revert a
                refine mA rfl rfl ?_
                refine mA rfl rfl ?_
                refine sA (v := .int .i64 (q + 1 : Nat)) rfl (fun _ henv => rn_add henv rfl rfl (by rw [IntWalk.i64_in _ (by omega)]; omega)) ?_
                intro a henv
                refine seq_step rfl (op_callc (vs := #[.int .i64 (q + 1 : Nat)]) henv rfl Tryd.call97 rfl rfl (calls_app (by simp) (row_wrong (p := q + 1))) ?_)
                rintro e w84 ⟨rfl, hb⟩
                refine ⟨_, rfl, ?_⟩
                clear henv a; intro a henv
                replace hst := hst.call hb
                clear hb
                revert a
                refine sA (v := .slice none 0 0) rfl (fun _ henv => rn_extract henv rfl rfl) ?_
                refine sA (v := .agg #[.int .i64 6, .int .i64 (q + 1 : Nat)]) rfl (fun _ henv => rn_extract henv rfl rfl) ?_
                refine aA rfl rfl ?_
                intro a henv
                refine seq_step rfl (op_store (k := 4) (c' := #[.int .i64 6, .int .i64 (q + 1 : Nat)]) henv hst (ty_anvil_api_Spot.size) rfl rfl rfl rfl (by simp) rfl rfl ?_)
                clear henv hst a; intro a w85 henv hst
                refine wpList_nil ?_
                refine th_n ?_
                refine wp_ret ?_
                refine bl_r (th_r (sj_r ?_))
                refine leave henv (res2 Tryd.results78 (RV.tmp henv rfl) (RV.cell henv ty_anvil_api_Spot rfl (hst.oat (k := 4) rfl) rfl)) ?_
                exact ⟨.inr (.inl ⟨_, (.go h0 hne h1 (hgo _ (.more hseg hrz hdd (by omega)))), rfl⟩), hst.below⟩
              · have hlast := of_decide_eq_false hc83
                refine wp_skip ?_
                refine bl_n (th_n ?_)
                refine wp_seq ?_
                refine region_seq ?_
                revert a
                refine mA rfl rfl ?_
                refine sA (v := .agg #[.int .i64 0, .int .i64 0]) rfl (fun _ henv => rn_spot0) ?_
                refine aA rfl rfl ?_
                intro a henv
                refine seq_step rfl (op_store (k := 4) (c' := #[.int .i64 0, .int .i64 0]) henv hst (ty_anvil_api_Spot.size) rfl rfl rfl rfl (by simp) rfl rfl ?_)
                clear henv hst a; intro a w86 henv hst
                refine wpList_nil ?_
                refine th_n ?_
                refine wp_ret ?_
                refine sj_r ?_
                refine leave henv (res2 Tryd.results78 (RV.tmp henv rfl) (RV.cell henv ty_anvil_api_Spot rfl (hst.oat (k := 4) rfl) rfl)) ?_
                exact ⟨.inl ⟨zs ++ [z1], _, _, (.go h0 hne h1 (hgo _ (.done hseg hrz hdd (by omega)))), (by rw [List.length_append, hzl]; rfl), (by omega), rfl, ⟨_, _, _, rfl, hst.newRow (k := 3) (j := 0) rfl rfl, (by have hol := congrArg List.length ho; rw [List.length_map] at hol; rw [List.length_append, hol, hzl]; rfl), (by rw [List.map_append, ho]; rfl)⟩⟩, hst.below⟩
  · intro hR
    refine wp_seq ?_
    refine wp_seq ?_
    refine region_seq ?_
    revert a
    refine mA rfl rfl ?_
    refine sA (v := .int .i64 (s.length : Nat)) rfl (fun _ henv => rn_lenS henv Tryd.underlying9 rfl) ?_
    refine sA (v := .bool (decide (((s.length : Nat) : Int) > (65536 : Int)))) rfl (fun _ henv => rn_bin henv rfl rfl rfl) ?_
    intro a henv
    rw [show (decide (((s.length : Nat) : Int) > (65536 : Int))) = false from decide_eq_false (by omega)] at henv
    refine wpList_nil ?_
    refine th_n ?_
    refine if_f henv rfl (rfl) ?_
    refine wp_skip ?_
    refine th_n ?_
    refine wp_seq ?_
    refine region_seq ?_
    refine sv (v := .func (.func 97) #[] #[]) henv rfl (rn_assign henv rfl) ?_
    clear henv a; intro a henv
    refine wpList_nil ?_
    refine th_n ?_
    refine wp_seq ?_
    refine wp_seq ?_
    refine region_seq ?_
    revert a
    refine mA rfl rfl ?_
    refine sA (v := .bool (decide (s = []))) rfl (fun _ henv => rn_eqls (s := s) (t := []) henv rfl rfl) ?_
    intro a henv
    rw [show (decide (s = [])) = false from decide_eq_false hne] at henv
    revert a
    refine mA rfl rfl ?_
    refine gA (v := .string ⟨s.toArray⟩) rfl rfl rfl rfl (fun _ henv => rn_move henv rfl) ?_
    refine gA (v := .int .u8 ((s.getD 0 0).toNat : Nat)) rfl rfl rfl rfl (fun _ henv => rn_idxS (i := 0) henv Tryd.underlying9 rfl rfl (by omega)) ?_
    refine gA (v := .bool ((((s.getD 0 0).toNat : Nat) : Int) != (91 : Int))) rfl rfl rfl rfl (fun _ henv => rn_bin henv rfl rfl rfl) ?_
    intro a henv
    rw [show ((((s.getD 0 0).toNat : Nat) : Int) != (91 : Int)) = false from bne_false (by omega)] at henv
    refine sv (v := .bool false) henv rfl (rn_pick henv rfl rfl) ?_
    clear henv a; intro a henv
    refine wpList_nil ?_
    refine th_n ?_
    refine if_f henv rfl (rfl) ?_
    refine wp_skip ?_
    refine th_n ?_
    refine wp_seq ?_
    refine region_seq ?_
    refine sv (v := .slice none 0 0) henv rfl (rn_assign henv rfl) ?_
    clear henv a; intro a henv
    refine wpList_nil ?_
    replace hst := (hst.addRowS notU 28 2).nilEs FN
    replace hst : St w0 _ [rowS notU 28 2 none 0 0 (fl fN ([])), bk g51 #[.int .i64 0, .int .i64 0] 71] [pfEs FN ([])] := hst
    refine th_n ?_
    refine wp_seq ?_
    refine region_seq ?_
    refine sv (v := .int .i64 1) henv rfl (rn_assign henv rfl) ?_
    clear henv a; intro a henv
    refine wpList_nil ?_
    refine th_n ?_
    refine wp_seq ?_
    refine wp_seq ?_
    refine region_seq ?_
    revert a
    refine mA rfl rfl ?_
    refine sA (v := .bool (decide (s = [91, 93]))) rfl (fun _ henv => rn_eqls (s := s) (t := [91, 93]) henv rfl rfl) ?_
    intro a henv
    rw [show (decide (s = [91, 93])) = false from decide_eq_false (fun e => h1 (by subst e; exact ⟨by decide, rfl⟩))] at henv
    refine wpList_nil ?_
    refine th_n ?_
    refine if_f henv rfl (rfl) ?_
    refine wp_skip ?_
    refine th_n ?_
    refine wp_seq ?_
    refine wp_seq ?_
    refine region_seq ?_
    refine sv (v := .string ⟨s.toArray⟩) henv rfl (rn_move henv rfl) ?_
    clear henv a; intro a henv
    refine seq_step rfl (op_call henv rfl Tryd.call98 rfl (hpx_no h1) ?_)
    rintro e w87 ⟨rfl, hb⟩
    refine ⟨_, rfl, ?_⟩
    clear henv a; intro a henv
    replace hst := hst.call hb
    clear hb
    refine wpList_nil ?_
    refine th_n ?_
    refine if_f henv rfl (rfl) ?_
    refine wp_skip ?_
    refine th_n ?_
    refine wp_seq ?_
    refine wp_label ?_
    refine th_n ?_
    exact hR _ _ _ ⟨1, 0, [], none, 0, [], rfl, henv.sub ⟨rfl, rfl, rfl, rfl, rfl, trivial⟩, hst.pick [0, 1] [0] (by decide), (Nat.le_refl _), hlen, (Nat.zero_le _), rfl, rfl, (pre_nil hne h0), (fun _ h => h)⟩
theorem row_read {s : List UInt8} {w0 : World} (hl : s.length ≤ 65536) :
    Calls Tryd.prog 78 #[.string ⟨s.toArray⟩] w0 fun e w' => ((∃ zs n v, Rd0 s (.inl zs) ∧ zs.length = n ∧ n ≤ 4096 ∧ e = .returned (.tuple #[v, .agg #[.int .i64 0, .int .i64 0]]) ∧ ZRow w0.heap.size w' v n zs) ∨ (∃ b : Nat, Rd0 s (.inr b) ∧ e = .returned (.tuple #[.slice none 0 0, .agg #[.int .i64 6, .int .i64 (b : Nat)]])) ∨ (∃ (p : Nat) (zs : List Int), zs.length = 4096 ∧ p ≤ s.length ∧ s.take p = preT zs ∧ e = .returned (.tuple #[.slice none 0 0, .agg #[.int .i64 3, .int .i64 (p : Nat)]]))) ∧ Below w0.heap.size w0 w' := by
  by_cases hne : s = []
  · exact (row_read_empty hne).mono fun e w' ⟨he, hb⟩ => ⟨.inr (.inl ⟨0, .no (.inl hne), he⟩), hb⟩
  by_cases h0 : (s.getD 0 0).toNat = 91
  · by_cases h1 : 1 < s.length ∧ (s.getD 1 0).toNat = 93
    · rcases Nat.lt_or_ge 2 s.length with h2 | h2
      · exact (row_read_tail hl h0 h1.2 h2).mono fun e w' ⟨he, hb⟩ => ⟨.inr (.inl ⟨2, .tail h0 h1.2 h2, he⟩), hb⟩
      · exact (row_read_void h0 h1.2 (by omega)).mono fun e w' ⟨he, hb⟩ => ⟨.inl ⟨[], 0, _, .void h0 h1.2 (by omega), rfl, by decide, he, zrow_nil _ _⟩, hb⟩
    · exact row_read_go hl h0 hne h1
  · exact (row_read_no hl hne h0).mono fun e w' ⟨he, hb⟩ => ⟨.inr (.inl ⟨0, .no (.inr h0), he⟩), hb⟩
set_option maxRecDepth 100000 in
set_option maxHeartbeats 2000000 in
theorem ref_read_empty {s : List UInt8} {w0 : World} (h0 : s.length = 0) :
    Calls Tryd.prog 47 #[.string ⟨s.toArray⟩] w0 fun e w' => e = .returned (.tuple #[.slice none 0 0, .int .i64 0]) ∧ Below w0.heap.size w0 w' := by
  refine enter Tryd.func47 rfl Tryd.ntmps47 rfl ?_
  intro a henv hst
  refine wp_seq ?_
  refine region_seq ?_
  revert a
  refine aA rfl rfl ?_
  refine aA rfl rfl ?_
  intro a henv
  refine wpList_nil ?_
  refine th_n ?_
  refine wp_seq ?_
  refine wp_seq ?_
  refine region_seq ?_
  revert a
  refine mA rfl rfl ?_
  refine sA (v := .int .i64 (s.length : Nat)) rfl (fun _ henv => rn_lenS henv Tryd.underlying9 rfl) ?_
  refine sA (v := .bool (((s.length : Nat) : Int) == (0 : Int))) rfl (fun _ henv => rn_bin henv rfl rfl rfl) ?_
  intro a henv
  rw [show (((s.length : Nat) : Int) == (0 : Int)) = true from beq_iff_eq.2 (by omega)] at henv
  revert a
  refine mA rfl rfl ?_
  refine kA rfl rfl rfl rfl rfl ?_
  refine kA rfl rfl rfl rfl rfl ?_
  refine kA rfl rfl rfl rfl rfl ?_
  refine sA (v := .bool true) rfl (fun _ henv => rn_pick henv rfl rfl) ?_
  intro a henv
  refine wpList_nil ?_
  refine th_n ?_
  refine if_t henv rfl (rfl) ?_
  refine wp_seq ?_
  refine region_seq ?_
  revert a
  refine aA rfl rfl ?_
  refine aA rfl rfl ?_
  intro a henv
  refine wpList_nil ?_
  refine th_n ?_
  refine wp_ret ?_
  refine th_r ?_
  refine leave henv (res2 Tryd.results47 (RV.tmp henv rfl) (RV.tmp henv rfl)) ?_
  exact ⟨rfl, hst.below⟩
set_option maxRecDepth 100000 in
set_option maxHeartbeats 2000000 in
theorem ref_read_no {s : List UInt8} {w0 : World} (hl : s.length ≤ 65536) (hlen : 1 ≤ s.length) (h0 : (s.getD 0 0).toNat ≠ 91) :
    Calls Tryd.prog 47 #[.string ⟨s.toArray⟩] w0 fun e w' => e = .returned (.tuple #[.slice none 0 0, .int .i64 0]) ∧ Below w0.heap.size w0 w' := by
  refine enter Tryd.func47 rfl Tryd.ntmps47 rfl ?_
  intro a henv hst
  refine wp_seq ?_
  refine region_seq ?_
  revert a
  refine aA rfl rfl ?_
  refine aA rfl rfl ?_
  intro a henv
  refine wpList_nil ?_
  refine th_n ?_
  refine wp_seq ?_
  refine wp_seq ?_
  refine region_seq ?_
  revert a
  refine mA rfl rfl ?_
  refine sA (v := .int .i64 (s.length : Nat)) rfl (fun _ henv => rn_lenS henv Tryd.underlying9 rfl) ?_
  refine sA (v := .bool (((s.length : Nat) : Int) == (0 : Int))) rfl (fun _ henv => rn_bin henv rfl rfl rfl) ?_
  intro a henv
  rw [show (((s.length : Nat) : Int) == (0 : Int)) = false from beq_eq_false_iff_ne.2 (by omega)] at henv
  revert a
  refine mA rfl rfl ?_
  refine gA (v := .string ⟨s.toArray⟩) rfl rfl rfl rfl (fun _ henv => rn_move henv rfl) ?_
  refine gA (v := .int .u8 ((s.getD 0 0).toNat : Nat)) rfl rfl rfl rfl (fun _ henv => rn_idxS (i := 0) henv Tryd.underlying9 rfl rfl (by omega)) ?_
  refine gA (v := .bool ((((s.getD 0 0).toNat : Nat) : Int) != (91 : Int))) rfl rfl rfl rfl (fun _ henv => rn_bin henv rfl rfl rfl) ?_
  intro a henv
  rw [show ((((s.getD 0 0).toNat : Nat) : Int) != (91 : Int)) = true from bne_iff_ne.2 (by omega)] at henv
  refine sv (v := .bool true) henv rfl (rn_pick henv rfl rfl) ?_
  clear henv a; intro a henv
  refine wpList_nil ?_
  refine th_n ?_
  refine if_t henv rfl (rfl) ?_
  refine wp_seq ?_
  refine region_seq ?_
  revert a
  refine aA rfl rfl ?_
  refine aA rfl rfl ?_
  intro a henv
  refine wpList_nil ?_
  refine th_n ?_
  refine wp_ret ?_
  refine th_r ?_
  refine leave henv (res2 Tryd.results47 (RV.tmp henv rfl) (RV.tmp henv rfl)) ?_
  exact ⟨rfl, hst.below⟩
set_option maxRecDepth 100000 in
set_option maxHeartbeats 2000000 in
theorem ref_read_void {s : List UInt8} {w0 : World} (h0 : (s.getD 0 0).toNat = 91) (h1 : (s.getD 1 0).toNat = 93) (h2 : s.length = 2) :
    Calls Tryd.prog 47 #[.string ⟨s.toArray⟩] w0 fun e w' => ∃ v, e = .returned (.tuple #[v, .int .i64 (-1)]) ∧ MRow w0.heap.size w' v 0 [] ∧ Below w0.heap.size w0 w' := by
  refine enter Tryd.func47 rfl Tryd.ntmps47 rfl ?_
  intro a henv hst
  refine wp_seq ?_
  refine region_seq ?_
  revert a
  refine aA rfl rfl ?_
  refine aA rfl rfl ?_
  intro a henv
  refine wpList_nil ?_
  refine th_n ?_
  refine wp_seq ?_
  refine wp_seq ?_
  refine region_seq ?_
  revert a
  refine mA rfl rfl ?_
  refine sA (v := .int .i64 (s.length : Nat)) rfl (fun _ henv => rn_lenS henv Tryd.underlying9 rfl) ?_
  refine sA (v := .bool (((s.length : Nat) : Int) == (0 : Int))) rfl (fun _ henv => rn_bin henv rfl rfl rfl) ?_
  intro a henv
  rw [show (((s.length : Nat) : Int) == (0 : Int)) = false from beq_eq_false_iff_ne.2 (by omega)] at henv
  revert a
  refine mA rfl rfl ?_
  refine gA (v := .string ⟨s.toArray⟩) rfl rfl rfl rfl (fun _ henv => rn_move henv rfl) ?_
  refine gA (v := .int .u8 ((s.getD 0 0).toNat : Nat)) rfl rfl rfl rfl (fun _ henv => rn_idxS (i := 0) henv Tryd.underlying9 rfl rfl (by omega)) ?_
  refine gA (v := .bool ((((s.getD 0 0).toNat : Nat) : Int) != (91 : Int))) rfl rfl rfl rfl (fun _ henv => rn_bin henv rfl rfl rfl) ?_
  intro a henv
  rw [show ((((s.getD 0 0).toNat : Nat) : Int) != (91 : Int)) = false from bne_false (by omega)] at henv
  refine sv (v := .bool false) henv rfl (rn_pick henv rfl rfl) ?_
  clear henv a; intro a henv
  refine wpList_nil ?_
  refine th_n ?_
  refine if_f henv rfl (rfl) ?_
  refine wp_skip ?_
  refine th_n ?_
  refine wp_seq ?_
  refine wp_seq ?_
  refine region_seq ?_
  revert a
  refine mA rfl rfl ?_
  refine sA (v := .int .i64 (s.length : Nat)) rfl (fun _ henv => rn_lenS henv Tryd.underlying9 rfl) ?_
  refine sA (v := .bool (decide (((s.length : Nat) : Int) > (1 : Int)))) rfl (fun _ henv => rn_bin henv rfl rfl rfl) ?_
  intro a henv
  rw [show (decide (((s.length : Nat) : Int) > (1 : Int))) = true from decide_eq_true (by omega)] at henv
  revert a
  refine mA rfl rfl ?_
  refine gA (v := .string ⟨s.toArray⟩) rfl rfl rfl rfl (fun _ henv => rn_move henv rfl) ?_
  refine gA (v := .int .u8 ((s.getD 1 0).toNat : Nat)) rfl rfl rfl rfl (fun _ henv => rn_idxS (i := 1) henv Tryd.underlying9 rfl rfl (by omega)) ?_
  refine gA (v := .bool ((((s.getD 1 0).toNat : Nat) : Int) == (93 : Int))) rfl rfl rfl rfl (fun _ henv => rn_bin henv rfl rfl rfl) ?_
  intro a henv
  rw [show ((((s.getD 1 0).toNat : Nat) : Int) == (93 : Int)) = true from beq_iff_eq.2 (by omega)] at henv
  refine sv (v := .bool true) henv rfl (rn_pick henv rfl rfl) ?_
  clear henv a; intro a henv
  refine wpList_nil ?_
  refine th_n ?_
  refine if_t henv rfl (rfl) ?_
  refine wp_seq ?_
  refine wp_seq ?_
  refine region_seq ?_
  revert a
  refine mA rfl rfl ?_
  refine sA (v := .int .i64 (s.length : Nat)) rfl (fun _ henv => rn_lenS henv Tryd.underlying9 rfl) ?_
  refine sA (v := .bool (decide (((s.length : Nat) : Int) > (2 : Int)))) rfl (fun _ henv => rn_bin henv rfl rfl rfl) ?_
  intro a henv
  rw [show (decide (((s.length : Nat) : Int) > (2 : Int))) = false from decide_eq_false (by omega)] at henv
  refine wpList_nil ?_
  refine th_n ?_
  refine if_f henv rfl (rfl) ?_
  refine wp_skip ?_
  refine th_n ?_
  refine wp_seq ?_
  refine region_seq ?_
  refine seq_step rfl (op_buildSlice0 henv hst rfl Tryd.underlying76 (ty_anvil_anvilref02_Int.size) ?_)
  clear henv hst a; intro a w52 g51 henv hst
  revert a
  refine aA rfl rfl ?_
  refine aA rfl rfl ?_
  intro a henv
  refine wpList_nil ?_
  refine th_n ?_
  refine wp_ret ?_
  refine th_r ?_
  refine leave henv (res2 Tryd.results47 (RV.tmp henv rfl) (RV.tmp henv rfl)) ?_
  exact ⟨_, rfl, mrow_nil (hst.oat (k := 0) rfl) (hst.oge (k := 0) rfl), hst.below⟩
set_option maxRecDepth 100000 in
set_option maxHeartbeats 2000000 in
theorem ref_read_tail {s : List UInt8} {w0 : World} (hl : s.length ≤ 65536) (h0 : (s.getD 0 0).toNat = 91) (h1 : (s.getD 1 0).toNat = 93) (h2 : 2 < s.length) :
    Calls Tryd.prog 47 #[.string ⟨s.toArray⟩] w0 fun e w' => e = .returned (.tuple #[.slice none 0 0, .int .i64 2]) ∧ Below w0.heap.size w0 w' := by
  refine enter Tryd.func47 rfl Tryd.ntmps47 rfl ?_
  intro a henv hst
  refine wp_seq ?_
  refine region_seq ?_
  revert a
  refine aA rfl rfl ?_
  refine aA rfl rfl ?_
  intro a henv
  refine wpList_nil ?_
  refine th_n ?_
  refine wp_seq ?_
  refine wp_seq ?_
  refine region_seq ?_
  revert a
  refine mA rfl rfl ?_
  refine sA (v := .int .i64 (s.length : Nat)) rfl (fun _ henv => rn_lenS henv Tryd.underlying9 rfl) ?_
  refine sA (v := .bool (((s.length : Nat) : Int) == (0 : Int))) rfl (fun _ henv => rn_bin henv rfl rfl rfl) ?_
  intro a henv
  rw [show (((s.length : Nat) : Int) == (0 : Int)) = false from beq_eq_false_iff_ne.2 (by omega)] at henv
  revert a
  refine mA rfl rfl ?_
  refine gA (v := .string ⟨s.toArray⟩) rfl rfl rfl rfl (fun _ henv => rn_move henv rfl) ?_
  refine gA (v := .int .u8 ((s.getD 0 0).toNat : Nat)) rfl rfl rfl rfl (fun _ henv => rn_idxS (i := 0) henv Tryd.underlying9 rfl rfl (by omega)) ?_
  refine gA (v := .bool ((((s.getD 0 0).toNat : Nat) : Int) != (91 : Int))) rfl rfl rfl rfl (fun _ henv => rn_bin henv rfl rfl rfl) ?_
  intro a henv
  rw [show ((((s.getD 0 0).toNat : Nat) : Int) != (91 : Int)) = false from bne_false (by omega)] at henv
  refine sv (v := .bool false) henv rfl (rn_pick henv rfl rfl) ?_
  clear henv a; intro a henv
  refine wpList_nil ?_
  refine th_n ?_
  refine if_f henv rfl (rfl) ?_
  refine wp_skip ?_
  refine th_n ?_
  refine wp_seq ?_
  refine wp_seq ?_
  refine region_seq ?_
  revert a
  refine mA rfl rfl ?_
  refine sA (v := .int .i64 (s.length : Nat)) rfl (fun _ henv => rn_lenS henv Tryd.underlying9 rfl) ?_
  refine sA (v := .bool (decide (((s.length : Nat) : Int) > (1 : Int)))) rfl (fun _ henv => rn_bin henv rfl rfl rfl) ?_
  intro a henv
  rw [show (decide (((s.length : Nat) : Int) > (1 : Int))) = true from decide_eq_true (by omega)] at henv
  revert a
  refine mA rfl rfl ?_
  refine gA (v := .string ⟨s.toArray⟩) rfl rfl rfl rfl (fun _ henv => rn_move henv rfl) ?_
  refine gA (v := .int .u8 ((s.getD 1 0).toNat : Nat)) rfl rfl rfl rfl (fun _ henv => rn_idxS (i := 1) henv Tryd.underlying9 rfl rfl (by omega)) ?_
  refine gA (v := .bool ((((s.getD 1 0).toNat : Nat) : Int) == (93 : Int))) rfl rfl rfl rfl (fun _ henv => rn_bin henv rfl rfl rfl) ?_
  intro a henv
  rw [show ((((s.getD 1 0).toNat : Nat) : Int) == (93 : Int)) = true from beq_iff_eq.2 (by omega)] at henv
  refine sv (v := .bool true) henv rfl (rn_pick henv rfl rfl) ?_
  clear henv a; intro a henv
  refine wpList_nil ?_
  refine th_n ?_
  refine if_t henv rfl (rfl) ?_
  refine wp_seq ?_
  refine wp_seq ?_
  refine region_seq ?_
  revert a
  refine mA rfl rfl ?_
  refine sA (v := .int .i64 (s.length : Nat)) rfl (fun _ henv => rn_lenS henv Tryd.underlying9 rfl) ?_
  refine sA (v := .bool (decide (((s.length : Nat) : Int) > (2 : Int)))) rfl (fun _ henv => rn_bin henv rfl rfl rfl) ?_
  intro a henv
  rw [show (decide (((s.length : Nat) : Int) > (2 : Int))) = true from decide_eq_true (by omega)] at henv
  refine wpList_nil ?_
  refine th_n ?_
  refine if_t henv rfl (rfl) ?_
  refine wp_seq ?_
  refine region_seq ?_
  revert a
  refine aA rfl rfl ?_
  refine aA rfl rfl ?_
  intro a henv
  refine wpList_nil ?_
  refine th_n ?_
  refine wp_ret ?_
  refine th_r (th_r ?_)
  refine leave henv (res2 Tryd.results47 (RV.tmp henv rfl) (RV.tmp henv rfl)) ?_
  exact ⟨rfl, hst.below⟩
set_option maxRecDepth 100000 in
set_option maxHeartbeats 4000000 in
theorem ref_read_go {s : List UInt8} {w0 : World} (hl : s.length ≤ 65536) (h0 : (s.getD 0 0).toNat = 91) (hne : s ≠ []) (hx : s.length ≤ 1) (h1 : ¬ (1 < s.length ∧ (s.getD 1 0).toNat = 93)) :
    Calls Tryd.prog 47 #[.string ⟨s.toArray⟩] w0 fun e w' => ((∃ zs n v, Rd0 s (.inl zs) ∧ zs.length = n ∧ e = .returned (.tuple #[v, .int .i64 (-1)]) ∧ MRow w0.heap.size w' v n zs) ∨ ∃ b : Nat, Rd0 s (.inr b) ∧ e = .returned (.tuple #[.slice none 0 0, .int .i64 (b : Nat)])) ∧ Below w0.heap.size w0 w' := by
  have hlen : 1 ≤ s.length := List.length_pos_iff.2 hne
  refine enter Tryd.func47 rfl Tryd.ntmps47 rfl ?_
  intro a henv hst
  refine wp_seq ?_
  refine region_seq ?_
  revert a
  refine aA rfl rfl ?_
  refine aA rfl rfl ?_
  intro a henv
  refine wpList_nil ?_
  refine th_n ?_
  refine wp_seq ?_
  refine wp_seq ?_
  refine region_seq ?_
  revert a
  refine mA rfl rfl ?_
  refine sA (v := .int .i64 (s.length : Nat)) rfl (fun _ henv => rn_lenS henv Tryd.underlying9 rfl) ?_
  refine sA (v := .bool (((s.length : Nat) : Int) == (0 : Int))) rfl (fun _ henv => rn_bin henv rfl rfl rfl) ?_
  intro a henv
  rw [show (((s.length : Nat) : Int) == (0 : Int)) = false from beq_eq_false_iff_ne.2 (by omega)] at henv
  revert a
  refine mA rfl rfl ?_
  refine gA (v := .string ⟨s.toArray⟩) rfl rfl rfl rfl (fun _ henv => rn_move henv rfl) ?_
  refine gA (v := .int .u8 ((s.getD 0 0).toNat : Nat)) rfl rfl rfl rfl (fun _ henv => rn_idxS (i := 0) henv Tryd.underlying9 rfl rfl (by omega)) ?_
  refine gA (v := .bool ((((s.getD 0 0).toNat : Nat) : Int) != (91 : Int))) rfl rfl rfl rfl (fun _ henv => rn_bin henv rfl rfl rfl) ?_
  intro a henv
  rw [show ((((s.getD 0 0).toNat : Nat) : Int) != (91 : Int)) = false from bne_false (by omega)] at henv
  refine sv (v := .bool false) henv rfl (rn_pick henv rfl rfl) ?_
  clear henv a; intro a henv
  refine wpList_nil ?_
  refine th_n ?_
  refine if_f henv rfl (rfl) ?_
  refine wp_skip ?_
  refine th_n ?_
  refine wp_seq ?_
  refine wp_seq ?_
  refine region_seq ?_
  revert a
  refine mA rfl rfl ?_
  refine sA (v := .int .i64 (s.length : Nat)) rfl (fun _ henv => rn_lenS henv Tryd.underlying9 rfl) ?_
  refine sA (v := .bool (decide (((s.length : Nat) : Int) > (1 : Int)))) rfl (fun _ henv => rn_bin henv rfl rfl rfl) ?_
  intro a henv
  rw [show (decide (((s.length : Nat) : Int) > (1 : Int))) = false from decide_eq_false (by omega)] at henv
  revert a
  refine mA rfl rfl ?_
  refine kA rfl rfl rfl rfl rfl ?_
  refine kA rfl rfl rfl rfl rfl ?_
  refine kA rfl rfl rfl rfl rfl ?_
  refine sA (v := .bool false) rfl (fun _ henv => rn_pick henv rfl rfl) ?_
  intro a henv
  refine wpList_nil ?_
  refine th_n ?_
  refine if_f henv rfl (rfl) ?_
  refine wp_skip ?_
  refine th_n ?_
  refine wp_seq ?_
  refine region_seq ?_
  refine sv (v := .slice none 0 0) henv rfl (rn_assign henv rfl) ?_
  clear henv a; intro a henv
  refine wpList_nil ?_
  refine th_n ?_
  refine wp_seq ?_
  refine region_seq ?_
  refine sv (v := .int .i64 1) henv rfl (rn_assign henv rfl) ?_
  clear henv a; intro a henv
  refine wpList_nil ?_
  refine th_n ?_
  refine wp_block ?_
  replace hst := (hst.addRowS notU 39 2).nilEs FM
  replace hst : St w0 _ [rowS notU 39 2 none 0 0 (fl fM ([]))] [pfEs FM ([])] := hst
  refine wp_loop_ghost (fun mz a w => ∃ p : Nat, ∃ j : Nat, ∃ zs : List Int, ∃ B : Option Addr, ∃ c : Nat, ∃ os : List NE, s.length + 1 - p = mz ∧ Env 82 a [(0, .string ⟨s.toArray⟩), (4, .slice B j c), (5, .int .i64 (p : Nat))] ∧ St w0 w [rowS notU 39 2 B j c (fl fM os)] [pfEs FM os] ∧ 1 ≤ p ∧ p ≤ s.length ∧ j < p ∧ zs.length = j ∧ os.map zz = zs ∧ ∀ r, Go s p zs r → Go s 1 [] r) _ ⟨1, 0, [], none, 0, [], rfl, henv.sub ⟨rfl, rfl, rfl, trivial⟩, hst.pick [0] [0] (by decide), (Nat.le_refl _), hlen, Nat.one_pos, rfl, rfl, (fun _ h => h)⟩ ?_
  clear henv hst a
  rintro mz a w51 ⟨p, j, zs, B, c, os, rfl, henv, hst, hp0, hp1, hjp, hzl, ho, hgo⟩
  refine wp_block ?_
  refine wp_seq ?_
  refine region_seq ?_
  revert a
  refine mA rfl rfl ?_
  refine aA rfl rfl ?_
  intro a henv
  refine wpList_nil ?_
  refine th_n ?_
  refine wp_seq ?_
  refine cut (fun a w => ∃ q : Nat, Env 82 a [(0, .string ⟨s.toArray⟩), (4, .slice B j c), (5, .int .i64 (p : Nat)), (6, .int .i64 (q : Nat))] ∧ St w0 w [rowS notU 39 2 B j c (fl fM os)] [pfEs FM os] ∧ Seg s p q) ?_ ?_
  · refine wp_block ?_
    refine wp_loop_ghost (fun mz a w => ∃ q : Nat, s.length - q = mz ∧ Env 82 a [(0, .string ⟨s.toArray⟩), (4, .slice B j c), (5, .int .i64 (p : Nat)), (6, .int .i64 (q : Nat))] ∧ St w0 w [rowS notU 39 2 B j c (fl fM os)] [pfEs FM os] ∧ p ≤ q ∧ q ≤ s.length ∧ ∀ i, p ≤ i → i < q → ¬ stp (s.getD i 0)) _ ⟨p, rfl, henv.sub ⟨rfl, rfl, rfl, rfl, trivial⟩, hst.pick [0] [0] (by decide), (Nat.le_refl _), hp1, (fun i h1 h2 => by omega)⟩ ?_
    clear henv hst a
    rintro mz a w52 ⟨q, rfl, henv, hst, hq1, hq2, hq3⟩
    rcases seg_cases s q hq2 with hv | ⟨hv1, hv2⟩ | ⟨hv1, hv2⟩ | ⟨hv1, hv2, hv3⟩
    · refine wp_seq ?_
      refine wp_seq ?_
      refine region_seq ?_
      revert a
      refine mA rfl rfl ?_
      refine mA rfl rfl ?_
      refine sA (v := .int .i64 (s.length : Nat)) rfl (fun _ henv => rn_lenS henv Tryd.underlying9 rfl) ?_
      refine sA (v := .bool (decide (((q : Nat) : Int) < ((s.length : Nat) : Int)))) rfl (fun _ henv => rn_bin henv rfl rfl rfl) ?_
      intro a henv
      rw [show (decide (((q : Nat) : Int) < ((s.length : Nat) : Int))) = false from decide_eq_false (by omega)] at henv
      revert a
      refine mA rfl rfl ?_
      refine kA rfl rfl rfl rfl rfl ?_
      refine kA rfl rfl rfl rfl rfl ?_
      refine kA rfl rfl rfl rfl rfl ?_
      refine kA rfl rfl rfl rfl rfl ?_
      refine sA (v := .bool false) rfl (fun _ henv => rn_pick henv rfl rfl) ?_
      refine mA rfl rfl ?_
      refine kA rfl rfl rfl rfl rfl ?_
      refine kA rfl rfl rfl rfl rfl ?_
      refine kA rfl rfl rfl rfl rfl ?_
      refine kA rfl rfl rfl rfl rfl ?_
      refine sA (v := .bool false) rfl (fun _ henv => rn_pick henv rfl rfl) ?_
      intro a henv
      refine wpList_nil ?_
      refine th_n ?_
      refine if_f henv rfl (rfl) ?_
      refine wp_exit ?_
      refine th_x (th_x (bl_x (th_n ?_)))
      exact ⟨q, henv.sub ⟨rfl, rfl, rfl, rfl, trivial⟩, hst.pick [0] [0] (by decide), ⟨hq1, hq2, hq3, fun h => absurd h (by omega)⟩⟩
    · refine wp_seq ?_
      refine wp_seq ?_
      refine region_seq ?_
      revert a
      refine mA rfl rfl ?_
      refine mA rfl rfl ?_
      refine sA (v := .int .i64 (s.length : Nat)) rfl (fun _ henv => rn_lenS henv Tryd.underlying9 rfl) ?_
      refine sA (v := .bool (decide (((q : Nat) : Int) < ((s.length : Nat) : Int)))) rfl (fun _ henv => rn_bin henv rfl rfl rfl) ?_
      intro a henv
      rw [show (decide (((q : Nat) : Int) < ((s.length : Nat) : Int))) = true from decide_eq_true (by omega)] at henv
      revert a
      refine mA rfl rfl ?_
      refine gA (v := .string ⟨s.toArray⟩) rfl rfl rfl rfl (fun _ henv => rn_move henv rfl) ?_
      refine gA (v := .int .i64 (q : Nat)) rfl rfl rfl rfl (fun _ henv => rn_move henv rfl) ?_
      refine gA (v := .int .u8 ((s.getD q 0).toNat : Nat)) rfl rfl rfl rfl (fun _ henv => rn_idxS (i := q) henv Tryd.underlying9 rfl rfl (by omega)) ?_
      refine gA (v := .bool ((((s.getD q 0).toNat : Nat) : Int) != (32 : Int))) rfl rfl rfl rfl (fun _ henv => rn_bin henv rfl rfl rfl) ?_
      intro a henv
      rw [show ((((s.getD q 0).toNat : Nat) : Int) != (32 : Int)) = false from bne_false (by omega)] at henv
      revert a
      refine sA (v := .bool false) rfl (fun _ henv => rn_pick henv rfl rfl) ?_
      refine mA rfl rfl ?_
      refine kA rfl rfl rfl rfl rfl ?_
      refine kA rfl rfl rfl rfl rfl ?_
      refine kA rfl rfl rfl rfl rfl ?_
      refine kA rfl rfl rfl rfl rfl ?_
      refine sA (v := .bool false) rfl (fun _ henv => rn_pick henv rfl rfl) ?_
      intro a henv
      refine wpList_nil ?_
      refine th_n ?_
      refine if_f henv rfl (rfl) ?_
      refine wp_exit ?_
      refine th_x (th_x (bl_x (th_n ?_)))
      exact ⟨q, henv.sub ⟨rfl, rfl, rfl, rfl, trivial⟩, hst.pick [0] [0] (by decide), ⟨hq1, hq2, hq3, fun _ => .inl hv2⟩⟩
    · refine wp_seq ?_
      refine wp_seq ?_
      refine region_seq ?_
      revert a
      refine mA rfl rfl ?_
      refine mA rfl rfl ?_
      refine sA (v := .int .i64 (s.length : Nat)) rfl (fun _ henv => rn_lenS henv Tryd.underlying9 rfl) ?_
      refine sA (v := .bool (decide (((q : Nat) : Int) < ((s.length : Nat) : Int)))) rfl (fun _ henv => rn_bin henv rfl rfl rfl) ?_
      intro a henv
      rw [show (decide (((q : Nat) : Int) < ((s.length : Nat) : Int))) = true from decide_eq_true (by omega)] at henv
      revert a
      refine mA rfl rfl ?_
      refine gA (v := .string ⟨s.toArray⟩) rfl rfl rfl rfl (fun _ henv => rn_move henv rfl) ?_
      refine gA (v := .int .i64 (q : Nat)) rfl rfl rfl rfl (fun _ henv => rn_move henv rfl) ?_
      refine gA (v := .int .u8 ((s.getD q 0).toNat : Nat)) rfl rfl rfl rfl (fun _ henv => rn_idxS (i := q) henv Tryd.underlying9 rfl rfl (by omega)) ?_
      refine gA (v := .bool ((((s.getD q 0).toNat : Nat) : Int) != (32 : Int))) rfl rfl rfl rfl (fun _ henv => rn_bin henv rfl rfl rfl) ?_
      intro a henv
      rw [show ((((s.getD q 0).toNat : Nat) : Int) != (32 : Int)) = true from bne_iff_ne.2 (by omega)] at henv
      revert a
      refine sA (v := .bool true) rfl (fun _ henv => rn_pick henv rfl rfl) ?_
      refine mA rfl rfl ?_
      refine gA (v := .string ⟨s.toArray⟩) rfl rfl rfl rfl (fun _ henv => rn_move henv rfl) ?_
      refine gA (v := .int .i64 (q : Nat)) rfl rfl rfl rfl (fun _ henv => rn_move henv rfl) ?_
      refine gA (v := .int .u8 ((s.getD q 0).toNat : Nat)) rfl rfl rfl rfl (fun _ henv => rn_idxS (i := q) henv Tryd.underlying9 rfl rfl (by omega)) ?_
      refine gA (v := .bool ((((s.getD q 0).toNat : Nat) : Int) != (93 : Int))) rfl rfl rfl rfl (fun _ henv => rn_bin henv rfl rfl rfl) ?_
      intro a henv
      rw [show ((((s.getD q 0).toNat : Nat) : Int) != (93 : Int)) = false from bne_false (by omega)] at henv
      refine sv (v := .bool false) henv rfl (rn_pick henv rfl rfl) ?_
      clear henv a; intro a henv
      refine wpList_nil ?_
      refine th_n ?_
      refine if_f henv rfl (rfl) ?_
      refine wp_exit ?_
      refine th_x (th_x (bl_x (th_n ?_)))
      exact ⟨q, henv.sub ⟨rfl, rfl, rfl, rfl, trivial⟩, hst.pick [0] [0] (by decide), ⟨hq1, hq2, hq3, fun _ => .inr hv2⟩⟩
    · refine wp_seq ?_
      refine wp_seq ?_
      refine region_seq ?_
      revert a
      refine mA rfl rfl ?_
      refine mA rfl rfl ?_
      refine sA (v := .int .i64 (s.length : Nat)) rfl (fun _ henv => rn_lenS henv Tryd.underlying9 rfl) ?_
      refine sA (v := .bool (decide (((q : Nat) : Int) < ((s.length : Nat) : Int)))) rfl (fun _ henv => rn_bin henv rfl rfl rfl) ?_
      intro a henv
      rw [show (decide (((q : Nat) : Int) < ((s.length : Nat) : Int))) = true from decide_eq_true (by omega)] at henv
      revert a
      refine mA rfl rfl ?_
      refine gA (v := .string ⟨s.toArray⟩) rfl rfl rfl rfl (fun _ henv => rn_move henv rfl) ?_
      refine gA (v := .int .i64 (q : Nat)) rfl rfl rfl rfl (fun _ henv => rn_move henv rfl) ?_
      refine gA (v := .int .u8 ((s.getD q 0).toNat : Nat)) rfl rfl rfl rfl (fun _ henv => rn_idxS (i := q) henv Tryd.underlying9 rfl rfl (by omega)) ?_
      refine gA (v := .bool ((((s.getD q 0).toNat : Nat) : Int) != (32 : Int))) rfl rfl rfl rfl (fun _ henv => rn_bin henv rfl rfl rfl) ?_
      intro a henv
      rw [show ((((s.getD q 0).toNat : Nat) : Int) != (32 : Int)) = true from bne_iff_ne.2 (by omega)] at henv
      revert a
      refine sA (v := .bool true) rfl (fun _ henv => rn_pick henv rfl rfl) ?_
      refine mA rfl rfl ?_
      refine gA (v := .string ⟨s.toArray⟩) rfl rfl rfl rfl (fun _ henv => rn_move henv rfl) ?_
      refine gA (v := .int .i64 (q : Nat)) rfl rfl rfl rfl (fun _ henv => rn_move henv rfl) ?_
      refine gA (v := .int .u8 ((s.getD q 0).toNat : Nat)) rfl rfl rfl rfl (fun _ henv => rn_idxS (i := q) henv Tryd.underlying9 rfl rfl (by omega)) ?_
      refine gA (v := .bool ((((s.getD q 0).toNat : Nat) : Int) != (93 : Int))) rfl rfl rfl rfl (fun _ henv => rn_bin henv rfl rfl rfl) ?_
      intro a henv
      rw [show ((((s.getD q 0).toNat : Nat) : Int) != (93 : Int)) = true from bne_iff_ne.2 (by omega)] at henv
      refine sv (v := .bool true) henv rfl (rn_pick henv rfl rfl) ?_
      clear henv a; intro a henv
      refine wpList_nil ?_
      refine th_n ?_
      refine if_t henv rfl (rfl) ?_
      refine wp_skip ?_
      refine th_n ?_
      refine wp_block ?_
      refine region_seq ?_
      revert a
      refine mA rfl rfl ?_
      refine sA (v := .int .i64 (q + 1 : Nat)) rfl (fun _ henv => rn_add henv rfl rfl (by rw [IntWalk.i64_in _ (by omega)]; omega)) ?_
      refine aA rfl rfl ?_
      intro a henv
      refine wpList_nil ?_
      refine bl_n ?_
      exact th_n ⟨_, (by omega), ⟨q + 1, rfl, henv.sub ⟨rfl, rfl, rfl, rfl, trivial⟩, hst.pick [0] [0] (by decide), (by omega), (by omega), (range_step (C := fun c => ¬ stp c) hq3 (fun hn => by unfold stp at hn; omega))⟩⟩
  clear henv hst a
  rintro a w53 ⟨q, henv, hst, hsen⟩
  have hs1 := hsen.1
  have hs2 := hsen.2.1
  have hlw : (cutw s p q).length ≤ 65536 := by rw [cutw_len hs1 hs2]; omega
  refine wp_seq ?_
  refine region_seq ?_
  revert a
  refine mA rfl rfl ?_
  refine mA rfl rfl ?_
  refine mA rfl rfl ?_
  refine sA (v := .string ⟨((s.drop p).take (q - p)).toArray⟩) rfl (fun _ henv => rn_cutS (n := p) (m := q) henv Tryd.underlying9 rfl rfl rfl (by omega) (by omega)) ?_
  intro a henv
  refine seq_step rfl (op_call henv rfl Tryd.call80 rfl (rread_w (t := cutw s p q) hlw) ?_)
  rintro e w57 ⟨z1, b1, _, rfl, ⟨A54, c55, rfl, hz56⟩, hw, hb⟩
  refine ⟨_, rfl, ?_⟩
  clear henv a; intro a henv
  replace hst := (hst.call hb).addR hz56 ⟨nou_rowS, trivial⟩
  clear hz56
  clear hb
  revert a
  refine mA rfl rfl ?_
  refine sA (v := .agg #[.bool (neg z1), .slice A54 (dl z1) c55]) rfl (fun _ henv => rn_extract henv rfl rfl) ?_
  refine sA (v := .int .i64 b1) rfl (fun _ henv => rn_extract henv rfl rfl) ?_
  intro a henv
  refine seq_step rfl (op_alloc (c := #[.bool (neg 0), .slice none (dl 0) 0]) henv hst rfl zero_anvil_anvilref02_Int rcells ?_)
  clear henv hst a; intro a w59 g58 henv hst
  refine seq_step rfl (op_store (k := 0) (c' := #[.bool (neg z1), .slice A54 (dl z1) c55]) henv hst (ty_anvil_anvilref02_Int.size) rfl rfl rfl rfl (by simp) rfl rfl ?_)
  clear henv hst a; intro a w60 henv hst
  refine sv (v := .int .i64 b1) henv rfl (rn_assign henv rfl) ?_
  clear henv a; intro a henv
  refine wpList_nil ?_
  refine th_n ?_
  refine wp_seq ?_
  refine wp_seq ?_
  refine region_seq ?_
  revert a
  refine mA rfl rfl ?_
  refine sA (v := .bool (decide (b1 ≥ (0 : Int)))) rfl (fun _ henv => rn_bin henv rfl rfl rfl) ?_
  intro a henv
  refine wpList_nil ?_
  refine th_n ?_
  refine if_split henv rfl (fun hc61 => ?_) (fun hc61 => ?_)
  · have hb1 := of_decide_eq_true hc61
    obtain ⟨b, rfl, hrb⟩ := wr_bad hw hb1
    have hbl := rb_le hrb
    rw [cutw_len hs1 hs2] at hbl
    refine wp_seq ?_
    refine region_seq ?_
    revert a
    refine mA rfl rfl ?_
    refine mA rfl rfl ?_
    refine sA (v := .int .i64 (p + b : Nat)) rfl (fun _ henv => rn_add henv rfl rfl (by rw [IntWalk.i64_in _ (by omega)]; omega)) ?_
    refine aA rfl rfl ?_
    refine aA rfl rfl ?_
    intro a henv
    refine wpList_nil ?_
    refine th_n ?_
    refine wp_ret ?_
    refine th_r (bl_r (th_r (bl_r ?_)))
    refine leave henv (res2 Tryd.results47 (RV.tmp henv rfl) (RV.tmp henv rfl)) ?_
    exact ⟨.inr ⟨_, (.go h0 hne h1 (hgo _ (.bad hsen hrb))), rfl⟩, hst.below⟩
  · have hb1 := of_decide_eq_false hc61
    have hrz := wr_ok hw hb1
    refine wp_skip ?_
    refine th_n ?_
    refine wp_seq ?_
    refine region_seq ?_
    revert a
    refine mA rfl rfl ?_
    refine sA (v := .agg #[.bool (neg z1), .slice A54 (dl z1) c55]) rfl (fun _ henv => rn_load0 henv ty_anvil_anvilref02_Int rfl (hst.oat (k := 0) rfl) rfl) ?_
    intro a henv
    refine seq_step rfl (op_buildSlice (z := 2) (pv := #[(0, .agg #[.bool (neg z1), .slice A54 (dl z1) c55])]) (c := #[.bool (neg z1), .slice A54 (dl z1) c55]) henv hst rfl Tryd.underlying76 (ty_anvil_anvilref02_Int.size) zero_anvil_anvilref02_Int (by decide) (by decide) rfl (by kernel_rfl) ?_)
    clear henv hst a; intro a w63 g62 henv hst
    refine seq_step rfl (op_appendS (k := 2) (j := 0) henv hst rfl Tryd.underlying76 inf_anvil_anvilref02_Int rfl rfl rfl rfl rfl rfl rfl rfl rfl rfl rfl (by unfold maxLen; omega) (by omega) ?_)
    clear henv hst a; intro a w66 g64 c65 henv hst
    rw [show fl fM os ++ (#[.bool (neg z1), .slice A54 (dl z1) c55] : Array Value).toList = fl fM (os ++ [(A54, c55, z1)]) from fl_snoc (f := fM) os (A54, c55, z1)] at hst
    replace hst := hst.snocEs (e := (A54, c55, z1)) (i := 1) (j := 0) rfl rfl
    refine sv (v := .slice (some ⟨g64, 0, none⟩) (j + 1) c65) henv rfl (rn_assign henv rfl) ?_
    clear henv a; intro a henv
    refine wpList_nil ?_
    refine th_n ?_
    refine wp_seq ?_
    refine wp_seq ?_
    refine region_seq ?_
    revert a
    refine mA rfl rfl ?_
    refine mA rfl rfl ?_
    refine sA (v := .int .i64 (s.length : Nat)) rfl (fun _ henv => rn_lenS henv Tryd.underlying9 rfl) ?_
    refine sA (v := .bool (((q : Nat) : Int) == ((s.length : Nat) : Int))) rfl (fun _ henv => rn_bin henv rfl rfl rfl) ?_
    intro a henv
    refine wpList_nil ?_
    refine th_n ?_
    refine if_split henv rfl (fun hc67 => ?_) (fun hc67 => ?_)
    · have hqe := eq_of_beq hc67
      replace hqe : q = s.length := by omega
      refine wp_seq ?_
      refine region_seq ?_
      revert a
      refine mA rfl rfl ?_
      refine aA rfl rfl ?_
      refine aA rfl rfl ?_
      intro a henv
      refine wpList_nil ?_
      refine th_n ?_
      refine wp_ret ?_
      refine th_r (bl_r (th_r (bl_r ?_)))
      refine leave henv (res2 Tryd.results47 (RV.tmp henv rfl) (RV.tmp henv rfl)) ?_
      exact ⟨.inr ⟨_, (.go h0 hne h1 (hgo _ (seg_fin hsen hrz hqe))), rfl⟩, hst.below⟩
    · have hqe := ne_of_beq_false hc67
      have hql : q < s.length := by omega
      refine wp_skip ?_
      refine th_n ?_
      refine wp_seq ?_
      refine region_seq ?_
      revert a
      refine mA rfl rfl ?_
      refine sA (v := .int .i64 (q + 1 : Nat)) rfl (fun _ henv => rn_add henv rfl rfl (by rw [IntWalk.i64_in _ (by omega)]; omega)) ?_
      refine aA rfl rfl ?_
      intro a henv
      refine wpList_nil ?_
      refine th_n ?_
      refine wp_seq ?_
      refine region_seq ?_
      revert a
      refine mA rfl rfl ?_
      refine mA rfl rfl ?_
      refine sA (v := .int .u8 ((s.getD q 0).toNat : Nat)) rfl (fun _ henv => rn_idxS (i := q) henv Tryd.underlying9 rfl rfl (by omega)) ?_
      refine sA (v := .bool ((((s.getD q 0).toNat : Nat) : Int) == (93 : Int))) rfl (fun _ henv => rn_bin henv rfl rfl rfl) ?_
      intro a henv
      refine wpList_nil ?_
      refine th_n ?_
      refine if_split henv rfl (fun hc68 => ?_) (fun hc68 => ?_)
      · have hdd := eq_of_beq hc68
        replace hdd : (s.getD q 0).toNat = 93 := by omega
        refine wp_seq ?_
        refine wp_seq ?_
        refine region_seq ?_
        revert a
        refine mA rfl rfl ?_
        refine mA rfl rfl ?_
        refine sA (v := .int .i64 (s.length : Nat)) rfl (fun _ henv => rn_lenS henv Tryd.underlying9 rfl) ?_
        refine sA (v := .bool (decide (((q + 1 : Nat) : Int) < ((s.length : Nat) : Int)))) rfl (fun _ henv => rn_bin henv rfl rfl rfl) ?_
        intro a henv
        refine wpList_nil ?_
        refine th_n ?_
        refine if_split henv rfl (fun hc69 => ?_) (fun hc69 => ?_)
        · have hlast := of_decide_eq_true hc69
          refine wp_seq ?_
          refine region_seq ?_
          revert a
          refine mA rfl rfl ?_
          refine aA rfl rfl ?_
          refine aA rfl rfl ?_
          intro a henv
          refine wpList_nil ?_
          refine th_n ?_
          refine wp_ret ?_
          refine th_r (bl_r (th_r (bl_r ?_)))
          refine leave henv (res2 Tryd.results47 (RV.tmp henv rfl) (RV.tmp henv rfl)) ?_
          exact ⟨.inr ⟨_, (.go h0 hne h1 (hgo _ (.more hsen hrz hdd (by omega)))), rfl⟩, hst.below⟩
        · have hlast := of_decide_eq_false hc69
          refine wp_skip ?_
          refine th_n ?_
          refine wp_seq ?_
          refine region_seq ?_
          revert a
          refine mA rfl rfl ?_
          refine aA rfl rfl ?_
          refine aA rfl rfl ?_
          intro a henv
          refine wpList_nil ?_
          refine th_n ?_
          refine wp_ret ?_
          refine bl_r (th_r (bl_r ?_))
          refine leave henv (res2 Tryd.results47 (RV.tmp henv rfl) (RV.tmp henv rfl)) ?_
          exact ⟨.inl ⟨zs ++ [z1], _, _, (.go h0 hne h1 (hgo _ (.done hsen hrz hdd (by omega)))), (by rw [List.length_append, hzl]; rfl), rfl, ⟨_, _, _, rfl, hst.newRow (k := 2) (j := 0) rfl rfl, (by have hol := congrArg List.length ho; rw [List.length_map] at hol; rw [List.length_append, hol, hzl]; rfl), (by rw [List.map_append, ho]; rfl)⟩⟩, hst.below⟩
      · have hdd := ne_of_beq_false hc68
        have hcc : (s.getD q 0).toNat = 32 := by have hn := hsen.2.2.2 hql; unfold stp at hn; omega
        refine wp_skip ?_
        refine bl_n ?_
        exact th_n ⟨_, (by omega), ⟨(q + 1), (j + 1), (zs ++ [z1]), (some ⟨g64, 0, none⟩), c65, (os ++ [(A54, c55, z1)]), rfl, henv.sub ⟨rfl, rfl, rfl, trivial⟩, hst.pick [2] [0] (by decide), (by omega), (by omega), (by omega), (by rw [List.length_append, hzl]; rfl), (by rw [List.map_append, ho]; rfl), (fun r hr => hgo r (.next hsen hrz hql hcc hr))⟩⟩
set_option maxRecDepth 100000 in
set_option maxHeartbeats 4000000 in
theorem ref_read_other {s : List UInt8} {w0 : World} (hl : s.length ≤ 65536) (h0 : (s.getD 0 0).toNat = 91) (hne : s ≠ []) (hx : 1 < s.length) (hx2 : (s.getD 1 0).toNat ≠ 93) (h1 : ¬ (1 < s.length ∧ (s.getD 1 0).toNat = 93)) :
    Calls Tryd.prog 47 #[.string ⟨s.toArray⟩] w0 fun e w' => ((∃ zs n v, Rd0 s (.inl zs) ∧ zs.length = n ∧ e = .returned (.tuple #[v, .int .i64 (-1)]) ∧ MRow w0.heap.size w' v n zs) ∨ ∃ b : Nat, Rd0 s (.inr b) ∧ e = .returned (.tuple #[.slice none 0 0, .int .i64 (b : Nat)])) ∧ Below w0.heap.size w0 w' := by
  have hlen : 1 ≤ s.length := List.length_pos_iff.2 hne
  refine enter Tryd.func47 rfl Tryd.ntmps47 rfl ?_
  intro a henv hst
  refine wp_seq ?_
  refine region_seq ?_
  revert a
  refine aA rfl rfl ?_
  refine aA rfl rfl ?_
  intro a henv
  refine wpList_nil ?_
  refine th_n ?_
  refine wp_seq ?_
  refine wp_seq ?_
  refine region_seq ?_
  revert a
  refine mA rfl rfl ?_
  refine sA (v := .int .i64 (s.length : Nat)) rfl (fun _ henv => rn_lenS henv Tryd.underlying9 rfl) ?_
  refine sA (v := .bool (((s.length : Nat) : Int) == (0 : Int))) rfl (fun _ henv => rn_bin henv rfl rfl rfl) ?_
  intro a henv
  rw [show (((s.length : Nat) : Int) == (0 : Int)) = false from beq_eq_false_iff_ne.2 (by omega)] at henv
  revert a
  refine mA rfl rfl ?_
  refine gA (v := .string ⟨s.toArray⟩) rfl rfl rfl rfl (fun _ henv => rn_move henv rfl) ?_
  refine gA (v := .int .u8 ((s.getD 0 0).toNat : Nat)) rfl rfl rfl rfl (fun _ henv => rn_idxS (i := 0) henv Tryd.underlying9 rfl rfl (by omega)) ?_
  refine gA (v := .bool ((((s.getD 0 0).toNat : Nat) : Int) != (91 : Int))) rfl rfl rfl rfl (fun _ henv => rn_bin henv rfl rfl rfl) ?_
  intro a henv
  rw [show ((((s.getD 0 0).toNat : Nat) : Int) != (91 : Int)) = false from bne_false (by omega)] at henv
  refine sv (v := .bool false) henv rfl (rn_pick henv rfl rfl) ?_
  clear henv a; intro a henv
  refine wpList_nil ?_
  refine th_n ?_
  refine if_f henv rfl (rfl) ?_
  refine wp_skip ?_
  refine th_n ?_
  refine wp_seq ?_
  refine wp_seq ?_
  refine region_seq ?_
  revert a
  refine mA rfl rfl ?_
  refine sA (v := .int .i64 (s.length : Nat)) rfl (fun _ henv => rn_lenS henv Tryd.underlying9 rfl) ?_
  refine sA (v := .bool (decide (((s.length : Nat) : Int) > (1 : Int)))) rfl (fun _ henv => rn_bin henv rfl rfl rfl) ?_
  intro a henv
  rw [show (decide (((s.length : Nat) : Int) > (1 : Int))) = true from decide_eq_true (by omega)] at henv
  revert a
  refine mA rfl rfl ?_
  refine gA (v := .string ⟨s.toArray⟩) rfl rfl rfl rfl (fun _ henv => rn_move henv rfl) ?_
  refine gA (v := .int .u8 ((s.getD 1 0).toNat : Nat)) rfl rfl rfl rfl (fun _ henv => rn_idxS (i := 1) henv Tryd.underlying9 rfl rfl (by omega)) ?_
  refine gA (v := .bool ((((s.getD 1 0).toNat : Nat) : Int) == (93 : Int))) rfl rfl rfl rfl (fun _ henv => rn_bin henv rfl rfl rfl) ?_
  intro a henv
  rw [show ((((s.getD 1 0).toNat : Nat) : Int) == (93 : Int)) = false from beq_eq_false_iff_ne.2 (by omega)] at henv
  refine sv (v := .bool false) henv rfl (rn_pick henv rfl rfl) ?_
  clear henv a; intro a henv
  refine wpList_nil ?_
  refine th_n ?_
  refine if_f henv rfl (rfl) ?_
  refine wp_skip ?_
  refine th_n ?_
  refine wp_seq ?_
  refine region_seq ?_
  refine sv (v := .slice none 0 0) henv rfl (rn_assign henv rfl) ?_
  clear henv a; intro a henv
  refine wpList_nil ?_
  refine th_n ?_
  refine wp_seq ?_
  refine region_seq ?_
  refine sv (v := .int .i64 1) henv rfl (rn_assign henv rfl) ?_
  clear henv a; intro a henv
  refine wpList_nil ?_
  refine th_n ?_
  refine wp_block ?_
  replace hst := (hst.addRowS notU 39 2).nilEs FM
  replace hst : St w0 _ [rowS notU 39 2 none 0 0 (fl fM ([]))] [pfEs FM ([])] := hst
  refine wp_loop_ghost (fun mz a w => ∃ p : Nat, ∃ j : Nat, ∃ zs : List Int, ∃ B : Option Addr, ∃ c : Nat, ∃ os : List NE, s.length + 1 - p = mz ∧ Env 82 a [(0, .string ⟨s.toArray⟩), (4, .slice B j c), (5, .int .i64 (p : Nat))] ∧ St w0 w [rowS notU 39 2 B j c (fl fM os)] [pfEs FM os] ∧ 1 ≤ p ∧ p ≤ s.length ∧ j < p ∧ zs.length = j ∧ os.map zz = zs ∧ ∀ r, Go s p zs r → Go s 1 [] r) _ ⟨1, 0, [], none, 0, [], rfl, henv.sub ⟨rfl, rfl, rfl, trivial⟩, hst.pick [0] [0] (by decide), (Nat.le_refl _), hlen, Nat.one_pos, rfl, rfl, (fun _ h => h)⟩ ?_
  clear henv hst a
  rintro mz a w51 ⟨p, j, zs, B, c, os, rfl, henv, hst, hp0, hp1, hjp, hzl, ho, hgo⟩
  refine wp_block ?_
  refine wp_seq ?_
  refine region_seq ?_
  revert a
  refine mA rfl rfl ?_
  refine aA rfl rfl ?_
  intro a henv
  refine wpList_nil ?_
  refine th_n ?_
  refine wp_seq ?_
  refine cut (fun a w => ∃ q : Nat, Env 82 a [(0, .string ⟨s.toArray⟩), (4, .slice B j c), (5, .int .i64 (p : Nat)), (6, .int .i64 (q : Nat))] ∧ St w0 w [rowS notU 39 2 B j c (fl fM os)] [pfEs FM os] ∧ Seg s p q) ?_ ?_
  · refine wp_block ?_
    refine wp_loop_ghost (fun mz a w => ∃ q : Nat, s.length - q = mz ∧ Env 82 a [(0, .string ⟨s.toArray⟩), (4, .slice B j c), (5, .int .i64 (p : Nat)), (6, .int .i64 (q : Nat))] ∧ St w0 w [rowS notU 39 2 B j c (fl fM os)] [pfEs FM os] ∧ p ≤ q ∧ q ≤ s.length ∧ ∀ i, p ≤ i → i < q → ¬ stp (s.getD i 0)) _ ⟨p, rfl, henv.sub ⟨rfl, rfl, rfl, rfl, trivial⟩, hst.pick [0] [0] (by decide), (Nat.le_refl _), hp1, (fun i h1 h2 => by omega)⟩ ?_
    clear henv hst a
    rintro mz a w52 ⟨q, rfl, henv, hst, hq1, hq2, hq3⟩
    rcases seg_cases s q hq2 with hv | ⟨hv1, hv2⟩ | ⟨hv1, hv2⟩ | ⟨hv1, hv2, hv3⟩
    · refine wp_seq ?_
      refine wp_seq ?_
      refine region_seq ?_
      revert a
      refine mA rfl rfl ?_
      refine mA rfl rfl ?_
      refine sA (v := .int .i64 (s.length : Nat)) rfl (fun _ henv => rn_lenS henv Tryd.underlying9 rfl) ?_
      refine sA (v := .bool (decide (((q : Nat) : Int) < ((s.length : Nat) : Int)))) rfl (fun _ henv => rn_bin henv rfl rfl rfl) ?_
      intro a henv
      rw [show (decide (((q : Nat) : Int) < ((s.length : Nat) : Int))) = false from decide_eq_false (by omega)] at henv
      revert a
      refine mA rfl rfl ?_
      refine kA rfl rfl rfl rfl rfl ?_
      refine kA rfl rfl rfl rfl rfl ?_
      refine kA rfl rfl rfl rfl rfl ?_
      refine kA rfl rfl rfl rfl rfl ?_
      refine sA (v := .bool false) rfl (fun _ henv => rn_pick henv rfl rfl) ?_
      refine mA rfl rfl ?_
      refine kA rfl rfl rfl rfl rfl ?_
      refine kA rfl rfl rfl rfl rfl ?_
      refine kA rfl rfl rfl rfl rfl ?_
      refine kA rfl rfl rfl rfl rfl ?_
      refine sA (v := .bool false) rfl (fun _ henv => rn_pick henv rfl rfl) ?_
      intro a henv
      refine wpList_nil ?_
      refine th_n ?_
      refine if_f henv rfl (rfl) ?_
      refine wp_exit ?_
      refine th_x (th_x (bl_x (th_n ?_)))
      exact ⟨q, henv.sub ⟨rfl, rfl, rfl, rfl, trivial⟩, hst.pick [0] [0] (by decide), ⟨hq1, hq2, hq3, fun h => absurd h (by omega)⟩⟩
    · refine wp_seq ?_
      refine wp_seq ?_
      refine region_seq ?_
      revert a
      refine mA rfl rfl ?_
      refine mA rfl rfl ?_
      refine sA (v := .int .i64 (s.length : Nat)) rfl (fun _ henv => rn_lenS henv Tryd.underlying9 rfl) ?_
      refine sA (v := .bool (decide (((q : Nat) : Int) < ((s.length : Nat) : Int)))) rfl (fun _ henv => rn_bin henv rfl rfl rfl) ?_
      intro a henv
      rw [show (decide (((q : Nat) : Int) < ((s.length : Nat) : Int))) = true from decide_eq_true (by omega)] at henv
      revert a
      refine mA rfl rfl ?_
      refine gA (v := .string ⟨s.toArray⟩) rfl rfl rfl rfl (fun _ henv => rn_move henv rfl) ?_
      refine gA (v := .int .i64 (q : Nat)) rfl rfl rfl rfl (fun _ henv => rn_move henv rfl) ?_
      refine gA (v := .int .u8 ((s.getD q 0).toNat : Nat)) rfl rfl rfl rfl (fun _ henv => rn_idxS (i := q) henv Tryd.underlying9 rfl rfl (by omega)) ?_
      refine gA (v := .bool ((((s.getD q 0).toNat : Nat) : Int) != (32 : Int))) rfl rfl rfl rfl (fun _ henv => rn_bin henv rfl rfl rfl) ?_
      intro a henv
      rw [show ((((s.getD q 0).toNat : Nat) : Int) != (32 : Int)) = false from bne_false (by omega)] at henv
      revert a
      refine sA (v := .bool false) rfl (fun _ henv => rn_pick henv rfl rfl) ?_
      refine mA rfl rfl ?_
      refine kA rfl rfl rfl rfl rfl ?_
      refine kA rfl rfl rfl rfl rfl ?_
      refine kA rfl rfl rfl rfl rfl ?_
      refine kA rfl rfl rfl rfl rfl ?_
      refine sA (v := .bool false) rfl (fun _ henv => rn_pick henv rfl rfl) ?_
      intro a henv
      refine wpList_nil ?_
      refine th_n ?_
      refine if_f henv rfl (rfl) ?_
      refine wp_exit ?_
      refine th_x (th_x (bl_x (th_n ?_)))
      exact ⟨q, henv.sub ⟨rfl, rfl, rfl, rfl, trivial⟩, hst.pick [0] [0] (by decide), ⟨hq1, hq2, hq3, fun _ => .inl hv2⟩⟩
    · refine wp_seq ?_
      refine wp_seq ?_
      refine region_seq ?_
      revert a
      refine mA rfl rfl ?_
      refine mA rfl rfl ?_
      refine sA (v := .int .i64 (s.length : Nat)) rfl (fun _ henv => rn_lenS henv Tryd.underlying9 rfl) ?_
      refine sA (v := .bool (decide (((q : Nat) : Int) < ((s.length : Nat) : Int)))) rfl (fun _ henv => rn_bin henv rfl rfl rfl) ?_
      intro a henv
      rw [show (decide (((q : Nat) : Int) < ((s.length : Nat) : Int))) = true from decide_eq_true (by omega)] at henv
      revert a
      refine mA rfl rfl ?_
      refine gA (v := .string ⟨s.toArray⟩) rfl rfl rfl rfl (fun _ henv => rn_move henv rfl) ?_
      refine gA (v := .int .i64 (q : Nat)) rfl rfl rfl rfl (fun _ henv => rn_move henv rfl) ?_
      refine gA (v := .int .u8 ((s.getD q 0).toNat : Nat)) rfl rfl rfl rfl (fun _ henv => rn_idxS (i := q) henv Tryd.underlying9 rfl rfl (by omega)) ?_
      refine gA (v := .bool ((((s.getD q 0).toNat : Nat) : Int) != (32 : Int))) rfl rfl rfl rfl (fun _ henv => rn_bin henv rfl rfl rfl) ?_
      intro a henv
      rw [show ((((s.getD q 0).toNat : Nat) : Int) != (32 : Int)) = true from bne_iff_ne.2 (by omega)] at henv
      revert a
      refine sA (v := .bool true) rfl (fun _ henv => rn_pick henv rfl rfl) ?_
      refine mA rfl rfl ?_
      refine gA (v := .string ⟨s.toArray⟩) rfl rfl rfl rfl (fun _ henv => rn_move henv rfl) ?_
      refine gA (v := .int .i64 (q : Nat)) rfl rfl rfl rfl (fun _ henv => rn_move henv rfl) ?_
      refine gA (v := .int .u8 ((s.getD q 0).toNat : Nat)) rfl rfl rfl rfl (fun _ henv => rn_idxS (i := q) henv Tryd.underlying9 rfl rfl (by omega)) ?_
      refine gA (v := .bool ((((s.getD q 0).toNat : Nat) : Int) != (93 : Int))) rfl rfl rfl rfl (fun _ henv => rn_bin henv rfl rfl rfl) ?_
      intro a henv
      rw [show ((((s.getD q 0).toNat : Nat) : Int) != (93 : Int)) = false from bne_false (by omega)] at henv
      refine sv (v := .bool false) henv rfl (rn_pick henv rfl rfl) ?_
      clear henv a; intro a henv
      refine wpList_nil ?_
      refine th_n ?_
      refine if_f henv rfl (rfl) ?_
      refine wp_exit ?_
      refine th_x (th_x (bl_x (th_n ?_)))
      exact ⟨q, henv.sub ⟨rfl, rfl, rfl, rfl, trivial⟩, hst.pick [0] [0] (by decide), ⟨hq1, hq2, hq3, fun _ => .inr hv2⟩⟩
    · refine wp_seq ?_
      refine wp_seq ?_
      refine region_seq ?_
      revert a
      refine mA rfl rfl ?_
      refine mA rfl rfl ?_
      refine sA (v := .int .i64 (s.length : Nat)) rfl (fun _ henv => rn_lenS henv Tryd.underlying9 rfl) ?_
      refine sA (v := .bool (decide (((q : Nat) : Int) < ((s.length : Nat) : Int)))) rfl (fun _ henv => rn_bin henv rfl rfl rfl) ?_
      intro a henv
      rw [show (decide (((q : Nat) : Int) < ((s.length : Nat) : Int))) = true from decide_eq_true (by omega)] at henv
      revert a
      refine mA rfl rfl ?_
      refine gA (v := .string ⟨s.toArray⟩) rfl rfl rfl rfl (fun _ henv => rn_move henv rfl) ?_
      refine gA (v := .int .i64 (q : Nat)) rfl rfl rfl rfl (fun _ henv => rn_move henv rfl) ?_
      refine gA (v := .int .u8 ((s.getD q 0).toNat : Nat)) rfl rfl rfl rfl (fun _ henv => rn_idxS (i := q) henv Tryd.underlying9 rfl rfl (by omega)) ?_
      refine gA (v := .bool ((((s.getD q 0).toNat : Nat) : Int) != (32 : Int))) rfl rfl rfl rfl (fun _ henv => rn_bin henv rfl rfl rfl) ?_
      intro a henv
      rw [show ((((s.getD q 0).toNat : Nat) : Int) != (32 : Int)) = true from bne_iff_ne.2 (by omega)] at henv
      revert a
      refine sA (v := .bool true) rfl (fun _ henv => rn_pick henv rfl rfl) ?_
      refine mA rfl rfl ?_
      refine gA (v := .string ⟨s.toArray⟩) rfl rfl rfl rfl (fun _ henv => rn_move henv rfl) ?_
      refine gA (v := .int .i64 (q : Nat)) rfl rfl rfl rfl (fun _ henv => rn_move henv rfl) ?_
      refine gA (v := .int .u8 ((s.getD q 0).toNat : Nat)) rfl rfl rfl rfl (fun _ henv => rn_idxS (i := q) henv Tryd.underlying9 rfl rfl (by omega)) ?_
      refine gA (v := .bool ((((s.getD q 0).toNat : Nat) : Int) != (93 : Int))) rfl rfl rfl rfl (fun _ henv => rn_bin henv rfl rfl rfl) ?_
      intro a henv
      rw [show ((((s.getD q 0).toNat : Nat) : Int) != (93 : Int)) = true from bne_iff_ne.2 (by omega)] at henv
      refine sv (v := .bool true) henv rfl (rn_pick henv rfl rfl) ?_
      clear henv a; intro a henv
      refine wpList_nil ?_
      refine th_n ?_
      refine if_t henv rfl (rfl) ?_
      refine wp_skip ?_
      refine th_n ?_
      refine wp_block ?_
      refine region_seq ?_
      revert a
      refine mA rfl rfl ?_
      refine sA (v := .int .i64 (q + 1 : Nat)) rfl (fun _ henv => rn_add henv rfl rfl (by rw [IntWalk.i64_in _ (by omega)]; omega)) ?_
      refine aA rfl rfl ?_
      intro a henv
      refine wpList_nil ?_
      refine bl_n ?_
      exact th_n ⟨_, (by omega), ⟨q + 1, rfl, henv.sub ⟨rfl, rfl, rfl, rfl, trivial⟩, hst.pick [0] [0] (by decide), (by omega), (by omega), (range_step (C := fun c => ¬ stp c) hq3 (fun hn => by unfold stp at hn; omega))⟩⟩
  clear henv hst a
  rintro a w53 ⟨q, henv, hst, hsen⟩
  have hs1 := hsen.1
  have hs2 := hsen.2.1
  have hlw : (cutw s p q).length ≤ 65536 := by rw [cutw_len hs1 hs2]; omega
  refine wp_seq ?_
  refine region_seq ?_
  revert a
  refine mA rfl rfl ?_
  refine mA rfl rfl ?_
  refine mA rfl rfl ?_
  refine sA (v := .string ⟨((s.drop p).take (q - p)).toArray⟩) rfl (fun _ henv => rn_cutS (n := p) (m := q) henv Tryd.underlying9 rfl rfl rfl (by omega) (by omega)) ?_
  intro a henv
  refine seq_step rfl (op_call henv rfl Tryd.call80 rfl (rread_w (t := cutw s p q) hlw) ?_)
  rintro e w57 ⟨z1, b1, _, rfl, ⟨A54, c55, rfl, hz56⟩, hw, hb⟩
  refine ⟨_, rfl, ?_⟩
  clear henv a; intro a henv
  replace hst := (hst.call hb).addR hz56 ⟨nou_rowS, trivial⟩
  clear hz56
  clear hb
  revert a
  refine mA rfl rfl ?_
  refine sA (v := .agg #[.bool (neg z1), .slice A54 (dl z1) c55]) rfl (fun _ henv => rn_extract henv rfl rfl) ?_
  refine sA (v := .int .i64 b1) rfl (fun _ henv => rn_extract henv rfl rfl) ?_
  intro a henv
  refine seq_step rfl (op_alloc (c := #[.bool (neg 0), .slice none (dl 0) 0]) henv hst rfl zero_anvil_anvilref02_Int rcells ?_)
  clear henv hst a; intro a w59 g58 henv hst
  refine seq_step rfl (op_store (k := 0) (c' := #[.bool (neg z1), .slice A54 (dl z1) c55]) henv hst (ty_anvil_anvilref02_Int.size) rfl rfl rfl rfl (by simp) rfl rfl ?_)
  clear henv hst a; intro a w60 henv hst
  refine sv (v := .int .i64 b1) henv rfl (rn_assign henv rfl) ?_
  clear henv a; intro a henv
  refine wpList_nil ?_
  refine th_n ?_
  refine wp_seq ?_
  refine wp_seq ?_
  refine region_seq ?_
  revert a
  refine mA rfl rfl ?_
  refine sA (v := .bool (decide (b1 ≥ (0 : Int)))) rfl (fun _ henv => rn_bin henv rfl rfl rfl) ?_
  intro a henv
  refine wpList_nil ?_
  refine th_n ?_
  refine if_split henv rfl (fun hc61 => ?_) (fun hc61 => ?_)
  · have hb1 := of_decide_eq_true hc61
    obtain ⟨b, rfl, hrb⟩ := wr_bad hw hb1
    have hbl := rb_le hrb
    rw [cutw_len hs1 hs2] at hbl
    refine wp_seq ?_
    refine region_seq ?_
    revert a
    refine mA rfl rfl ?_
    refine mA rfl rfl ?_
    refine sA (v := .int .i64 (p + b : Nat)) rfl (fun _ henv => rn_add henv rfl rfl (by rw [IntWalk.i64_in _ (by omega)]; omega)) ?_
    refine aA rfl rfl ?_
    refine aA rfl rfl ?_
    intro a henv
    refine wpList_nil ?_
    refine th_n ?_
    refine wp_ret ?_
    refine th_r (bl_r (th_r (bl_r ?_)))
    refine leave henv (res2 Tryd.results47 (RV.tmp henv rfl) (RV.tmp henv rfl)) ?_
    exact ⟨.inr ⟨_, (.go h0 hne h1 (hgo _ (.bad hsen hrb))), rfl⟩, hst.below⟩
  · have hb1 := of_decide_eq_false hc61
    have hrz := wr_ok hw hb1
    refine wp_skip ?_
    refine th_n ?_
    refine wp_seq ?_
    refine region_seq ?_
    revert a
    refine mA rfl rfl ?_
    refine sA (v := .agg #[.bool (neg z1), .slice A54 (dl z1) c55]) rfl (fun _ henv => rn_load0 henv ty_anvil_anvilref02_Int rfl (hst.oat (k := 0) rfl) rfl) ?_
    intro a henv
    refine seq_step rfl (op_buildSlice (z := 2) (pv := #[(0, .agg #[.bool (neg z1), .slice A54 (dl z1) c55])]) (c := #[.bool (neg z1), .slice A54 (dl z1) c55]) henv hst rfl Tryd.underlying76 (ty_anvil_anvilref02_Int.size) zero_anvil_anvilref02_Int (by decide) (by decide) rfl (by kernel_rfl) ?_)
    clear henv hst a; intro a w63 g62 henv hst
    refine seq_step rfl (op_appendS (k := 2) (j := 0) henv hst rfl Tryd.underlying76 inf_anvil_anvilref02_Int rfl rfl rfl rfl rfl rfl rfl rfl rfl rfl rfl (by unfold maxLen; omega) (by omega) ?_)
    clear henv hst a; intro a w66 g64 c65 henv hst
    rw [show fl fM os ++ (#[.bool (neg z1), .slice A54 (dl z1) c55] : Array Value).toList = fl fM (os ++ [(A54, c55, z1)]) from fl_snoc (f := fM) os (A54, c55, z1)] at hst
    replace hst := hst.snocEs (e := (A54, c55, z1)) (i := 1) (j := 0) rfl rfl
    refine sv (v := .slice (some ⟨g64, 0, none⟩) (j + 1) c65) henv rfl (rn_assign henv rfl) ?_
    clear henv a; intro a henv
    refine wpList_nil ?_
    refine th_n ?_
    refine wp_seq ?_
    refine wp_seq ?_
    refine region_seq ?_
    revert a
    refine mA rfl rfl ?_
    refine mA rfl rfl ?_
    refine sA (v := .int .i64 (s.length : Nat)) rfl (fun _ henv => rn_lenS henv Tryd.underlying9 rfl) ?_
    refine sA (v := .bool (((q : Nat) : Int) == ((s.length : Nat) : Int))) rfl (fun _ henv => rn_bin henv rfl rfl rfl) ?_
    intro a henv
    refine wpList_nil ?_
    refine th_n ?_
    refine if_split henv rfl (fun hc67 => ?_) (fun hc67 => ?_)
    · have hqe := eq_of_beq hc67
      replace hqe : q = s.length := by omega
      refine wp_seq ?_
      refine region_seq ?_
      revert a
      refine mA rfl rfl ?_
      refine aA rfl rfl ?_
      refine aA rfl rfl ?_
      intro a henv
      refine wpList_nil ?_
      refine th_n ?_
      refine wp_ret ?_
      refine th_r (bl_r (th_r (bl_r ?_)))
      refine leave henv (res2 Tryd.results47 (RV.tmp henv rfl) (RV.tmp henv rfl)) ?_
      exact ⟨.inr ⟨_, (.go h0 hne h1 (hgo _ (seg_fin hsen hrz hqe))), rfl⟩, hst.below⟩
    · have hqe := ne_of_beq_false hc67
      have hql : q < s.length := by omega
      refine wp_skip ?_
      refine th_n ?_
      refine wp_seq ?_
      refine region_seq ?_
      revert a
      refine mA rfl rfl ?_
      refine sA (v := .int .i64 (q + 1 : Nat)) rfl (fun _ henv => rn_add henv rfl rfl (by rw [IntWalk.i64_in _ (by omega)]; omega)) ?_
      refine aA rfl rfl ?_
      intro a henv
      refine wpList_nil ?_
      refine th_n ?_
      refine wp_seq ?_
      refine region_seq ?_
      revert a
      refine mA rfl rfl ?_
      refine mA rfl rfl ?_
      refine sA (v := .int .u8 ((s.getD q 0).toNat : Nat)) rfl (fun _ henv => rn_idxS (i := q) henv Tryd.underlying9 rfl rfl (by omega)) ?_
      refine sA (v := .bool ((((s.getD q 0).toNat : Nat) : Int) == (93 : Int))) rfl (fun _ henv => rn_bin henv rfl rfl rfl) ?_
      intro a henv
      refine wpList_nil ?_
      refine th_n ?_
      refine if_split henv rfl (fun hc68 => ?_) (fun hc68 => ?_)
      · have hdd := eq_of_beq hc68
        replace hdd : (s.getD q 0).toNat = 93 := by omega
        refine wp_seq ?_
        refine wp_seq ?_
        refine region_seq ?_
        revert a
        refine mA rfl rfl ?_
        refine mA rfl rfl ?_
        refine sA (v := .int .i64 (s.length : Nat)) rfl (fun _ henv => rn_lenS henv Tryd.underlying9 rfl) ?_
        refine sA (v := .bool (decide (((q + 1 : Nat) : Int) < ((s.length : Nat) : Int)))) rfl (fun _ henv => rn_bin henv rfl rfl rfl) ?_
        intro a henv
        refine wpList_nil ?_
        refine th_n ?_
        refine if_split henv rfl (fun hc69 => ?_) (fun hc69 => ?_)
        · have hlast := of_decide_eq_true hc69
          refine wp_seq ?_
          refine region_seq ?_
          revert a
          refine mA rfl rfl ?_
          refine aA rfl rfl ?_
          refine aA rfl rfl ?_
          intro a henv
          refine wpList_nil ?_
          refine th_n ?_
          refine wp_ret ?_
          refine th_r (bl_r (th_r (bl_r ?_)))
          refine leave henv (res2 Tryd.results47 (RV.tmp henv rfl) (RV.tmp henv rfl)) ?_
          exact ⟨.inr ⟨_, (.go h0 hne h1 (hgo _ (.more hsen hrz hdd (by omega)))), rfl⟩, hst.below⟩
        · have hlast := of_decide_eq_false hc69
          refine wp_skip ?_
          refine th_n ?_
          refine wp_seq ?_
          refine region_seq ?_
          revert a
          refine mA rfl rfl ?_
          refine aA rfl rfl ?_
          refine aA rfl rfl ?_
          intro a henv
          refine wpList_nil ?_
          refine th_n ?_
          refine wp_ret ?_
          refine bl_r (th_r (bl_r ?_))
          refine leave henv (res2 Tryd.results47 (RV.tmp henv rfl) (RV.tmp henv rfl)) ?_
          exact ⟨.inl ⟨zs ++ [z1], _, _, (.go h0 hne h1 (hgo _ (.done hsen hrz hdd (by omega)))), (by rw [List.length_append, hzl]; rfl), rfl, ⟨_, _, _, rfl, hst.newRow (k := 2) (j := 0) rfl rfl, (by have hol := congrArg List.length ho; rw [List.length_map] at hol; rw [List.length_append, hol, hzl]; rfl), (by rw [List.map_append, ho]; rfl)⟩⟩, hst.below⟩
      · have hdd := ne_of_beq_false hc68
        have hcc : (s.getD q 0).toNat = 32 := by have hn := hsen.2.2.2 hql; unfold stp at hn; omega
        refine wp_skip ?_
        refine bl_n ?_
        exact th_n ⟨_, (by omega), ⟨(q + 1), (j + 1), (zs ++ [z1]), (some ⟨g64, 0, none⟩), c65, (os ++ [(A54, c55, z1)]), rfl, henv.sub ⟨rfl, rfl, rfl, trivial⟩, hst.pick [2] [0] (by decide), (by omega), (by omega), (by omega), (by rw [List.length_append, hzl]; rfl), (by rw [List.map_append, ho]; rfl), (fun r hr => hgo r (.next hsen hrz hql hcc hr))⟩⟩
theorem ref_read {s : List UInt8} {w0 : World} (hl : s.length ≤ 65536) :
    Calls Tryd.prog 47 #[.string ⟨s.toArray⟩] w0 fun e w' => ((∃ zs n v, Rd0 s (.inl zs) ∧ zs.length = n ∧ e = .returned (.tuple #[v, .int .i64 (-1)]) ∧ MRow w0.heap.size w' v n zs) ∨ ∃ b : Nat, Rd0 s (.inr b) ∧ e = .returned (.tuple #[.slice none 0 0, .int .i64 (b : Nat)])) ∧ Below w0.heap.size w0 w' := by
  by_cases hne : s = []
  · exact (ref_read_empty (by rw [hne]; rfl)).mono fun e w' ⟨he, hb⟩ => ⟨.inr ⟨0, .no (.inl hne), he⟩, hb⟩
  have hlen : 1 ≤ s.length := List.length_pos_iff.2 hne
  by_cases h0 : (s.getD 0 0).toNat = 91
  · by_cases h1 : 1 < s.length ∧ (s.getD 1 0).toNat = 93
    · rcases Nat.lt_or_ge 2 s.length with h2 | h2
      · exact (ref_read_tail hl h0 h1.2 h2).mono fun e w' ⟨he, hb⟩ => ⟨.inr ⟨2, .tail h0 h1.2 h2, he⟩, hb⟩
      · exact (ref_read_void h0 h1.2 (by omega)).mono fun e w' ⟨v, he, hv, hb⟩ => ⟨.inl ⟨[], 0, v, .void h0 h1.2 (by omega), rfl, he, hv⟩, hb⟩
    · by_cases hx : s.length ≤ 1
      · exact ref_read_go hl h0 hne hx h1
      · exact ref_read_other hl h0 hne (by omega) (fun e => h1 ⟨by omega, e⟩) h1
  · exact (ref_read_no hl hlen h0).mono fun e w' ⟨he, hb⟩ => ⟨.inr ⟨0, .no (.inr h0), he⟩, hb⟩
set_option maxRecDepth 100000 in
set_option maxHeartbeats 2000000 in
theorem ref_text {A0 : Option Addr} {n0 c0 : Nat} {es0 : List NE} {xs : List Int} {w0 : World} (h0 : (pfRow fM FM 2 A0 n0 c0 es0).P w0) (hz0 : es0.map zz = xs) (hk : Zk 2000 xs) (hn : n0 ≤ 400) :
    Calls Tryd.prog 46 #[.slice A0 n0 c0] w0 fun e w' => e = .returned (.string ⟨(textRow xs).toArray⟩) ∧ Below w0.heap.size w0 w' := by
  have hzb := hk.es hz0
  refine enter Tryd.func46 rfl Tryd.ntmps46 rfl ?_
  intro a henv hst
  have hlen0 := h0.2.1
  have hbig0 := Nat.le_trans h0.1.cap h0.1.big
  unfold maxLen at hbig0
  replace hst := hst.argRow h0
  clear h0
  refine wp_seq ?_
  refine region_seq ?_
  refine sv (v := .string ⟨#[]⟩) henv rfl (rn_assign henv rfl) ?_
  clear henv a; intro a henv
  refine wpList_nil ?_
  refine th_n ?_
  refine wp_seq ?_
  refine region_seq ?_
  refine sv (v := .string ⟨#[91]⟩) henv rfl (rn_assign henv rfl) ?_
  clear henv a; intro a henv
  refine wpList_nil ?_
  refine th_n ?_
  refine wp_seq ?_
  refine wp_seq ?_
  refine region_seq ?_
  refine sv (v := .int .i64 0) henv rfl (rn_assign henv rfl) ?_
  clear henv a; intro a henv
  refine wpList_nil ?_
  refine th_n ?_
  refine wp_block ?_
  refine wp_loop_ghost (fun mz a w => ∃ j : Nat, ∃ t : List UInt8, n0 - j = mz ∧ Env 24 a [(0, .slice A0 n0 c0), (3, .string ⟨t.toArray⟩), (4, .int .i64 (j : Nat))] ∧ St w0 w [] [pfRow fM FM 2 A0 n0 c0 es0] ∧ j ≤ n0 ∧ t = 91 :: jn ((xs.take j).map textZ)) _ ⟨0, [91], rfl, henv.sub ⟨rfl, rfl, rfl, trivial⟩, hst.pick [] [0] (by decide), (Nat.zero_le _), rfl⟩ ?_
  clear henv hst a
  rintro mz a w51 ⟨j, t, rfl, henv, hst, hj, ht⟩
  have htl : t.length ≤ 9000000 := rtxt_len hk (by omega) ht
  refine wp_seq ?_
  refine wp_seq ?_
  refine region_seq ?_
  revert a
  refine mA rfl rfl ?_
  refine mA rfl rfl ?_
  refine sA (v := .int .i64 (n0 : Nat)) rfl (fun _ henv => rn_len henv Tryd.underlying76 rfl) ?_
  refine sA (v := .bool (decide (((j : Nat) : Int) < ((n0 : Nat) : Int)))) rfl (fun _ henv => rn_bin henv rfl rfl rfl) ?_
  intro a henv
  refine wpList_nil ?_
  refine th_n ?_
  refine if_split henv rfl (fun hc52 => ?_) (fun hc52 => ?_)
  · have hlt : j < n0 := by have := of_decide_eq_true hc52; omega
    obtain ⟨⟨A, c, z⟩, he0⟩ : ∃ e, es0[j]? = some e := ⟨_, List.getElem?_eq_getElem (by omega)⟩
    replace hst := hst.elem (k := 0) rfl he0
    replace hst : St w0 _ [] [pfR A c z, pfRow fM FM 2 A0 n0 c0 es0] := hst
    have hzs := hzb.at he0
    have hzt := textZ_bd z
    have dz := dl_zl z
    refine wp_skip ?_
    refine th_n ?_
    refine wp_seq ?_
    refine wp_block ?_
    refine wp_seq ?_
    refine wp_seq ?_
    refine region_seq ?_
    revert a
    refine mA rfl rfl ?_
    refine sA (v := .bool (decide (((j : Nat) : Int) > (0 : Int)))) rfl (fun _ henv => rn_bin henv rfl rfl rfl) ?_
    intro a henv
    refine wpList_nil ?_
    refine th_n ?_
    refine if_split henv rfl (fun hc53 => ?_) (fun hc53 => ?_)
    · have hj0 := of_decide_eq_true hc53
      replace hj0 : 0 < j := by omega
      refine region_seq ?_
      revert a
      refine mA rfl rfl ?_
      refine sA (v := .string ⟨(t ++ ([32])).toArray⟩) rfl (fun _ henv => rn_catS (s := t) (t := [32]) henv rfl rfl (by first | omega | (rw [List.length_singleton]; omega) | (rw [List.length_append, List.length_singleton]; omega))) ?_
      refine aA rfl rfl ?_
      intro a henv
      refine wpList_nil ?_
      refine th_n ?_
      refine region_seq ?_
      revert a
      refine mA rfl rfl ?_
      refine mA rfl rfl ?_
      refine mA rfl rfl ?_
      refine sA (v := .pointer (some ⟨ab A0, ao A0 + j * 2, none⟩)) rfl (fun _ henv => rn_idxR (i := j) henv Tryd.underlying76 (ty_anvil_anvilref02_Int.size) rfl rfl (by omega) rfl (show (pfRow fM FM 2 A0 n0 c0 es0).P _ from (hst.pat (k := 1) rfl)).1) ?_
      refine sA (v := .agg #[.bool (neg z), .slice A (dl z) c]) rfl (fun _ henv => rn_loadE (i := j) (e := (A, c, z)) henv ty_anvil_anvilref02_Int rfl rfl fM_len (show (pfRow fM FM 2 A0 n0 c0 es0).P _ from (hst.pat (k := 1) rfl)).1 (by omega) he0 rfl) ?_
      intro a henv
      refine seq_step rfl (op_call henv rfl Tryd.call16 rfl (text_r (z := z) (show RIn _ A c z from hst.pat (k := 0) rfl) (by omega)) ?_)
      rintro e w54 ⟨rfl, hb⟩
      refine ⟨_, rfl, ?_⟩
      clear henv a; intro a henv
      replace hst := hst.call hb
      clear hb
      revert a
      refine sA (v := .string ⟨((t ++ ([32])) ++ (textZ z)).toArray⟩) rfl (fun _ henv => rn_catS (s := (t ++ ([32]))) (t := (textZ z)) henv rfl rfl (by first | omega | (rw [List.length_singleton]; omega) | (rw [List.length_append, List.length_singleton]; omega))) ?_
      refine aA rfl rfl ?_
      intro a henv
      refine wpList_nil ?_
      refine bl_n (th_n ?_)
      refine region_seq ?_
      revert a
      refine mA rfl rfl ?_
      refine sA (v := .int .i64 (j + 1 : Nat)) rfl (fun _ henv => rn_add henv rfl rfl (by rw [IntWalk.i64_in _ (by omega)]; omega)) ?_
      refine aA rfl rfl ?_
      intro a henv
      refine wpList_nil ?_
      exact th_n ⟨_, (by omega), ⟨j + 1, ((t ++ [32]) ++ textZ z), rfl, henv.sub ⟨rfl, rfl, rfl, trivial⟩, hst.pick [] [1] (by decide), (by omega), (txt_more hz0 ht he0 hj0)⟩⟩
    · have hj0 := of_decide_eq_false hc53
      replace hj0 : j = 0 := by omega
      refine wp_skip ?_
      refine th_n ?_
      refine region_seq ?_
      revert a
      refine mA rfl rfl ?_
      refine mA rfl rfl ?_
      refine mA rfl rfl ?_
      refine sA (v := .pointer (some ⟨ab A0, ao A0 + j * 2, none⟩)) rfl (fun _ henv => rn_idxR (i := j) henv Tryd.underlying76 (ty_anvil_anvilref02_Int.size) rfl rfl (by omega) rfl (show (pfRow fM FM 2 A0 n0 c0 es0).P _ from (hst.pat (k := 1) rfl)).1) ?_
      refine sA (v := .agg #[.bool (neg z), .slice A (dl z) c]) rfl (fun _ henv => rn_loadE (i := j) (e := (A, c, z)) henv ty_anvil_anvilref02_Int rfl rfl fM_len (show (pfRow fM FM 2 A0 n0 c0 es0).P _ from (hst.pat (k := 1) rfl)).1 (by omega) he0 rfl) ?_
      intro a henv
      refine seq_step rfl (op_call henv rfl Tryd.call16 rfl (text_r (z := z) (show RIn _ A c z from hst.pat (k := 0) rfl) (by omega)) ?_)
      rintro e w55 ⟨rfl, hb⟩
      refine ⟨_, rfl, ?_⟩
      clear henv a; intro a henv
      replace hst := hst.call hb
      clear hb
      revert a
      refine sA (v := .string ⟨(t ++ (textZ z)).toArray⟩) rfl (fun _ henv => rn_catS (s := t) (t := (textZ z)) henv rfl rfl (by first | omega | (rw [List.length_singleton]; omega) | (rw [List.length_append, List.length_singleton]; omega))) ?_
      refine aA rfl rfl ?_
      intro a henv
      refine wpList_nil ?_
      refine bl_n (th_n ?_)
      refine region_seq ?_
      revert a
      refine mA rfl rfl ?_
      refine sA (v := .int .i64 (j + 1 : Nat)) rfl (fun _ henv => rn_add henv rfl rfl (by rw [IntWalk.i64_in _ (by omega)]; omega)) ?_
      refine aA rfl rfl ?_
      intro a henv
      refine wpList_nil ?_
      exact th_n ⟨_, (by omega), ⟨j + 1, (t ++ textZ z), rfl, henv.sub ⟨rfl, rfl, rfl, trivial⟩, hst.pick [] [1] (by decide), (by omega), (txt_one hz0 ht he0 hj0)⟩⟩
  · have hjn : j = n0 := by have := of_decide_eq_false hc52; omega
    refine wp_exit ?_
    refine th_x (th_x (bl_x (th_n ?_)))
    refine wp_seq ?_
    refine region_seq ?_
    revert a
    refine mA rfl rfl ?_
    refine sA (v := .string ⟨(t ++ ([93])).toArray⟩) rfl (fun _ henv => rn_catS (s := t) (t := [93]) henv rfl rfl (by first | omega | (rw [List.length_singleton]; omega) | (rw [List.length_append, List.length_singleton]; omega))) ?_
    refine aA rfl rfl ?_
    intro a henv
    refine wpList_nil ?_
    refine th_n ?_
    refine wp_ret ?_
    refine leave henv (res1 Tryd.results46 (RV.tmp henv rfl)) ?_
    exact ⟨by rw [ht, hjn, List.take_of_length_le (by rw [← hz0, List.length_map]; omega)]; rfl, hst.below⟩
end Go.Proofs.YtghaenkacjgdnaaDoor.W
