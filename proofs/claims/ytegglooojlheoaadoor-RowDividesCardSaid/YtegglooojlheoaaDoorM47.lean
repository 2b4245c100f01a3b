/- strings.Join at a blank; row.Text. Printed by pv/gen_rtx2.py. No condition. -/
import Derived.Test.YtegglooojlheoaaDoorM45
import Derived.Test.YtegglooojlheoaaDoorM15
import Derived.Test.YtegglooojlheoaaDoorM46
import Derived.Test.YtegglooojlheoaaDoorM31
import Derived.Test.YtegglooojlheoaaDoorM6
import Derived.Test.YtegglooojlheoaaDoorM36
import Derived.Test.YtegglooojlheoaaDoorM44

namespace Go.Proofs.YtegglooojlheoaaDoor.W
open Go.RowKit Anv Go.Lib
theorem quo_big {n : Nat} (h : 0 < n) (h2 : n ≤ 1000000) : 2 ≤ 9223372036854775807 / n := by
  rw [Nat.le_div_iff_mul_le h]; omega
def jt (s : List UInt8) (r : List (List UInt8)) (k : Nat) : List UInt8 := s ++ (r.take k).flatMap fun t => 32 :: t
theorem jt_zero (s : List UInt8) (r : List (List UInt8)) : jt s r 0 = s := by simp [jt]
theorem jt_step {s t : List UInt8} {r : List (List UInt8)} {k : Nat} (h : r[k]? = some t) : jt s r (k + 1) = jt s r k ++ 32 :: t := by
  unfold jt
  rw [take_one h, List.flatMap_append]
  simp
theorem jn_all {es : List (List UInt8)} {x : List UInt8} {k : Nat} (h : es[0]? = some x) (hk : es.length ≤ k + 1) : jt x (es.drop 1) k = jn es := by
  cases es with
  | nil => simp at h
  | cons y r =>
    obtain rfl : y = x := by simpa using h
    have hk : r.length ≤ k := by simpa using hk
    simp [jt, jn, List.take_of_length_le hk]
def textRow (zs : List Int) : List UInt8 := 91 :: (jn (zs.map textZ) ++ [93])
theorem step_txt {es : List NE} {os : List (List UInt8)} {j : Nat} {A : Option Addr} {c : Nat} {z : Int} (ho : os = ((es.map zz).take j).map textZ) (he : es[j]? = some (A, c, z)) : os ++ [textZ z] = ((es.map zz).take (j + 1)).map textZ := by
  rw [ho, take_one (x := z) (by rw [List.getElem?_map, he]; rfl), List.map_append]
  rfl
theorem txt_bd {es : List NE} {j : Nat} (hz : ZB 90000 es) : ∀ s ∈ ((es.map zz).take j).map textZ, s.length ≤ 1000000 := by
  intro s hs
  obtain ⟨z, hz1, rfl⟩ := List.mem_map.1 hs
  obtain ⟨e, he, rfl⟩ := List.mem_map.1 (List.mem_of_mem_take hz1)
  have h1 := hz e he
  have h2 := textZ_bd (zz e)
  omega
set_option maxRecDepth 100000 in
set_option maxHeartbeats 4000000 in
theorem join_0 {A0 : Option Addr} {n0 c0 : Nat} {es0 : List (List UInt8)} {w0 : World} (h0 : (pfRow fS FTx 1 A0 n0 c0 es0).P w0) (hb : ∀ s ∈ es0, s.length ≤ 1000000) (hn : n0 = 0) :
    Calls Tryd.prog 114 #[.slice A0 n0 c0, .string ⟨#[32]⟩] w0 fun e w' => e = .returned (.string ⟨(jn es0).toArray⟩) ∧ Below w0.heap.size w0 w' := by
  refine enter Tryd.func114 rfl Tryd.ntmps114 rfl ?_
  intro a henv hst
  have hlen0 := h0.2.1
  have hcap0 := h0.1.cap
  replace hst := hst.argRow h0
  refine wp_seq ?_
  refine region_seq ?_
  refine sv (v := .string ⟨#[]⟩) henv rfl (rn_assign henv rfl) ?_
  clear henv a; intro a henv
  refine wpList_nil ?_
  refine th_n ?_
  refine wp_seq ?_
  refine wp_seq ?_
  refine region_seq ?_
  revert a
  refine mA rfl rfl ?_
  refine sA (v := .int .i64 (n0 : Nat)) rfl (fun _ henv => rn_len henv Tryd.underlying159 rfl) ?_
  intro a henv
  refine wpList_nil ?_
  refine th_n ?_
  refine wp_block ?_
  refine wp_seq ?_
  refine region_seq ?_
  refine sv (v := .bool (((n0 : Nat) : Int) == (0 : Int))) henv rfl (rn_bin henv rfl rfl rfl) ?_
  clear henv a; intro a henv
  rw [show (((n0 : Nat) : Int) == (0 : Int)) = true from (beq_iff_eq.2 (by omega))] at henv
  refine sv (v := .bool true) henv rfl (rn_assign henv rfl) ?_
  clear henv a; intro a henv
  refine wpList_nil ?_
  refine th_n ?_
  refine if_t henv rfl (rfl) ?_
  refine wp_seq ?_
  refine region_seq ?_
  refine sv (v := .string ⟨#[]⟩) henv rfl (rn_assign henv rfl) ?_
  clear henv a; intro a henv
  refine wpList_nil ?_
  refine th_n ?_
  refine wp_ret ?_
  refine bl_r (th_r ?_)
  refine leave henv (res1 Tryd.results114 (RV.tmp henv rfl)) ?_
  obtain rfl : es0 = [] := List.eq_nil_of_length_eq_zero (by omega)
  exact ⟨rfl, hst.below⟩
set_option maxRecDepth 100000 in
set_option maxHeartbeats 4000000 in
theorem join_1 {A0 : Option Addr} {n0 c0 : Nat} {es0 : List (List UInt8)} {w0 : World} (h0 : (pfRow fS FTx 1 A0 n0 c0 es0).P w0) (hb : ∀ s ∈ es0, s.length ≤ 1000000) (hn : n0 = 1) :
    Calls Tryd.prog 114 #[.slice A0 n0 c0, .string ⟨#[32]⟩] w0 fun e w' => e = .returned (.string ⟨(jn es0).toArray⟩) ∧ Below w0.heap.size w0 w' := by
  refine enter Tryd.func114 rfl Tryd.ntmps114 rfl ?_
  intro a henv hst
  have hlen0 := h0.2.1
  have hcap0 := h0.1.cap
  replace hst := hst.argRow h0
  obtain ⟨x0, hx0⟩ : ∃ x, es0[0]? = some x := ⟨_, List.getElem?_eq_getElem (by omega)⟩
  have hlx := hb x0 (List.mem_of_getElem? hx0)
  refine wp_seq ?_
  refine region_seq ?_
  refine sv (v := .string ⟨#[]⟩) henv rfl (rn_assign henv rfl) ?_
  clear henv a; intro a henv
  refine wpList_nil ?_
  refine th_n ?_
  refine wp_seq ?_
  refine wp_seq ?_
  refine region_seq ?_
  revert a
  refine mA rfl rfl ?_
  refine sA (v := .int .i64 (n0 : Nat)) rfl (fun _ henv => rn_len henv Tryd.underlying159 rfl) ?_
  intro a henv
  refine wpList_nil ?_
  refine th_n ?_
  refine wp_block ?_
  refine wp_seq ?_
  refine region_seq ?_
  refine sv (v := .bool (((n0 : Nat) : Int) == (0 : Int))) henv rfl (rn_bin henv rfl rfl rfl) ?_
  clear henv a; intro a henv
  rw [show (((n0 : Nat) : Int) == (0 : Int)) = false from (beq_eq_false_iff_ne.2 (by omega))] at henv
  refine sv (v := .bool false) henv rfl (rn_assign henv rfl) ?_
  clear henv a; intro a henv
  refine wpList_nil ?_
  refine th_n ?_
  refine if_f henv rfl (rfl) ?_
  refine wp_seq ?_
  refine region_seq ?_
  refine sv (v := .bool (((n0 : Nat) : Int) == (1 : Int))) henv rfl (rn_bin henv rfl rfl rfl) ?_
  clear henv a; intro a henv
  rw [show (((n0 : Nat) : Int) == (1 : Int)) = true from (beq_iff_eq.2 (by omega))] at henv
  refine sv (v := .bool true) henv rfl (rn_assign henv rfl) ?_
  clear henv a; intro a henv
  refine wpList_nil ?_
  refine th_n ?_
  refine if_t henv rfl (rfl) ?_
  refine wp_seq ?_
  refine region_seq ?_
  revert a
  refine mA rfl rfl ?_
  refine sA (v := .pointer (some ⟨ab A0, ao A0 + 0 * 1, none⟩)) rfl (fun _ henv => rn_idxR (i := 0) henv Tryd.underlying159 (ty_string.size) rfl rfl (by omega) rfl (show (pfRow fS FTx 1 A0 n0 c0 es0).P _ from (hst.pat (k := 0) rfl)).1) ?_
  refine sA (v := .string ⟨x0.toArray⟩) rfl (fun _ henv => rn_loadE1 (i := 0) (j := 0) (e := x0) henv ty_string rfl rfl fS_len (by decide) (show (pfRow fS FTx 1 A0 n0 c0 es0).P _ from (hst.pat (k := 0) rfl)).1 (by omega) hx0 rfl) ?_
  refine aA rfl rfl ?_
  intro a henv
  refine wpList_nil ?_
  refine th_n ?_
  refine wp_ret ?_
  refine bl_r (th_r ?_)
  refine leave henv (res1 Tryd.results114 (RV.tmp henv rfl)) ?_
  obtain ⟨y, rfl⟩ : ∃ y, es0 = [y] := List.length_eq_one_iff.1 (by omega)
  obtain rfl : y = x0 := by simpa using hx0
  exact ⟨by simp [jn], hst.below⟩
set_option maxRecDepth 100000 in
set_option maxHeartbeats 4000000 in
theorem join_n {A0 : Option Addr} {n0 c0 : Nat} {es0 : List (List UInt8)} {w0 : World} (h0 : (pfRow fS FTx 1 A0 n0 c0 es0).P w0) (hb : ∀ s ∈ es0, s.length ≤ 1000000) (hn : 2 ≤ n0) (hn2 : n0 ≤ 1000000) :
    Calls Tryd.prog 114 #[.slice A0 n0 c0, .string ⟨#[32]⟩] w0 fun e w' => e = .returned (.string ⟨(jn es0).toArray⟩) ∧ Below w0.heap.size w0 w' := by
  refine enter Tryd.func114 rfl Tryd.ntmps114 rfl ?_
  intro a henv hst
  have hlen0 := h0.2.1
  have hcap0 := h0.1.cap
  obtain ⟨b0, o0, rfl, -, -⟩ := h0.1.cells (by omega)
  have hq := quo_big (n := n0 - 1) (by omega) (by omega)
  replace hst := hst.argRow h0
  obtain ⟨x0, hx0⟩ : ∃ x, es0[0]? = some x := ⟨_, List.getElem?_eq_getElem (by omega)⟩
  have hlx := hb x0 (List.mem_of_getElem? hx0)
  refine wp_seq ?_
  refine region_seq ?_
  refine sv (v := .string ⟨#[]⟩) henv rfl (rn_assign henv rfl) ?_
  clear henv a; intro a henv
  refine wpList_nil ?_
  refine th_n ?_
  refine wp_seq ?_
  refine wp_seq ?_
  refine region_seq ?_
  revert a
  refine mA rfl rfl ?_
  refine sA (v := .int .i64 (n0 : Nat)) rfl (fun _ henv => rn_len henv Tryd.underlying159 rfl) ?_
  intro a henv
  refine wpList_nil ?_
  refine th_n ?_
  refine wp_block ?_
  refine wp_seq ?_
  refine region_seq ?_
  refine sv (v := .bool (((n0 : Nat) : Int) == (0 : Int))) henv rfl (rn_bin henv rfl rfl rfl) ?_
  clear henv a; intro a henv
  rw [show (((n0 : Nat) : Int) == (0 : Int)) = false from (beq_eq_false_iff_ne.2 (by omega))] at henv
  refine sv (v := .bool false) henv rfl (rn_assign henv rfl) ?_
  clear henv a; intro a henv
  refine wpList_nil ?_
  refine th_n ?_
  refine if_f henv rfl (rfl) ?_
  refine wp_seq ?_
  refine region_seq ?_
  refine sv (v := .bool (((n0 : Nat) : Int) == (1 : Int))) henv rfl (rn_bin henv rfl rfl rfl) ?_
  clear henv a; intro a henv
  rw [show (((n0 : Nat) : Int) == (1 : Int)) = false from (beq_eq_false_iff_ne.2 (by omega))] at henv
  refine sv (v := .bool false) henv rfl (rn_assign henv rfl) ?_
  clear henv a; intro a henv
  refine wpList_nil ?_
  refine th_n ?_
  refine if_f henv rfl (rfl) ?_
  refine wp_skip ?_
  refine bl_n (th_n ?_)
  refine wp_seq ?_
  refine region_seq ?_
  refine sv (v := .int .i64 0) henv rfl (rn_assign henv rfl) ?_
  clear henv a; intro a henv
  refine wpList_nil ?_
  refine th_n ?_
  refine wp_seq ?_
  refine wp_seq ?_
  refine region_seq ?_
  revert a
  refine mA rfl rfl ?_
  refine sA (v := .int .i64 1) rfl (fun _ henv => rn_slen (s := ⟨#[32]⟩) henv Tryd.underlying9 rfl) ?_
  refine sA (v := .bool true) rfl (fun _ henv => rn_bin henv rfl rfl rfl) ?_
  intro a henv
  refine wpList_nil ?_
  refine th_n ?_
  refine if_t henv rfl (rfl) ?_
  refine wp_seq ?_
  refine wp_seq ?_
  refine region_seq ?_
  revert a
  refine mA rfl rfl ?_
  refine sA (v := .int .i64 1) rfl (fun _ henv => rn_slen (s := ⟨#[32]⟩) henv Tryd.underlying9 rfl) ?_
  refine mA rfl rfl ?_
  refine sA (v := .int .i64 (n0 : Nat)) rfl (fun _ henv => rn_len henv Tryd.underlying159 rfl) ?_
  refine sA (v := .int .i64 (n0 - 1 : Nat)) rfl (fun _ henv => rn_sub henv rfl rfl (by rw [IntWalk.i64_in _ (by omega)]; omega)) ?_
  refine sA (v := .int .i64 (9223372036854775807 / (n0 - 1) : Nat)) rfl (fun _ henv => rn_quo henv rfl rfl (by omega) (quo_i64 (t := 9223372036854775807) (c := n0 - 1) (by omega))) ?_
  refine sA (v := .bool (decide ((1 : Int) ≥ ((9223372036854775807 / (n0 - 1) : Nat) : Int)))) rfl (fun _ henv => rn_bin henv rfl rfl rfl) ?_
  intro a henv
  rw [show (decide ((1 : Int) ≥ ((9223372036854775807 / (n0 - 1) : Nat) : Int))) = false from decide_eq_false (by omega)] at henv
  refine wpList_nil ?_
  refine th_n ?_
  refine if_f henv rfl (rfl) ?_
  refine wp_skip ?_
  refine th_n ?_
  refine region_seq ?_
  revert a
  refine mA rfl rfl ?_
  refine mA rfl rfl ?_
  refine sA (v := .int .i64 1) rfl (fun _ henv => rn_slen (s := ⟨#[32]⟩) henv Tryd.underlying9 rfl) ?_
  refine mA rfl rfl ?_
  refine sA (v := .int .i64 (n0 : Nat)) rfl (fun _ henv => rn_len henv Tryd.underlying159 rfl) ?_
  refine sA (v := .int .i64 (n0 - 1 : Nat)) rfl (fun _ henv => rn_sub henv rfl rfl (by rw [IntWalk.i64_in _ (by omega)]; omega)) ?_
  refine sA (v := .int .i64 (1 * (n0 - 1) : Nat)) rfl (fun _ henv => rn_mul henv rfl rfl (by rw [IntWalk.i64_in _ (by omega)]; omega)) ?_
  refine sA (v := .int .i64 (0 + (1 * (n0 - 1)) : Nat)) rfl (fun _ henv => rn_add henv rfl rfl (by rw [IntWalk.i64_in _ (by omega)]; omega)) ?_
  refine aA rfl rfl ?_
  intro a henv
  refine wpList_nil ?_
  refine th_n ?_
  refine wp_seq ?_
  refine wp_seq ?_
  refine region_seq ?_
  revert a
  refine mA rfl rfl ?_
  refine sA (v := .int .i64 (n0 : Nat)) rfl (fun _ henv => rn_len henv Tryd.underlying159 rfl) ?_
  refine mA rfl rfl ?_
  intro a henv
  refine wpList_nil ?_
  refine th_n ?_
  refine wp_block ?_
  refine wp_loop_ghost (fun mz a w => ∃ j : Nat, ∃ T : Nat, n0 - j = mz ∧ Env 75 a [(0, .slice (some ⟨b0, o0, none⟩) n0 c0), (1, .string ⟨#[32]⟩), (39, .slice (some ⟨b0, o0, none⟩) n0 c0), (40, .int .i64 (n0 : Nat)), (41, .int .i64 (j : Nat)), (5, .int .i64 (T : Nat))] ∧ St w0 w [] [pfRow fS FTx 1 (some ⟨b0, o0, none⟩) n0 c0 es0] ∧ j ≤ n0 ∧ T ≤ n0 + j * 1000000) _ ⟨0, 0 + (1 * (n0 - 1)), rfl, henv.sub ⟨rfl, rfl, rfl, rfl, rfl, rfl, trivial⟩, hst.pick [] [0] (by decide), (Nat.zero_le _), (by omega)⟩ ?_
  clear henv hst a
  rintro mz a w1 ⟨j, T, rfl, henv, hst, hj, hT⟩
  refine wp_seq ?_
  refine region_seq ?_
  refine sv (v := .bool (decide (((j : Nat) : Int) < ((n0 : Nat) : Int)))) henv rfl (rn_bin henv rfl rfl rfl) ?_
  clear henv a; intro a henv
  refine wpList_nil ?_
  refine th_n ?_
  refine wp_seq ?_
  refine if_split henv rfl (fun hc2 => ?_) (fun hc2 => ?_)
  · have hlt : j < n0 := by have := of_decide_eq_true hc2; omega
    obtain ⟨x, hx⟩ : ∃ x, es0[j]? = some x := ⟨_, List.getElem?_eq_getElem (by omega)⟩
    have hl2 := hb x (List.mem_of_getElem? hx)
    refine wp_skip ?_
    refine th_n ?_
    refine wp_seq ?_
    refine wp_block ?_
    refine wp_seq ?_
    refine region_seq ?_
    revert a
    refine sA (v := .pointer (some ⟨ab (some ⟨b0, o0, none⟩), ao (some ⟨b0, o0, none⟩) + j * 1, none⟩)) rfl (fun _ henv => rn_idxR (i := j) henv Tryd.underlying159 (ty_string.size) rfl rfl (by omega) rfl (show (pfRow fS FTx 1 (some ⟨b0, o0, none⟩) n0 c0 es0).P _ from (hst.pat (k := 0) rfl)).1) ?_
    refine sA (v := .string ⟨x.toArray⟩) rfl (fun _ henv => rn_loadE1 (i := j) (j := 0) (e := x) henv ty_string rfl rfl fS_len (by decide) (show (pfRow fS FTx 1 (some ⟨b0, o0, none⟩) n0 c0 es0).P _ from (hst.pat (k := 0) rfl)).1 (by omega) hx rfl) ?_
    refine aA rfl rfl ?_
    intro a henv
    refine wpList_nil ?_
    refine th_n ?_
    refine wp_seq ?_
    refine wp_seq ?_
    refine region_seq ?_
    revert a
    refine mA rfl rfl ?_
    refine sA (v := .int .i64 (x.length : Nat)) rfl (fun _ henv => rn_lenS henv Tryd.underlying9 rfl) ?_
    refine mA rfl rfl ?_
    refine sA (v := .int .i64 (9223372036854775807 - T : Nat)) rfl (fun _ henv => rn_sub henv rfl rfl (by rw [IntWalk.i64_in _ (by omega)]; omega)) ?_
    refine sA (v := .bool (decide (((x.length : Nat) : Int) > ((9223372036854775807 - T : Nat) : Int)))) rfl (fun _ henv => rn_bin henv rfl rfl rfl) ?_
    intro a henv
    rw [show (decide (((x.length : Nat) : Int) > ((9223372036854775807 - T : Nat) : Int))) = false from decide_eq_false (by omega)] at henv
    refine wpList_nil ?_
    refine th_n ?_
    refine if_f henv rfl (rfl) ?_
    refine wp_skip ?_
    refine th_n ?_
    refine region_seq ?_
    revert a
    refine mA rfl rfl ?_
    refine mA rfl rfl ?_
    refine sA (v := .int .i64 (x.length : Nat)) rfl (fun _ henv => rn_lenS henv Tryd.underlying9 rfl) ?_
    refine sA (v := .int .i64 (T + x.length : Nat)) rfl (fun _ henv => rn_add henv rfl rfl (by rw [IntWalk.i64_in _ (by omega)]; omega)) ?_
    refine aA rfl rfl ?_
    intro a henv
    refine wpList_nil ?_
    refine bl_n (th_n ?_)
    refine region_seq ?_
    revert a
    refine sA (v := .int .i64 (j + 1 : Nat)) rfl (fun _ henv => rn_add henv rfl rfl (by rw [IntWalk.i64_in _ (by omega)]; omega)) ?_
    refine mA rfl rfl ?_
    intro a henv
    refine wpList_nil ?_
    exact th_n ⟨_, (by omega), ⟨j + 1, T + x.length, rfl, henv.sub ⟨rfl, rfl, rfl, rfl, rfl, rfl, trivial⟩, hst.pick [] [0] (by decide), (by omega), (by omega)⟩⟩
  · have hjn : j = n0 := by have := of_decide_eq_false hc2; omega
    refine wp_exit ?_
    refine th_x (th_x (bl_x (th_n ?_)))
    refine wp_seq ?_
    refine region_seq ?_
    refine seq_step rfl (op_alloc (c := #[.pointer none, .slice none 0 0]) henv hst rfl zero_strings_Builder rfl ?_)
    clear henv hst a; intro a w4 g3 henv hst
    refine wpList_nil ?_
    refine th_n ?_
    refine wp_seq ?_
    refine region_seq ?_
    refine sv (v := .int .i64 (T : Nat)) henv rfl (rn_move henv rfl) ?_
    clear henv a; intro a henv
    replace hst := hst.bld (k := 0) rfl
    refine seq_step rfl (op_growB (k := 0) (n := T) henv hst rfl rfl rfl rfl (by omega) ?_)
    clear henv hst a; intro a w5 v6 henv hst
    replace hst : St w0 w5 [bldF g3 v6 ([] : List UInt8).length (byteCells ([] : List UInt8))] [pfRow fS FTx 1 (some ⟨b0, o0, none⟩) n0 c0 es0] := hst
    refine wpList_nil ?_
    refine th_n ?_
    refine wp_seq ?_
    refine region_seq ?_
    revert a
    refine mA rfl rfl ?_
    refine sA (v := .pointer (some ⟨ab (some ⟨b0, o0, none⟩), ao (some ⟨b0, o0, none⟩) + 0 * 1, none⟩)) rfl (fun _ henv => rn_idxR (i := 0) henv Tryd.underlying159 (ty_string.size) rfl rfl (by omega) rfl (show (pfRow fS FTx 1 (some ⟨b0, o0, none⟩) n0 c0 es0).P _ from (hst.pat (k := 0) rfl)).1) ?_
    refine sA (v := .string ⟨x0.toArray⟩) rfl (fun _ henv => rn_loadE1 (i := 0) (j := 0) (e := x0) henv ty_string rfl rfl fS_len (by decide) (show (pfRow fS FTx 1 (some ⟨b0, o0, none⟩) n0 c0 es0).P _ from (hst.pat (k := 0) rfl)).1 (by omega) hx0 rfl) ?_
    intro a henv
    refine seq_step rfl (op_write (s := ⟨(x0 : List UInt8).toArray⟩) (k := 0) henv hst rfl rfl rfl rfl (by rw [ba_size]; simp only [List.length_append, List.length_cons, List.length_nil]; omega) ?_)
    clear henv hst a; intro a w7 v8 henv hst
    rw [ba_size, byteCells_app, ← List.length_append] at hst
    rw [List.nil_append] at hst
    refine wpList_nil ?_
    refine th_n ?_
    refine wp_seq ?_
    refine wp_seq ?_
    refine region_seq ?_
    revert a
    refine mA rfl rfl ?_
    refine sA (v := .slice (some ⟨b0, o0 + 1, none⟩) (n0 - 1) (c0 - 1)) rfl (fun _ henv => rn_sliceFrom (m := 1) henv Tryd.underlying159 (ty_string.size) rfl rfl (by omega) (by omega)) ?_
    refine sA (v := .int .i64 ((n0 - 1) : Nat)) rfl (fun _ henv => rn_len henv Tryd.underlying159 rfl) ?_
    refine mA rfl rfl ?_
    intro a henv
    refine wpList_nil ?_
    refine th_n ?_
    refine wp_block ?_
    replace hst := hst.dropRow (i := 0) rfl 1 fS_len (by omega)
    have hlend : (es0.drop 1).length = n0 - 1 := by rw [List.length_drop, hlen0]
    replace hst : St w0 w7 [bldF g3 v8 (jt x0 (es0.drop 1) 0).length (byteCells (jt x0 (es0.drop 1) 0))] [pfRow fS FTx 1 (some ⟨b0, o0 + 1, none⟩) (n0 - 1) (c0 - 1) (es0.drop 1)] := by rw [jt_zero]; exact hst.pick [0] [0] (by decide)
    refine wp_loop_ghost (fun mz a w => ∃ k : Nat, ∃ vb : Value, n0 - 1 - k = mz ∧ Env 75 a [(8, .pointer (some ⟨g3, 0, none⟩)), (1, .string ⟨#[32]⟩), (63, .slice (some ⟨b0, o0 + 1, none⟩) (n0 - 1) (c0 - 1)), (64, .int .i64 (n0 - 1 : Nat)), (65, .int .i64 (k : Nat))] ∧ St w0 w [bldF g3 vb (jt x0 (es0.drop 1) k).length (byteCells (jt x0 (es0.drop 1) k))] [pfRow fS FTx 1 (some ⟨b0, o0 + 1, none⟩) (n0 - 1) (c0 - 1) (es0.drop 1)] ∧ k ≤ n0 - 1 ∧ (jt x0 (es0.drop 1) k).length ≤ (k + 1) * 1000001) _ ⟨0, v8, rfl, henv.sub ⟨rfl, rfl, rfl, rfl, rfl, trivial⟩, hst.pick [0] [0] (by decide), (Nat.zero_le _), (by rw [jt_zero]; omega)⟩ ?_
    clear henv hst a
    rintro mz a w9 ⟨k, vb, rfl, henv, hst, hk, hX⟩
    refine wp_seq ?_
    refine region_seq ?_
    refine sv (v := .bool (decide (((k : Nat) : Int) < ((n0 - 1 : Nat) : Int)))) henv rfl (rn_bin henv rfl rfl rfl) ?_
    clear henv a; intro a henv
    refine wpList_nil ?_
    refine th_n ?_
    refine wp_seq ?_
    refine if_split henv rfl (fun hc10 => ?_) (fun hc10 => ?_)
    · have hlt : k < n0 - 1 := by have := of_decide_eq_true hc10; omega
      obtain ⟨t, ht⟩ : ∃ t, (es0.drop 1)[k]? = some t := ⟨_, List.getElem?_eq_getElem (by omega)⟩
      have hlt2 := hb t (List.mem_of_mem_drop (List.mem_of_getElem? ht))
      refine wp_skip ?_
      refine th_n ?_
      refine wp_seq ?_
      refine wp_block ?_
      refine wp_seq ?_
      refine region_seq ?_
      revert a
      refine sA (v := .pointer (some ⟨ab (some ⟨b0, o0 + 1, none⟩), ao (some ⟨b0, o0 + 1, none⟩) + k * 1, none⟩)) rfl (fun _ henv => rn_idxR (i := k) henv Tryd.underlying159 (ty_string.size) rfl rfl (by omega) rfl (show (pfRow fS FTx 1 (some ⟨b0, o0 + 1, none⟩) (n0 - 1) (c0 - 1) (es0.drop 1)).P _ from (hst.pat (k := 0) rfl)).1) ?_
      refine sA (v := .string ⟨t.toArray⟩) rfl (fun _ henv => rn_loadE1 (i := k) (j := 0) (e := t) henv ty_string rfl rfl fS_len (by decide) (show (pfRow fS FTx 1 (some ⟨b0, o0 + 1, none⟩) (n0 - 1) (c0 - 1) (es0.drop 1)).P _ from (hst.pat (k := 0) rfl)).1 (by omega) ht rfl) ?_
      refine aA rfl rfl ?_
      intro a henv
      refine wpList_nil ?_
      refine th_n ?_
      refine wp_seq ?_
      refine region_seq ?_
      refine sv (v := .string ⟨#[32]⟩) henv rfl (rn_move henv rfl) ?_
      clear henv a; intro a henv
      refine seq_step rfl (op_write (s := ⟨([32] : List UInt8).toArray⟩) (k := 0) henv hst rfl rfl rfl rfl (by rw [ba_size]; simp only [List.length_append, List.length_cons, List.length_nil]; omega) ?_)
      clear henv hst a; intro a w11 v12 henv hst
      rw [ba_size, byteCells_app, ← List.length_append] at hst
      refine wpList_nil ?_
      refine th_n ?_
      refine region_seq ?_
      refine sv (v := .string ⟨t.toArray⟩) henv rfl (rn_move henv rfl) ?_
      clear henv a; intro a henv
      refine seq_step rfl (op_write (s := ⟨(t : List UInt8).toArray⟩) (k := 0) henv hst rfl rfl rfl rfl (by rw [ba_size]; simp only [List.length_append, List.length_cons, List.length_nil]; omega) ?_)
      clear henv hst a; intro a w13 v14 henv hst
      rw [ba_size, byteCells_app, ← List.length_append] at hst
      refine wpList_nil ?_
      refine bl_n (th_n ?_)
      refine region_seq ?_
      revert a
      refine sA (v := .int .i64 (k + 1 : Nat)) rfl (fun _ henv => rn_add henv rfl rfl (by rw [IntWalk.i64_in _ (by omega)]; omega)) ?_
      refine mA rfl rfl ?_
      intro a henv
      refine wpList_nil ?_
      rw [show (jt x0 (es0.drop 1) k ++ [32]) ++ t = jt x0 (es0.drop 1) (k + 1) by rw [jt_step ht]; simp] at hst
      exact th_n ⟨_, (by omega), ⟨k + 1, v14, rfl, henv.sub ⟨rfl, rfl, rfl, rfl, rfl, trivial⟩, hst.pick [0] [0] (by decide), (by omega), (by rw [jt_step ht, List.length_append, List.length_cons]; omega)⟩⟩
    · obtain rfl : k = n0 - 1 := by have := of_decide_eq_false hc10; omega
      refine wp_exit ?_
      refine th_x (th_x (bl_x (th_n ?_)))
      refine wp_seq ?_
      refine region_seq ?_
      refine seq_step rfl (op_bstr (k := 0) henv hst rfl rfl rfl ?_)
      clear henv hst a; intro a w15 henv hst
      refine sv (v := .string ⟨(jt x0 (es0.drop 1) (n0 - 1)).toArray⟩) henv rfl (rn_assign henv rfl) ?_
      clear henv a; intro a henv
      refine wpList_nil ?_
      refine th_n ?_
      refine wp_ret ?_
      refine leave henv (res1 Tryd.results114 (RV.tmp henv rfl)) ?_
      exact ⟨by rw [jn_all hx0 (by omega)], hst.below⟩
theorem str_join {A0 : Option Addr} {n0 c0 : Nat} {es0 : List (List UInt8)} {w0 : World} (h0 : (pfRow fS FTx 1 A0 n0 c0 es0).P w0) (hb : ∀ s ∈ es0, s.length ≤ 1000000) (hn : n0 ≤ 1000000) :
    Calls Tryd.prog 114 #[.slice A0 n0 c0, .string ⟨#[32]⟩] w0 fun e w' => e = .returned (.string ⟨(jn es0).toArray⟩) ∧ Below w0.heap.size w0 w' := by
  rcases (show n0 = 0 ∨ n0 = 1 ∨ 2 ≤ n0 by omega) with h | h | h
  · exact join_0 h0 hb h
  · exact join_1 h0 hb h
  · exact join_n h0 hb h hn
set_option maxRecDepth 100000 in
set_option maxHeartbeats 2000000 in
theorem row_text {A0 : Option Addr} {n0 c0 : Nat} {es0 : List NE} {w0 : World} (h0 : (pfRow fN FN 2 A0 n0 c0 es0).P w0) (hz : ZB 90000 es0) (hn : n0 ≤ 1000000) :
    Calls Tryd.prog 52 #[.slice A0 n0 c0] w0 fun e w' => e = .returned (.string ⟨(textRow (es0.map zz)).toArray⟩) ∧ Below w0.heap.size w0 w' := by
  refine enter Tryd.func52 rfl Tryd.ntmps52 rfl ?_
  intro a henv hst
  have hlen0 := h0.2.1
  have hbig0 := Nat.le_trans h0.1.cap h0.1.big
  unfold maxLen at hbig0
  replace hst := hst.argRow h0
  clear h0
  refine wp_seq ?_
  refine region_seq ?_
  refine sv (v := .string ⟨#[]⟩) henv rfl (rn_assign henv rfl) ?_
  clear henv a; intro a henv
  refine wpList_nil ?_
  refine th_n ?_
  refine wp_seq ?_
  refine region_seq ?_
  refine sv (v := .slice none 0 0) henv rfl (rn_assign henv rfl) ?_
  clear henv a; intro a henv
  refine wpList_nil ?_
  refine th_n ?_
  refine wp_seq ?_
  refine wp_seq ?_
  refine region_seq ?_
  revert a
  refine mA rfl rfl ?_
  refine sA (v := .int .i64 (n0 : Nat)) rfl (fun _ henv => rn_len henv Tryd.underlying30 rfl) ?_
  refine mA rfl rfl ?_
  intro a henv
  refine wpList_nil ?_
  refine th_n ?_
  refine wp_block ?_
  replace hst := hst.addRowS notU 9 1
  replace hst : St w0 _ [rowS notU 9 1 none 0 0 (fl fS ([]))] [pfRow fN FN 2 A0 n0 c0 es0] := hst
  refine wp_loop_ghost (fun mz a w => ∃ j : Nat, ∃ B : Option Addr, ∃ d : Nat, ∃ os : List (List UInt8), n0 - j = mz ∧ Env 22 a [(6, .slice A0 n0 c0), (7, .int .i64 (n0 : Nat)), (8, .int .i64 (j : Nat)), (3, .slice B j d)] ∧ St w0 w [rowS notU 9 1 B j d (fl fS os)] [pfRow fN FN 2 A0 n0 c0 es0] ∧ j ≤ n0 ∧ os = ((es0.map zz).take j).map textZ) _ ⟨0, none, 0, [], rfl, henv.sub ⟨rfl, rfl, rfl, rfl, trivial⟩, hst.pick [0] [0] (by decide), (Nat.zero_le _), rfl⟩ ?_
  clear henv hst a
  rintro mz a w1 ⟨j, B, d, os, rfl, henv, hst, hj, ho⟩
  refine wp_seq ?_
  refine region_seq ?_
  refine sv (v := .bool (decide (((j : Nat) : Int) < ((n0 : Nat) : Int)))) henv rfl (rn_bin henv rfl rfl rfl) ?_
  clear henv a; intro a henv
  refine wpList_nil ?_
  refine th_n ?_
  refine wp_seq ?_
  refine if_split henv rfl (fun hc2 => ?_) (fun hc2 => ?_)
  · have hlt : j < n0 := by have := of_decide_eq_true hc2; omega
    obtain ⟨⟨A, c, z⟩, he0⟩ : ∃ e, es0[j]? = some e := ⟨_, List.getElem?_eq_getElem (by omega)⟩
    replace hst := hst.elem (k := 0) rfl he0
    replace hst : St w0 _ [rowS notU 9 1 B j d (fl fS os)] [pfZ A c z, pfRow fN FN 2 A0 n0 c0 es0] := hst
    have hzb := hz.at he0
    refine wp_skip ?_
    refine th_n ?_
    refine wp_seq ?_
    refine wp_block ?_
    refine wp_seq ?_
    refine region_seq ?_
    revert a
    refine sA (v := .pointer (some ⟨ab A0, ao A0 + j * 2, none⟩)) rfl (fun _ henv => rn_idxR (i := j) henv Tryd.underlying30 (ty_anvil_integer_Int.size) rfl rfl (by omega) rfl (show (pfRow fN FN 2 A0 n0 c0 es0).P _ from (hst.pat (k := 1) rfl)).1) ?_
    refine sA (v := .agg #[.bool (neg z), .slice A (zl z) c]) rfl (fun _ henv => rn_loadE (i := j) (e := (A, c, z)) henv ty_anvil_integer_Int rfl rfl fN_len (show (pfRow fN FN 2 A0 n0 c0 es0).P _ from (hst.pat (k := 1) rfl)).1 (by omega) he0 rfl) ?_
    intro a henv
    refine seq_step rfl (op_alloc (c := #[.bool (neg 0), .slice none (zl 0) 0]) henv hst rfl zero_anvil_integer_Int zcells ?_)
    clear henv hst a; intro a w4 g3 henv hst
    refine seq_step rfl (op_store (k := 0) (c' := #[.bool (neg z), .slice A (zl z) c]) henv hst (ty_anvil_integer_Int.size) rfl rfl rfl rfl (by simp) rfl rfl ?_)
    clear henv hst a; intro a w5 henv hst
    refine wpList_nil ?_
    refine th_n ?_
    refine region_seq ?_
    revert a
    refine mA rfl rfl ?_
    refine sA (v := .agg #[.bool (neg z), .slice A (zl z) c]) rfl (fun _ henv => rn_load0 henv ty_anvil_integer_Int rfl (hst.oat (k := 0) rfl) rfl) ?_
    intro a henv
    refine seq_step rfl (op_call henv rfl Tryd.call72 rfl (text_z (z := z) (show ZIn _ A c z from hst.pat (k := 0) rfl) (by omega)) ?_)
    rintro e w6 ⟨rfl, hb⟩
    refine ⟨_, rfl, ?_⟩
    clear henv a; intro a henv
    replace hst := hst.call hb
    clear hb
    refine seq_step rfl (op_buildSlice (z := 1) (pv := #[(0, .string ⟨(textZ z).toArray⟩)]) (c := #[.string ⟨(textZ z).toArray⟩]) henv hst rfl Tryd.underlying159 (ty_string.size) zero_string (by decide) (by decide) rfl (by kernel_rfl) ?_)
    clear henv hst a; intro a w8 g7 henv hst
    refine seq_step rfl (op_appendS (k := 2) (j := 0) henv hst rfl Tryd.underlying159 inf_string rfl rfl rfl rfl rfl rfl rfl rfl rfl rfl rfl (by unfold maxLen; omega) (by omega) ?_)
    clear henv hst a; intro a w11 g9 c10 henv hst
    rw [show fl fS os ++ (#[.string ⟨(textZ z).toArray⟩] : Array Value).toList = fl fS (os ++ [(textZ z)]) from fl_snoc (f := fS) os (textZ z)] at hst
    refine sv (v := .slice (some ⟨g9, 0, none⟩) (j + 1) c10) henv rfl (rn_assign henv rfl) ?_
    clear henv a; intro a henv
    refine wpList_nil ?_
    refine bl_n (th_n ?_)
    refine region_seq ?_
    revert a
    refine sA (v := .int .i64 (j + 1 : Nat)) rfl (fun _ henv => rn_add henv rfl rfl (by rw [IntWalk.i64_in _ (by omega)]; omega)) ?_
    refine mA rfl rfl ?_
    intro a henv
    refine wpList_nil ?_
    exact th_n ⟨_, (by omega), ⟨j + 1, (some ⟨g9, 0, none⟩), c10, (os ++ [(textZ z)]), rfl, henv.sub ⟨rfl, rfl, rfl, rfl, trivial⟩, hst.pick [2] [1] (by decide), (by omega), (step_txt ho he0)⟩⟩
  · obtain rfl : j = n0 := by have := of_decide_eq_false hc2; omega
    refine wp_exit ?_
    refine th_x (th_x (bl_x (th_n ?_)))
    refine wp_seq ?_
    refine region_seq ?_
    refine sv (v := .slice B j d) henv rfl (rn_move henv rfl) ?_
    clear henv a; intro a henv
    have hol : os.length = j := by rw [ho, List.length_map, List.length_take, List.length_map]; omega
    have hob : ∀ s ∈ os, s.length ≤ 1000000 := by rw [ho]; exact txt_bd hz
    have hjl := jn_len hob
    replace hst := (hst.addT0s FTx (fun _ => rfl) os).giveRow (k := 0) (j := 0) rfl rfl hol
    refine seq_step rfl (op_call henv rfl Tryd.call114 rfl (str_join (hst.pat (k := 0) rfl) hob (by omega)) ?_)
    rintro e w12 ⟨rfl, hb⟩
    refine ⟨_, rfl, ?_⟩
    clear henv a; intro a henv
    replace hst := hst.call hb
    clear hb
    revert a
    refine sA (v := .string ⟨(([91]) ++ (jn os)).toArray⟩) rfl (fun _ henv => rn_catS (s := [91]) (t := (jn os)) henv rfl rfl (by simp only [List.length_append, List.length_cons, List.length_nil]; omega)) ?_
    refine sA (v := .string ⟨((([91]) ++ (jn os)) ++ ([93])).toArray⟩) rfl (fun _ henv => rn_catS (s := (([91]) ++ (jn os))) (t := [93]) henv rfl rfl (by simp only [List.length_append, List.length_cons, List.length_nil]; omega)) ?_
    refine aA rfl rfl ?_
    intro a henv
    refine wpList_nil ?_
    refine th_n ?_
    refine wp_ret ?_
    refine leave henv (res1 Tryd.results52 (RV.tmp henv rfl)) ?_
    exact ⟨by rw [ho, List.take_of_length_le (by rw [List.length_map]; omega)]; simp [textRow], hst.below⟩
end Go.Proofs.YtegglooojlheoaaDoor.W

/- row.Zero, Unit, IsZero; the laws' live; RowMakes. Printed by pv/gen_row2.py. No condition. -/
namespace Go.Proofs.YtegglooojlheoaaDoor.W
open Go.RowKit Anv Go.Lib
def allz (es : List NE) : Bool := es.all fun e => decide (zz e = 0)
theorem zb_of {es : List NE} {zs : List Int} {k : Nat} (h : es.map zz = zs) (hb : ∀ z ∈ zs, z.natAbs < 4294967296 ^ 1) : ZB (k + 1) es := fun e he => by
  have h1 := hb (zz e) (h ▸ List.mem_map_of_mem he)
  have h2 := nl_le_of_lt h1
  exact Nat.le_trans h2 (by omega)
theorem live_zs {a b : List NE} (h : a.map zz = [1, 2]) (k : b.map zz = [3, -4]) : List.zipWith (· + ·) (a.map zz) (b.map zz) = [4, -2] := by rw [h, k]; rfl
theorem zb_live {es : List NE} (h : es.map zz = [4, -2]) : ZB 90000 es := zb_of (k := 89999) h (by decide)
theorem live_text {a b c : List NE} (h : a.map zz = [1, 2]) (k : b.map zz = [3, -4]) (m : c.map zz = List.zipWith (· + ·) (a.map zz) (b.map zz)) : textRow (c.map zz) = [91, 52, 32, 45, 50, 93] := by
  rw [m, live_zs h k]
  decide +kernel
set_option maxRecDepth 100000 in
set_option maxHeartbeats 2000000 in
theorem row_live {w0 : World} :
    Calls Tryd.prog 16 #[] w0 fun e w' => e = .returned (.bool true) ∧ Below w0.heap.size w0 w' := by
  refine enter Tryd.func16 rfl Tryd.ntmps16 rfl ?_
  intro a henv hst
  refine wp_seq ?_
  refine region_seq ?_
  refine sv (v := .bool false) henv rfl (rn_assign henv rfl) ?_
  clear henv a; intro a henv
  refine wpList_nil ?_
  refine th_n ?_
  refine wp_seq ?_
  refine region_seq ?_
  refine seq_step rfl (op_buildSlice (z := 1) (pv := #[(0, .int .i64 1), (1, .int .i64 2)]) (c := #[.int .i64 1, .int .i64 2]) henv hst rfl Tryd.underlying59 (ty_int64.size) zero_int64 (by decide) (by decide) rfl (by kernel_rfl) ?_)
  clear henv hst a; intro a w2 g1 henv hst
  replace hst := hst.giveBk (f := fI) (F := FI) (k := 0) (n := 2) (es := [1, 2]) rfl rfl fI_len rfl (by decide) (esT_P (fun _ => rfl) _ _) (fun _ _ _ _ => esT_foot (fun _ => rfl))
  refine seq_step rfl (op_call henv rfl Tryd.call39 rfl (row_of (hst.pat (k := 0) rfl) (by intro x hx; simp at hx; omega) (by decide)) ?_)
  rintro e w8 ⟨_, rfl, ⟨A3, c4, es5, rfl, hr, hl6, hz7⟩, hb⟩
  refine ⟨_, rfl, ?_⟩
  clear henv a; intro a henv
  replace hst := hst.freshRd hb hr hl6 (ap_N hr.2.1 trivial)
  clear hr
  clear hb
  refine seq_step rfl (op_buildSlice (z := 1) (pv := #[(0, .int .i64 3), (1, .int .i64 (-4))]) (c := #[.int .i64 3, .int .i64 (-4)]) henv hst rfl Tryd.underlying59 (ty_int64.size) zero_int64 (by decide) (by decide) rfl (by kernel_rfl) ?_)
  clear henv hst a; intro a w10 g9 henv hst
  replace hst := hst.giveBk (f := fI) (F := FI) (k := 0) (n := 2) (es := [3, (-4)]) rfl rfl fI_len rfl (by decide) (esT_P (fun _ => rfl) _ _) (fun _ _ _ _ => esT_foot (fun _ => rfl))
  refine seq_step rfl (op_call henv rfl Tryd.call39 rfl (row_of (hst.pat (k := 0) rfl) (by intro x hx; simp at hx; omega) (by decide)) ?_)
  rintro e w16 ⟨_, rfl, ⟨A11, c12, es13, rfl, hr, hl14, hz15⟩, hb⟩
  refine ⟨_, rfl, ?_⟩
  clear henv a; intro a henv
  replace hst := hst.freshRd hb hr hl14 (ap_N hr.2.1 trivial)
  clear hr
  clear hb
  refine seq_step rfl (op_call henv rfl Tryd.call21 rfl (row_add (hst.pat (k := 3) rfl) (hst.pat (k := 0) rfl) (zb_of hz7 (by decide)) (zb_of hz15 (by decide)) (by decide)) ?_)
  rintro e w22 ⟨_, rfl, ⟨A17, c18, es19, rfl, hr, hl20, hz21⟩, hb⟩
  refine ⟨_, rfl, ?_⟩
  clear henv a; intro a henv
  replace hst := hst.freshRd hb hr hl20 (ap_N hr.2.1 trivial)
  clear hr
  clear hb
  revert a
  refine mA rfl rfl ?_
  refine sA (v := .slice A17 2 c18) rfl (fun _ henv => rn_extract henv rfl rfl) ?_
  refine sA (v := .int .i64 0) rfl (fun _ henv => rn_extract henv rfl rfl) ?_
  refine aA rfl rfl ?_
  refine aA rfl rfl ?_
  intro a henv
  refine wpList_nil ?_
  refine th_n ?_
  refine wp_seq ?_
  refine region_seq ?_
  revert a
  refine mA rfl rfl ?_
  refine sA (v := .bool true) rfl (fun _ henv => rn_bin henv rfl rfl rfl) ?_
  refine mA rfl rfl ?_
  refine gA (v := .slice A17 2 c18) rfl rfl rfl rfl (fun _ henv => rn_move henv rfl) ?_
  intro a henv
  refine seq_g rfl henv rfl rfl (op_call henv rfl Tryd.call52 rfl (row_text (hst.pat (k := 0) rfl) (zb_live (by rw [hz21]; exact live_zs hz7 hz15)) (by decide)) ?_)
  rintro e w23 ⟨rfl, hb⟩
  refine ⟨_, rfl, ?_⟩
  clear henv a; intro a henv
  replace hst := hst.call hb
  clear hb
  refine seq_g rfl henv rfl rfl (op_val (v := .bool (decide ((textRow (es19.map zz)) = [91, 52, 32, 45, 50, 93]))) henv rfl (rn_eqls (s := (textRow (es19.map zz))) (t := [91, 52, 32, 45, 50, 93]) henv rfl rfl) ?_)
  clear henv a; intro a henv
  rw [show (decide ((textRow (es19.map zz)) = [91, 52, 32, 45, 50, 93])) = true from decide_eq_true (live_text hz7 hz15 hz21)] at henv
  revert a
  refine sA (v := .bool true) rfl (fun _ henv => rn_pick henv rfl rfl) ?_
  refine aA rfl rfl ?_
  intro a henv
  refine wpList_nil ?_
  refine th_n ?_
  refine wp_ret ?_
  refine leave henv (res1 Tryd.results16 (RV.tmp henv rfl)) ?_
  exact ⟨rfl, hst.below⟩
end Go.Proofs.YtegglooojlheoaaDoor.W

/- The laws' long. Printed by pv/gen_row4.py. No condition. -/
namespace Go.Proofs.YtegglooojlheoaaDoor.W
open Go.RowKit Anv Go.Lib
abbrev VE := Option Addr × Nat × Nat × List UE
def fV (v : VE) : List Value := [.slice v.1 v.2.1 v.2.2.1]
def FV (v : VE) : PF := pfRow fU FU 2 v.1 v.2.1 v.2.2.1 v.2.2.2
theorem fV_len (v : VE) : (fV v).length = 1 := rfl
def tl (us : List UE) : Nat := (us.map fun e => e.2.2.1).sum
def tv (vs : List VE) : Nat := (vs.map fun v => v.2.1 + tl v.2.2.2).sum
theorem sum_step (l : List Nat) : ∀ (k : Nat) (x : Nat), l[k]? = some x → (l.take (k + 1)).sum = (l.take k).sum + x := by
  induction l with
  | nil => intro k x h; cases h
  | cons y l ih =>
    intro k x h
    cases k with
    | zero =>
      rw [List.getElem?_cons_zero] at h
      cases h
      simp
    | succ k =>
      rw [List.getElem?_cons_succ] at h
      rw [List.take_succ_cons, List.take_succ_cons, List.sum_cons, List.sum_cons, ih k x h]
      omega
theorem tl_step {us : List UE} {k : Nat} {e : UE} (h : us[k]? = some e) : tl (us.take (k + 1)) = tl (us.take k) + e.2.2.1 := by
  unfold tl
  rw [List.map_take, List.map_take]
  exact sum_step _ k _ (by rw [List.getElem?_map, h]; rfl)
theorem tv_step {vs : List VE} {k : Nat} {A : Option Addr} {n c : Nat} {us : List UE} (h : vs[k]? = some (A, n, c, us)) : tv (vs.take (k + 1)) = tv (vs.take k) + (n + tl us) := by
  unfold tv
  rw [List.map_take, List.map_take]
  exact sum_step _ k _ (by rw [List.getElem?_map, h]; rfl)
def vz (e : UE) : Int := sg e.1 (val 4294967296 e.2.2.2.2)
theorem make_zv {b : Bool} {A : Option Addr} {n c : Nat} {xs : List Nat} {z : Int} {w : World} (h : U32 w A n c xs) (hz : sg b (val 4294967296 xs) = z) (hn : n ≤ 1000000) :
    Calls Tryd.prog 19 #[.bool b, .slice A n c] w fun e w' => ∃ v, e = .returned v ∧ ZAt w' v z ∧ Below w.heap.size w w' := by
  subst hz
  exact make_z ⟨xs, h, rfl⟩ (Nat.le_trans (nl_len ⟨xs, h, rfl⟩) hn)
theorem make_rv {b : Bool} {A : Option Addr} {n c : Nat} {xs : List Nat} {z : Int} {w : World} (h : U32 w A n c xs) (hz : sg b (val 4294967296 xs) = z) (hn : n ≤ 1000000) :
    Calls Tryd.prog 20 #[.bool b, .slice A n c] w fun e w' => ∃ v, e = .returned v ∧ RAt w' v z ∧ Below w.heap.size w w' := by
  subst hz
  exact make_r h hn
theorem same_rb4 {A B : Option Addr} {c d : Nat} {x y : Int} {w : World} (hx : RIn w A c x) (hy : RIn w B d y) :
    Calls Tryd.prog 107 #[.agg #[.bool (neg x), .slice A (dl x) c], .agg #[.bool (neg y), .slice B (dl y) d]] w fun e w' => e = .returned (.bool (decide (x = y))) ∧ Below w.heap.size w w' := by
  have h := same_r hx hy
  rw [show ((x - y).sign == 0) = decide (x = y) from ?_] at h
  · exact h
  · by_cases e : x = y
    · rw [e, Int.sub_self]; simp
    · rw [decide_eq_false e]
      exact beq_eq_false_iff_ne.2 fun h => e (by have := Int.sign_eq_zero_iff_zero.1 h; omega)
theorem step_num {us : List UE} {os : List NE} {j : Nat} {b : Bool} {A B : Option Addr} {q d c : Nat} {xs : List Nat} {z : Int} (ho : os.map zz = (us.map vz).take j) (he : us[j]? = some (b, A, q, d, xs)) (hz : sg b (val 4294967296 xs) = z) : (os ++ [(B, c, z)]).map zz = (us.map vz).take (j + 1) := by
  rw [List.map_append, ho, take_one (x := z) (by rw [List.getElem?_map, he, ← hz]; rfl)]
  rfl
set_option maxRecDepth 100000 in
set_option maxHeartbeats 2000000 in
theorem row_long {A0 : Option Addr} {n0 c0 : Nat} {es0 : List VE} {w0 : World} (h0 : (pfRow fV FV 1 A0 n0 c0 es0).P w0) (hS : ∀ v ∈ es0, v.2.1 ≤ 35184372088832 ∧ Sz v.2.2.2) :
    Calls Tryd.prog 17 #[.slice A0 n0 c0] w0 fun e w' => ∃ b, e = .returned (.bool b) ∧ (b = false → tv es0 ≤ 300) ∧ Below w0.heap.size w0 w' := by
  refine enter Tryd.func17 rfl Tryd.ntmps17 rfl ?_
  intro a henv hst
  have hlen0 := h0.2.1
  have hbig0 := Nat.le_trans h0.1.cap h0.1.big
  unfold maxLen at hbig0
  replace hst := hst.argRow h0
  clear h0
  refine wp_seq ?_
  refine region_seq ?_
  refine sv (v := .bool false) henv rfl (rn_assign henv rfl) ?_
  clear henv a; intro a henv
  refine wpList_nil ?_
  refine th_n ?_
  refine wp_seq ?_
  refine region_seq ?_
  refine sv (v := .int .i64 0) henv rfl (rn_assign henv rfl) ?_
  clear henv a; intro a henv
  refine wpList_nil ?_
  refine th_n ?_
  refine wp_seq ?_
  refine wp_seq ?_
  refine region_seq ?_
  refine sv (v := .int .i64 0) henv rfl (rn_assign henv rfl) ?_
  clear henv a; intro a henv
  refine wpList_nil ?_
  refine th_n ?_
  refine wp_block ?_
  refine wp_loop_ghost (fun mz a w => ∃ j : Nat, ∃ m : Nat, n0 - j = mz ∧ Env 43 a [(0, .slice A0 n0 c0), (2, .bool false), (3, .int .i64 (m : Nat)), (4, .int .i64 (j : Nat))] ∧ St w0 w [] [pfRow fV FV 1 A0 n0 c0 es0] ∧ j ≤ n0 ∧ m ≤ 300 ∧ m = tv (es0.take j)) _ ⟨0, 0, rfl, henv.sub ⟨rfl, rfl, rfl, rfl, trivial⟩, hst.pick [] [0] (by decide), (Nat.zero_le _), (by decide), rfl⟩ ?_
  clear henv hst a
  rintro mz a w1 ⟨j, m, rfl, henv, hst, hj, hm, hv⟩
  refine wp_seq ?_
  refine wp_seq ?_
  refine region_seq ?_
  revert a
  refine mA rfl rfl ?_
  refine mA rfl rfl ?_
  refine sA (v := .int .i64 (n0 : Nat)) rfl (fun _ henv => rn_len henv Tryd.underlying139 rfl) ?_
  refine sA (v := .bool (decide (((j : Nat) : Int) < ((n0 : Nat) : Int)))) rfl (fun _ henv => rn_bin henv rfl rfl rfl) ?_
  intro a henv
  refine wpList_nil ?_
  refine th_n ?_
  refine if_split henv rfl (fun hc2 => ?_) (fun hc2 => ?_)
  · have hlt : j < n0 := by have := of_decide_eq_true hc2; omega
    obtain ⟨⟨A, n, c, us⟩, he0⟩ : ∃ e, es0[j]? = some e := ⟨_, List.getElem?_eq_getElem (by omega)⟩
    obtain ⟨hn, hsz⟩ := hS _ (List.mem_of_getElem? he0)
    replace hn : n ≤ 35184372088832 := hn
    replace hsz : Sz us := hsz
    replace hst := hst.elem (k := 0) rfl he0
    replace hst : St w0 _ [] [pfRow fU FU 2 A n c us, pfRow fV FV 1 A0 n0 c0 es0] := hst
    have hlu : us.length = n := (hst.pat (k := 0) rfl).2.1
    refine wp_skip ?_
    refine th_n ?_
    refine wp_seq ?_
    refine wp_block ?_
    refine wp_seq ?_
    refine region_seq ?_
    revert a
    refine mA rfl rfl ?_
    refine mA rfl rfl ?_
    refine mA rfl rfl ?_
    refine sA (v := .pointer (some ⟨ab A0, ao A0 + j * 1, none⟩)) rfl (fun _ henv => rn_idxR (i := j) henv Tryd.underlying139 (ty__anvillaw04_Num.size) rfl rfl (by omega) rfl (show (pfRow fV FV 1 A0 n0 c0 es0).P _ from (hst.pat (k := 1) rfl)).1) ?_
    refine sA (v := .slice A n c) rfl (fun _ henv => rn_loadE1 (i := j) (j := 0) (e := (A, n, c, us)) henv ty__anvillaw04_Num rfl rfl fV_len (by decide) (show (pfRow fV FV 1 A0 n0 c0 es0).P _ from (hst.pat (k := 1) rfl)).1 (by omega) he0 rfl) ?_
    refine sA (v := .int .i64 (n : Nat)) rfl (fun _ henv => rn_len henv Tryd.underlying22 rfl) ?_
    refine sA (v := .int .i64 (m + n : Nat)) rfl (fun _ henv => rn_add henv rfl rfl (by rw [IntWalk.i64_in _ (by omega)]; omega)) ?_
    refine aA rfl rfl ?_
    intro a henv
    refine wpList_nil ?_
    refine th_n ?_
    refine wp_seq ?_
    refine wp_seq ?_
    refine region_seq ?_
    revert a
    refine mA rfl rfl ?_
    refine sA (v := .bool (decide (((m + n : Nat) : Int) > (300 : Int)))) rfl (fun _ henv => rn_bin henv rfl rfl rfl) ?_
    intro a henv
    refine wpList_nil ?_
    refine th_n ?_
    refine if_split henv rfl (fun hc3 => ?_) (fun hc3 => ?_)
    · have hcmp := of_decide_eq_true hc3
      refine wp_seq ?_
      refine region_seq ?_
      refine sv (v := .bool true) henv rfl (rn_assign henv rfl) ?_
      clear henv a; intro a henv
      refine wpList_nil ?_
      refine th_n ?_
      refine wp_ret ?_
      refine th_r (bl_r (th_r (th_r (bl_r (th_r ?_)))))
      refine leave henv (res1 Tryd.results17 (RV.tmp henv rfl)) ?_
      exact ⟨true, rfl, (fun h => by cases h), hst.below⟩
    · have hcmp := of_decide_eq_false hc3
      refine wp_skip ?_
      refine th_n ?_
      refine wp_seq ?_
      refine region_seq ?_
      refine sv (v := .int .i64 0) henv rfl (rn_assign henv rfl) ?_
      clear henv a; intro a henv
      refine wpList_nil ?_
      refine th_n ?_
      refine wp_block ?_
      refine wp_loop_ghost (fun mz a w => ∃ k : Nat, ∃ m2 : Nat, n - k = mz ∧ Env 43 a [(0, .slice A0 n0 c0), (2, .bool false), (3, .int .i64 (m2 : Nat)), (4, .int .i64 (j : Nat)), (5, .int .i64 (k : Nat))] ∧ St w0 w [] [pfRow fU FU 2 A n c us, pfRow fV FV 1 A0 n0 c0 es0] ∧ k ≤ n ∧ m2 ≤ 300 ∧ m2 = m + n + tl (us.take k)) _ ⟨0, (m + n), rfl, henv.sub ⟨rfl, rfl, rfl, rfl, rfl, trivial⟩, hst.pick [] [0, 1] (by decide), (Nat.zero_le _), (by omega), rfl⟩ ?_
      clear henv hst a
      rintro mz a w4 ⟨k, m2, rfl, henv, hst, hk, hm2, hv2⟩
      refine wp_seq ?_
      refine wp_seq ?_
      refine region_seq ?_
      revert a
      refine mA rfl rfl ?_
      refine mA rfl rfl ?_
      refine mA rfl rfl ?_
      refine sA (v := .pointer (some ⟨ab A0, ao A0 + j * 1, none⟩)) rfl (fun _ henv => rn_idxR (i := j) henv Tryd.underlying139 (ty__anvillaw04_Num.size) rfl rfl (by omega) rfl (show (pfRow fV FV 1 A0 n0 c0 es0).P _ from (hst.pat (k := 1) rfl)).1) ?_
      refine sA (v := .slice A n c) rfl (fun _ henv => rn_loadE1 (i := j) (j := 0) (e := (A, n, c, us)) henv ty__anvillaw04_Num rfl rfl fV_len (by decide) (show (pfRow fV FV 1 A0 n0 c0 es0).P _ from (hst.pat (k := 1) rfl)).1 (by omega) he0 rfl) ?_
      refine sA (v := .int .i64 (n : Nat)) rfl (fun _ henv => rn_len henv Tryd.underlying22 rfl) ?_
      refine sA (v := .bool (decide (((k : Nat) : Int) < ((n : Nat) : Int)))) rfl (fun _ henv => rn_bin henv rfl rfl rfl) ?_
      intro a henv
      refine wpList_nil ?_
      refine th_n ?_
      refine if_split henv rfl (fun hc5 => ?_) (fun hc5 => ?_)
      · have hlt2 : k < n := by have := of_decide_eq_true hc5; omega
        obtain ⟨⟨b, B, q, d, xs⟩, he1⟩ : ∃ e, us[k]? = some e := ⟨_, List.getElem?_eq_getElem (by omega)⟩
        have hq : q ≤ 35184372088832 := hsz.at he1
        refine wp_skip ?_
        refine th_n ?_
        refine wp_seq ?_
        refine wp_block ?_
        refine wp_seq ?_
        refine region_seq ?_
        revert a
        refine mA rfl rfl ?_
        refine mA rfl rfl ?_
        refine mA rfl rfl ?_
        refine sA (v := .pointer (some ⟨ab A0, ao A0 + j * 1, none⟩)) rfl (fun _ henv => rn_idxR (i := j) henv Tryd.underlying139 (ty__anvillaw04_Num.size) rfl rfl (by omega) rfl (show (pfRow fV FV 1 A0 n0 c0 es0).P _ from (hst.pat (k := 1) rfl)).1) ?_
        refine sA (v := .slice A n c) rfl (fun _ henv => rn_loadE1 (i := j) (j := 0) (e := (A, n, c, us)) henv ty__anvillaw04_Num rfl rfl fV_len (by decide) (show (pfRow fV FV 1 A0 n0 c0 es0).P _ from (hst.pat (k := 1) rfl)).1 (by omega) he0 rfl) ?_
        refine mA rfl rfl ?_
        refine sA (v := .pointer (some ⟨ab A, ao A + k * 2, none⟩)) rfl (fun _ henv => rn_idxR (i := k) henv Tryd.underlying22 (ty_anvil_anvillaw04_Num.size) rfl rfl (by omega) rfl (show (pfRow fU FU 2 A n c us).P _ from (hst.pat (k := 0) rfl)).1) ?_
        refine sA (v := .pointer (some ⟨ab A, ao A + k * 2 + 1, none⟩)) rfl (fun _ henv => rn_fieldAddr henv fd_anvil_anvillaw04_Num_1 (ty__uint32.size) (by decide) rfl) ?_
        refine sA (v := .slice B q d) rfl (fun _ henv => rn_loadE1 (i := k) (j := 1) (e := (b, B, q, d, xs)) henv ty__uint32 rfl rfl fU_len (by decide) (show (pfRow fU FU 2 A n c us).P _ from (hst.pat (k := 0) rfl)).1 (by omega) he1 rfl) ?_
        refine sA (v := .int .i64 (q : Nat)) rfl (fun _ henv => rn_len henv Tryd.underlying23 rfl) ?_
        refine sA (v := .int .i64 (m2 + q : Nat)) rfl (fun _ henv => rn_add henv rfl rfl (by rw [IntWalk.i64_in _ (by omega)]; omega)) ?_
        refine aA rfl rfl ?_
        intro a henv
        refine wpList_nil ?_
        refine th_n ?_
        refine wp_seq ?_
        refine region_seq ?_
        revert a
        refine mA rfl rfl ?_
        refine sA (v := .bool (decide (((m2 + q : Nat) : Int) > (300 : Int)))) rfl (fun _ henv => rn_bin henv rfl rfl rfl) ?_
        intro a henv
        refine wpList_nil ?_
        refine th_n ?_
        refine if_split henv rfl (fun hc6 => ?_) (fun hc6 => ?_)
        · have hcmp := of_decide_eq_true hc6
          refine wp_seq ?_
          refine region_seq ?_
          refine sv (v := .bool true) henv rfl (rn_assign henv rfl) ?_
          clear henv a; intro a henv
          refine wpList_nil ?_
          refine th_n ?_
          refine wp_ret ?_
          refine bl_r (th_r (th_r (bl_r (bl_r (th_r (th_r (bl_r (th_r ?_))))))))
          refine leave henv (res1 Tryd.results17 (RV.tmp henv rfl)) ?_
          exact ⟨true, rfl, (fun h => by cases h), hst.below⟩
        · have hcmp := of_decide_eq_false hc6
          refine wp_skip ?_
          refine bl_n (th_n ?_)
          refine region_seq ?_
          revert a
          refine mA rfl rfl ?_
          refine sA (v := .int .i64 (k + 1 : Nat)) rfl (fun _ henv => rn_add henv rfl rfl (by rw [IntWalk.i64_in _ (by omega)]; omega)) ?_
          refine aA rfl rfl ?_
          intro a henv
          refine wpList_nil ?_
          exact th_n ⟨_, (by omega), ⟨k + 1, (m2 + q), rfl, henv.sub ⟨rfl, rfl, rfl, rfl, rfl, trivial⟩, hst.pick [] [0, 1] (by decide), (by omega), (by omega), (by rw [tl_step he1]; show _ = m + n + (tl (us.take k) + q); omega)⟩⟩
      · have hkn : k = n := by have := of_decide_eq_false hc5; omega
        have hlast : m2 = m + n + tl us := by rw [hv2, hkn, ← hlu, List.take_length]
        refine wp_exit ?_
        refine th_x (th_x (bl_x (bl_n (th_n ?_))))
        refine region_seq ?_
        revert a
        refine mA rfl rfl ?_
        refine sA (v := .int .i64 (j + 1 : Nat)) rfl (fun _ henv => rn_add henv rfl rfl (by rw [IntWalk.i64_in _ (by omega)]; omega)) ?_
        refine aA rfl rfl ?_
        intro a henv
        refine wpList_nil ?_
        exact th_n ⟨_, (by omega), ⟨j + 1, m2, rfl, henv.sub ⟨rfl, rfl, rfl, rfl, trivial⟩, hst.pick [] [1] (by decide), (by omega), (by omega), (by rw [tv_step he0]; omega)⟩⟩
  · have hjn : j = n0 := by have := of_decide_eq_false hc2; omega
    refine wp_exit ?_
    refine th_x (th_x (bl_x (th_n ?_)))
    refine wp_seq ?_
    refine region_seq ?_
    refine sv (v := .bool false) henv rfl (rn_assign henv rfl) ?_
    clear henv a; intro a henv
    refine wpList_nil ?_
    refine th_n ?_
    refine wp_ret ?_
    refine leave henv (res1 Tryd.results17 (RV.tmp henv rfl)) ?_
    exact ⟨false, rfl, (fun _ => by rw [hjn, ← hlen0, List.take_length] at hv; omega), hst.below⟩
set_option maxRecDepth 100000 in
set_option maxHeartbeats 2000000 in
theorem row_of2 {A0 : Option Addr} {n0 c0 : Nat} {es0 : List UE} {w0 : World} (h0 : (pfRow fU FU 2 A0 n0 c0 es0).P w0) (hsm : ∀ e ∈ es0, e.2.2.1 ≤ 1000000) (hn : n0 ≤ 1000000) :
    Calls Tryd.prog 18 #[.slice A0 n0 c0] w0 fun e w' => ∃ v u, e = .returned (.tuple #[v, u]) ∧ ZRow w0.heap.size w' v n0 (es0.map vz) ∧ MRow w0.heap.size w' u n0 (es0.map vz) ∧ Below w0.heap.size w0 w' := by
  refine enter Tryd.func18 rfl Tryd.ntmps18 rfl ?_
  intro a henv hst
  have hlen0 := h0.2.1
  have hbig0 := Nat.le_trans h0.1.cap h0.1.big
  unfold maxLen at hbig0
  replace hst := hst.argRow h0
  clear h0
  refine wp_seq ?_
  refine region_seq ?_
  revert a
  refine aA rfl rfl ?_
  refine aA rfl rfl ?_
  intro a henv
  refine wpList_nil ?_
  refine th_n ?_
  refine wp_seq ?_
  refine region_seq ?_
  refine sv (v := .slice none 0 0) henv rfl (rn_assign henv rfl) ?_
  clear henv a; intro a henv
  refine wpList_nil ?_
  refine th_n ?_
  refine wp_seq ?_
  refine region_seq ?_
  refine sv (v := .slice none 0 0) henv rfl (rn_assign henv rfl) ?_
  clear henv a; intro a henv
  refine wpList_nil ?_
  refine th_n ?_
  refine wp_seq ?_
  refine wp_seq ?_
  refine region_seq ?_
  refine sv (v := .int .i64 0) henv rfl (rn_assign henv rfl) ?_
  clear henv a; intro a henv
  refine wpList_nil ?_
  refine th_n ?_
  refine wp_block ?_
  replace hst := (hst.addRowS notU 36 2).nilEs FN
  replace hst : St w0 _ [rowS notU 36 2 none 0 0 (fl fN ([]))] [pfEs FN ([]), pfRow fU FU 2 A0 n0 c0 es0] := hst
  replace hst := (hst.addRowS notU 39 2).nilEs FM
  replace hst : St w0 _ [rowS notU 39 2 none 0 0 (fl fM ([])), rowS notU 36 2 none 0 0 (fl fN ([]))] [pfEs FM ([]), pfEs FN ([]), pfRow fU FU 2 A0 n0 c0 es0] := hst
  refine wp_loop_ghost (fun mz a w => ∃ j : Nat, ∃ B1 : Option Addr, ∃ d1 : Nat, ∃ os : List NE, ∃ B2 : Option Addr, ∃ d2 : Nat, ∃ ps : List NE, n0 - j = mz ∧ Env 43 a [(0, .slice A0 n0 c0), (2, .slice none 0 0), (3, .slice none 0 0), (4, .slice B1 j d1), (5, .slice B2 j d2), (6, .int .i64 (j : Nat))] ∧ St w0 w [rowS notU 39 2 B2 j d2 (fl fM ps), rowS notU 36 2 B1 j d1 (fl fN os)] [pfEs FM ps, pfEs FN os, pfRow fU FU 2 A0 n0 c0 es0] ∧ j ≤ n0 ∧ os.map zz = (es0.map vz).take j ∧ ps.map zz = (es0.map vz).take j) _ ⟨0, none, 0, [], none, 0, [], rfl, henv.sub ⟨rfl, rfl, rfl, rfl, rfl, rfl, trivial⟩, hst.pick [0, 1] [0, 1, 2] (by decide), (Nat.zero_le _), rfl, rfl⟩ ?_
  clear henv hst a
  rintro mz a w1 ⟨j, B1, d1, os, B2, d2, ps, rfl, henv, hst, hj, ho, hp⟩
  refine wp_seq ?_
  refine wp_seq ?_
  refine region_seq ?_
  revert a
  refine mA rfl rfl ?_
  refine mA rfl rfl ?_
  refine sA (v := .int .i64 (n0 : Nat)) rfl (fun _ henv => rn_len henv Tryd.underlying22 rfl) ?_
  refine sA (v := .bool (decide (((j : Nat) : Int) < ((n0 : Nat) : Int)))) rfl (fun _ henv => rn_bin henv rfl rfl rfl) ?_
  intro a henv
  refine wpList_nil ?_
  refine th_n ?_
  refine if_split henv rfl (fun hc2 => ?_) (fun hc2 => ?_)
  · have hlt : j < n0 := by have := of_decide_eq_true hc2; omega
    obtain ⟨⟨b, B, q, d, xs⟩, he0⟩ : ∃ e, es0[j]? = some e := ⟨_, List.getElem?_eq_getElem (by omega)⟩
    have hq1 : q ≤ 1000000 := hsm _ (List.mem_of_getElem? he0)
    obtain ⟨z, hzv⟩ : ∃ z, sg b (val 4294967296 xs) = z := ⟨_, rfl⟩
    replace hst := hst.elem (k := 2) rfl he0
    replace hst : St w0 _ [rowS notU 39 2 B2 j d2 (fl fM ps), rowS notU 36 2 B1 j d1 (fl fN os)] [pfU B q d xs, pfEs FM ps, pfEs FN os, pfRow fU FU 2 A0 n0 c0 es0] := hst
    refine wp_skip ?_
    refine th_n ?_
    refine wp_seq ?_
    refine wp_block ?_
    refine wp_seq ?_
    refine region_any (n := 15) (Sk [rowS notU 39 2 B2 j d2 (fl fM ps)] [pfU B q d xs, pfEs FM ps, pfEs FN os, pfRow fU FU 2 A0 n0 c0 es0] [] []) mixed rfl henv hst ?_
    clear henv hst; intro w3 henv hst
    refine tM (i := 0) [13, 14] rfl (by kernel_rfl) (fun _ _ _ h => h) henv rfl rfl ?_
    clear henv a; intro a henv
    refine tM (i := 1) [3, 4, 5, 11, 12, 13, 14] rfl (by kernel_rfl) (fun _ _ _ h => h) henv rfl rfl ?_
    clear henv a; intro a henv
    refine tM (i := 2) [3, 4, 5, 11, 12, 13, 14] rfl (by kernel_rfl) (fun _ _ _ h => h) henv rfl rfl ?_
    clear henv a; intro a henv
    refine sAny_take (i := 3) [4, 5, 11, 12, 13, 14] (fun w' => (pfRow fU FU 2 A0 n0 c0 es0).P w') (v := .pointer (some ⟨ab A0, ao A0 + j * 2, none⟩)) rfl (by kernel_rfl) (fun _ _ _ h => h) (fun _ _ _ hS => hS.1.pat (k := 3) rfl) henv rfl (hst.pat (k := 3) rfl) (fun w' hg => rn_idxR (i := j) henv Tryd.underlying22 (ty_anvil_anvillaw04_Num.size) rfl rfl (by omega) rfl (show (pfRow fU FU 2 A0 n0 c0 es0).P _ from hg).1) ?_
    clear henv a; intro a henv
    refine tA (i := 4) [5, 11, 12, 13, 14] (v := .pointer (some ⟨ab A0, ao A0 + j * 2 + 0, none⟩)) rfl (by kernel_rfl) (fun _ _ _ h => h) henv rfl (fun _ => rn_fieldAddr henv fd_anvil_anvillaw04_Num_0 (ty_bool.size) (by decide) rfl) ?_
    clear henv a; intro a henv
    refine sAny_take (i := 5) [11, 12, 13, 14] (fun w' => (pfRow fU FU 2 A0 n0 c0 es0).P w') (v := .bool b) rfl (by kernel_rfl) (fun _ _ _ h => h) (fun _ _ _ hS => hS.1.pat (k := 3) rfl) henv rfl (hst.pat (k := 3) rfl) (fun w' hg => rn_loadE1 (i := j) (j := 0) (e := (b, B, q, d, xs)) henv ty_bool rfl rfl fU_len (by decide) (show (pfRow fU FU 2 A0 n0 c0 es0).P _ from hg).1 (by omega) he0 rfl) ?_
    clear henv a; intro a henv
    refine tM (i := 6) (rg 8 7) rfl (by kernel_rfl) (fun _ _ _ h => h) henv rfl rfl ?_
    clear henv a; intro a henv
    refine tM (i := 7) (rg 8 7) rfl (by kernel_rfl) (fun _ _ _ h => h) henv rfl rfl ?_
    clear henv a; intro a henv
    refine sAny_take (i := 8) [9, 10, 11, 12, 13, 14] (fun w' => (pfRow fU FU 2 A0 n0 c0 es0).P w') (v := .pointer (some ⟨ab A0, ao A0 + j * 2, none⟩)) rfl (by kernel_rfl) (fun _ _ _ h => h) (fun _ _ _ hS => hS.1.pat (k := 3) rfl) henv rfl (hst.pat (k := 3) rfl) (fun w' hg => rn_idxR (i := j) henv Tryd.underlying22 (ty_anvil_anvillaw04_Num.size) rfl rfl (by omega) rfl (show (pfRow fU FU 2 A0 n0 c0 es0).P _ from hg).1) ?_
    clear henv a; intro a henv
    refine tA (i := 9) (rg 10 5) (v := .pointer (some ⟨ab A0, ao A0 + j * 2 + 1, none⟩)) rfl (by kernel_rfl) (fun _ _ _ h => h) henv rfl (fun _ => rn_fieldAddr henv fd_anvil_anvillaw04_Num_1 (ty__uint32.size) (by decide) rfl) ?_
    clear henv a; intro a henv
    refine sAny_take (i := 10) [11, 12, 13, 14] (fun w' => (pfRow fU FU 2 A0 n0 c0 es0).P w') (v := .slice B q d) rfl (by kernel_rfl) (fun _ _ _ h => h) (fun _ _ _ hS => hS.1.pat (k := 3) rfl) henv rfl (hst.pat (k := 3) rfl) (fun w' hg => rn_loadE1 (i := j) (j := 1) (e := (b, B, q, d, xs)) henv ty__uint32 rfl rfl fU_len (by decide) (show (pfRow fU FU 2 A0 n0 c0 es0).P _ from hg).1 (by omega) he0 rfl) ?_
    clear henv a; intro a henv
    refine sAny_one (i := 11) (by kernel_rfl) rfl rfl (op_call henv rfl Tryd.call19 rfl (make_zv (show U32 _ B q d xs from hst.pat (k := 0) rfl) hzv hq1) ?_)
    rintro e w7 ⟨_, rfl, ⟨A4, c5, rfl, hz6⟩, hb⟩
    refine ⟨_, rfl, ?_⟩
    clear henv a; intro a henv
    replace hst := (hst.call hb).addZ hz6 ⟨nou_rowS, nou_rowS, trivial⟩
    clear hz6
    clear hb
    refine ⟨.inr ⟨hst.kn.pick [0] (rg 1 4), .inr (hst.kn.pick [] [])⟩, ?_⟩
    refine sAny_one (i := 12) (by kernel_rfl) rfl rfl (op_buildSlice (z := 2) (pv := #[(0, .agg #[.bool (neg z), .slice A4 (zl z) c5])]) (c := #[.bool (neg z), .slice A4 (zl z) c5]) henv hst rfl Tryd.underlying30 (ty_anvil_integer_Int.size) zero_anvil_integer_Int (by decide) (by decide) rfl (by kernel_rfl) ?_)
    clear henv hst a; intro a w9 g8 henv hst
    refine ⟨.inr ⟨hst.kn.pick [1] (rg 1 4), .inr (hst.kn.pick [] [])⟩, ?_⟩
    refine sAny_one (i := 13) (by kernel_rfl) rfl rfl (op_appendS (k := 2) (j := 0) henv hst rfl Tryd.underlying30 inf_anvil_integer_Int rfl rfl rfl rfl rfl rfl rfl rfl rfl rfl rfl (by unfold maxLen; omega) (by omega) ?_)
    clear henv hst a; intro a w12 g10 c11 henv hst
    rw [show fl fN os ++ (#[.bool (neg z), .slice A4 (zl z) c5] : Array Value).toList = fl fN (os ++ [(A4, c5, z)]) from fl_snoc (f := fN) os (A4, c5, z)] at hst
    replace hst := hst.snocEs (e := (A4, c5, z)) (i := 3) (j := 0) rfl rfl
    refine ⟨.inr ⟨hst.kn.pick [1] (rg 2 4), .inr (hst.kn.pick [] [])⟩, ?_⟩
    refine tA (i := 14) [] (v := .slice (some ⟨g10, 0, none⟩) (j + 1) c11) rfl (by kernel_rfl) (fun _ _ _ h => h) henv rfl (fun _ => rn_assign henv rfl) ?_
    clear henv a; intro a henv
    refine sAny_done (by kernel_rfl) ?_ _
    refine th_n ?_
    refine region_any (n := 15) (Sk [bk g8 #[.bool (neg z), .slice A4 (zl z) c5] 36, rowS notU 36 2 (some ⟨g10, 0, none⟩) (j + 1) c11 (fl fN (os ++ [(A4, c5, z)]))] [pfEs FN (os ++ [(A4, c5, z)]), pfZ A4 c5 z, pfU B q d xs, pfEs FM ps, pfEs FN os, pfRow fU FU 2 A0 n0 c0 es0] [] []) mixed rfl henv hst ?_
    clear henv hst; intro w13 henv hst
    refine tM (i := 0) [13, 14] rfl (by kernel_rfl) (fun _ _ _ h => h) henv rfl rfl ?_
    clear henv a; intro a henv
    refine tM (i := 1) [3, 4, 5, 11, 12, 13, 14] rfl (by kernel_rfl) (fun _ _ _ h => h) henv rfl rfl ?_
    clear henv a; intro a henv
    refine tM (i := 2) [3, 4, 5, 11, 12, 13, 14] rfl (by kernel_rfl) (fun _ _ _ h => h) henv rfl rfl ?_
    clear henv a; intro a henv
    refine sAny_take (i := 3) [4, 5, 11, 12, 13, 14] (fun w' => (pfRow fU FU 2 A0 n0 c0 es0).P w') (v := .pointer (some ⟨ab A0, ao A0 + j * 2, none⟩)) rfl (by kernel_rfl) (fun _ _ _ h => h) (fun _ _ _ hS => hS.1.pat (k := 5) rfl) henv rfl (hst.pat (k := 5) rfl) (fun w' hg => rn_idxR (i := j) henv Tryd.underlying22 (ty_anvil_anvillaw04_Num.size) rfl rfl (by omega) rfl (show (pfRow fU FU 2 A0 n0 c0 es0).P _ from hg).1) ?_
    clear henv a; intro a henv
    refine tA (i := 4) [5, 11, 12, 13, 14] (v := .pointer (some ⟨ab A0, ao A0 + j * 2 + 0, none⟩)) rfl (by kernel_rfl) (fun _ _ _ h => h) henv rfl (fun _ => rn_fieldAddr henv fd_anvil_anvillaw04_Num_0 (ty_bool.size) (by decide) rfl) ?_
    clear henv a; intro a henv
    refine sAny_take (i := 5) [11, 12, 13, 14] (fun w' => (pfRow fU FU 2 A0 n0 c0 es0).P w') (v := .bool b) rfl (by kernel_rfl) (fun _ _ _ h => h) (fun _ _ _ hS => hS.1.pat (k := 5) rfl) henv rfl (hst.pat (k := 5) rfl) (fun w' hg => rn_loadE1 (i := j) (j := 0) (e := (b, B, q, d, xs)) henv ty_bool rfl rfl fU_len (by decide) (show (pfRow fU FU 2 A0 n0 c0 es0).P _ from hg).1 (by omega) he0 rfl) ?_
    clear henv a; intro a henv
    refine tM (i := 6) (rg 8 7) rfl (by kernel_rfl) (fun _ _ _ h => h) henv rfl rfl ?_
    clear henv a; intro a henv
    refine tM (i := 7) (rg 8 7) rfl (by kernel_rfl) (fun _ _ _ h => h) henv rfl rfl ?_
    clear henv a; intro a henv
    refine sAny_take (i := 8) [9, 10, 11, 12, 13, 14] (fun w' => (pfRow fU FU 2 A0 n0 c0 es0).P w') (v := .pointer (some ⟨ab A0, ao A0 + j * 2, none⟩)) rfl (by kernel_rfl) (fun _ _ _ h => h) (fun _ _ _ hS => hS.1.pat (k := 5) rfl) henv rfl (hst.pat (k := 5) rfl) (fun w' hg => rn_idxR (i := j) henv Tryd.underlying22 (ty_anvil_anvillaw04_Num.size) rfl rfl (by omega) rfl (show (pfRow fU FU 2 A0 n0 c0 es0).P _ from hg).1) ?_
    clear henv a; intro a henv
    refine tA (i := 9) (rg 10 5) (v := .pointer (some ⟨ab A0, ao A0 + j * 2 + 1, none⟩)) rfl (by kernel_rfl) (fun _ _ _ h => h) henv rfl (fun _ => rn_fieldAddr henv fd_anvil_anvillaw04_Num_1 (ty__uint32.size) (by decide) rfl) ?_
    clear henv a; intro a henv
    refine sAny_take (i := 10) [11, 12, 13, 14] (fun w' => (pfRow fU FU 2 A0 n0 c0 es0).P w') (v := .slice B q d) rfl (by kernel_rfl) (fun _ _ _ h => h) (fun _ _ _ hS => hS.1.pat (k := 5) rfl) henv rfl (hst.pat (k := 5) rfl) (fun w' hg => rn_loadE1 (i := j) (j := 1) (e := (b, B, q, d, xs)) henv ty__uint32 rfl rfl fU_len (by decide) (show (pfRow fU FU 2 A0 n0 c0 es0).P _ from hg).1 (by omega) he0 rfl) ?_
    clear henv a; intro a henv
    refine sAny_one (i := 11) (by kernel_rfl) rfl rfl (op_call henv rfl Tryd.call20 rfl (make_rv (show U32 _ B q d xs from hst.pat (k := 2) rfl) hzv hq1) ?_)
    rintro e w17 ⟨_, rfl, ⟨A14, c15, rfl, hz16⟩, hb⟩
    refine ⟨_, rfl, ?_⟩
    clear henv a; intro a henv
    replace hst := (hst.call hb).addR hz16 ⟨nou_bk rfl, nou_rowS, nou_rowS, trivial⟩
    clear hz16
    clear hb
    refine ⟨.inr ⟨hst.kn.pick [0, 2] (rg 1 6), .inr (hst.kn.pick [] [])⟩, ?_⟩
    refine sAny_one (i := 12) (by kernel_rfl) rfl rfl (op_buildSlice (z := 2) (pv := #[(0, .agg #[.bool (neg z), .slice A14 (dl z) c15])]) (c := #[.bool (neg z), .slice A14 (dl z) c15]) henv hst rfl Tryd.underlying32 (ty_anvil_anvilref02_Int.size) zero_anvil_anvilref02_Int (by decide) (by decide) rfl (by kernel_rfl) ?_)
    clear henv hst a; intro a w19 g18 henv hst
    refine ⟨.inr ⟨hst.kn.pick [1, 3] (rg 1 6), .inr (hst.kn.pick [] [])⟩, ?_⟩
    refine sAny_one (i := 13) (by kernel_rfl) rfl rfl (op_appendS (k := 2) (j := 0) henv hst rfl Tryd.underlying32 inf_anvil_anvilref02_Int rfl rfl rfl rfl rfl rfl rfl rfl rfl rfl rfl (by unfold maxLen; omega) (by omega) ?_)
    clear henv hst a; intro a w22 g20 c21 henv hst
    rw [show fl fM ps ++ (#[.bool (neg z), .slice A14 (dl z) c15] : Array Value).toList = fl fM (ps ++ [(A14, c15, z)]) from fl_snoc (f := fM) ps (A14, c15, z)] at hst
    replace hst := hst.snocEs (e := (A14, c15, z)) (i := 4) (j := 0) rfl rfl
    refine ⟨.inr ⟨hst.kn.pick [1, 3] (rg 2 6), .inr (hst.kn.pick [] [])⟩, ?_⟩
    refine tA (i := 14) [] (v := .slice (some ⟨g20, 0, none⟩) (j + 1) c21) rfl (by kernel_rfl) (fun _ _ _ h => h) henv rfl (fun _ => rn_assign henv rfl) ?_
    clear henv a; intro a henv
    refine sAny_done (by kernel_rfl) ?_ _
    refine bl_n (th_n ?_)
    refine region_seq ?_
    revert a
    refine mA rfl rfl ?_
    refine sA (v := .int .i64 (j + 1 : Nat)) rfl (fun _ henv => rn_add henv rfl rfl (by rw [IntWalk.i64_in _ (by omega)]; omega)) ?_
    refine aA rfl rfl ?_
    intro a henv
    refine wpList_nil ?_
    exact th_n ⟨_, (by omega), ⟨j + 1, (some ⟨g10, 0, none⟩), c11, (os ++ [(A4, c5, z)]), (some ⟨g20, 0, none⟩), c21, (ps ++ [(A14, c15, z)]), rfl, henv.sub ⟨rfl, rfl, rfl, rfl, rfl, rfl, trivial⟩, hst.pick [2, 3] [0, 2, 7] (by decide), (by omega), (step_num ho he0 hzv), (step_num hp he0 hzv)⟩⟩
  · have hjn : j = n0 := by have := of_decide_eq_false hc2; omega
    refine wp_exit ?_
    refine th_x (th_x (bl_x (th_n ?_)))
    refine wp_seq ?_
    refine region_seq ?_
    revert a
    refine mA rfl rfl ?_
    refine mA rfl rfl ?_
    refine aA rfl rfl ?_
    refine aA rfl rfl ?_
    intro a henv
    refine wpList_nil ?_
    refine th_n ?_
    refine wp_ret ?_
    refine leave henv (res2 Tryd.results18 (RV.tmp henv rfl) (RV.tmp henv rfl)) ?_
    have hfull : (es0.map vz).take j = es0.map vz := List.take_of_length_le (by rw [List.length_map]; omega)
    rw [hfull] at ho hp
    exact ⟨_, _, rfl, ⟨_, _, os, congrArg (fun k => Value.slice _ k _) hjn, (hjn ▸ hst.newRow (k := 1) (j := 1) rfl rfl), map_len ho (by rw [List.length_map]; omega), ho⟩, ⟨_, _, ps, congrArg (fun k => Value.slice _ k _) hjn, (hjn ▸ hst.newRow (k := 0) (j := 0) rfl rfl), map_len hp (by rw [List.length_map]; omega), hp⟩, hst.below⟩
set_option maxRecDepth 100000 in
set_option maxHeartbeats 2000000 in
theorem num_one {A B : Option Addr} {c d : Nat} {z : Int} {w0 : World} (hx : ZIn w0 A c z) (hy : RIn w0 B d z) (hn : zl z ≤ 100000) :
    Calls Tryd.prog 35 #[.agg #[.bool (neg z), .slice A (zl z) c], .agg #[.bool (neg z), .slice B (dl z) d]] w0 fun e w' => e = .returned (.bool true) ∧ Below w0.heap.size w0 w' := by
  refine enter Tryd.func35 rfl Tryd.ntmps35 rfl ?_
  intro a henv hst
  have hdl : dl z ≤ 2 * zl z := dl_zl z
  replace hst := (hst.addZ hx trivial).addR hy trivial
  clear hx hy
  refine wp_seq ?_
  refine region_seq ?_
  refine seq_step rfl (op_box (c := #[.bool (neg z), .slice A (zl z) c]) henv hst rfl rfl rfl ?_)
  clear henv hst a; intro a w2 g1 henv hst
  refine seq_step rfl (op_box (c := #[.bool (neg z), .slice B (dl z) d]) henv hst rfl rfl rfl ?_)
  clear henv hst a; intro a w4 g3 henv hst
  refine sv (v := .bool false) henv rfl (rn_assign henv rfl) ?_
  clear henv a; intro a henv
  refine wpList_nil ?_
  refine th_n ?_
  refine wp_seq ?_
  refine region_seq ?_
  refine sv (v := .agg #[.bool (neg z), .slice A (zl z) c]) henv rfl (rn_load0 henv ty_anvil_integer_Int rfl (hst.oat (k := 1) rfl) rfl) ?_
  clear henv a; intro a henv
  refine seq_step rfl (op_call henv rfl Tryd.call106 rfl (limbs_z (z := z) (show ZIn _ A c z from hst.pat (k := 1) rfl) (by omega)) ?_)
  rintro e w8 ⟨A5, c6, rfl, hz7, -, hb⟩
  refine ⟨_, rfl, ?_⟩
  clear henv a; intro a henv
  replace hst := (hst.call hb).addZ hz7 ⟨nou_bk rfl, nou_bk rfl, trivial⟩
  clear hz7
  clear hb
  revert a
  refine mA rfl rfl ?_
  refine sA (v := .bool (neg z)) rfl (fun _ henv => rn_extract henv rfl rfl) ?_
  refine sA (v := .slice A5 (zl z) c6) rfl (fun _ henv => rn_extract henv rfl rfl) ?_
  refine aA rfl rfl ?_
  refine aA rfl rfl ?_
  intro a henv
  refine wpList_nil ?_
  refine th_n ?_
  refine wp_seq ?_
  refine region_any (n := 13) (Sk [bk g3 #[.bool (neg z), .slice B (dl z) d] 39, bk g1 #[.bool (neg z), .slice A (zl z) c] 36] [pfZ A5 c6 z, pfR B d z, pfZ A c z] [] []) mixed rfl henv hst ?_
  clear henv hst; intro w9 henv hst
  refine tM (i := 0) [2, 4, 5, 6, 7, 8, 9, 10, 11, 12] rfl (by kernel_rfl) (fun _ _ _ h => h) henv rfl rfl ?_
  clear henv a; intro a henv
  refine tM (i := 1) [2, 4, 5, 6, 7, 8, 9, 10, 11, 12] rfl (by kernel_rfl) (fun _ _ _ h => h) henv rfl rfl ?_
  clear henv a; intro a henv
  refine tL (i := 3) 0 0 (rg 4 9) rfl (by kernel_rfl) (fun _ _ _ h => h) henv rfl ty_anvil_anvilref02_Int rfl hst rfl rfl rfl ?_
  clear henv a; intro a henv
  refine sAny_one (i := 2) (by kernel_rfl) rfl rfl (op_call henv rfl Tryd.call20 rfl (make_rz (z := z) (show ZIn _ A5 c6 z from hst.pat (k := 0) rfl) (by omega)) ?_)
  rintro e w13 ⟨_, rfl, ⟨A10, c11, rfl, hz12⟩, hb⟩
  refine ⟨_, rfl, ?_⟩
  clear henv a; intro a henv
  replace hst := (hst.call hb).addR hz12 ⟨nou_bk rfl, nou_bk rfl, trivial⟩
  clear hz12
  clear hb
  refine ⟨.inr ⟨hst.kn.pick [0, 1] [1, 2, 3], .inr (hst.kn.pick [] [])⟩, ?_⟩
  refine sAny_one (i := 4) (by kernel_rfl) rfl rfl (op_call henv rfl Tryd.call107 rfl (same_rb4 (x := z) (y := z) (show RIn _ A10 c11 z from hst.pat (k := 0) rfl) (show RIn _ B d z from hst.pat (k := 2) rfl)) ?_)
  rintro e w14 ⟨rfl, hb⟩
  refine ⟨_, rfl, ?_⟩
  clear henv a; intro a henv
  replace hst := hst.call hb
  clear hb
  refine ⟨.inr ⟨hst.kn.pick [0, 1] [1, 2, 3], .inr (hst.kn.pick [] [])⟩, ?_⟩
  rw [show (decide (z = z)) = true from (decide_eq_true rfl)] at henv
  refine tM (i := 5) (rg 6 7) rfl (by kernel_rfl) (fun _ _ _ h => h) henv rfl rfl ?_
  clear henv a; intro a henv
  refine tLg (i := 6) 1 1 [7, 9, 10, 11, 12] rfl (by kernel_rfl) (fun _ _ _ h => h) henv rfl rfl rfl rfl ty_anvil_integer_Int rfl hst rfl rfl rfl ?_
  clear henv a; intro a henv
  refine tLg (i := 8) 0 0 (rg 9 4) rfl (by kernel_rfl) (fun _ _ _ h => h) henv rfl rfl rfl rfl ty_anvil_anvilref02_Int rfl hst rfl rfl rfl ?_
  clear henv a; intro a henv
  refine sAny_oneg (i := 7) (by kernel_rfl) rfl rfl henv rfl rfl rfl (op_call henv rfl Tryd.call31 rfl (sign_z (z := z)) ?_)
  rintro e w15 ⟨rfl, hb⟩
  refine ⟨_, rfl, ?_⟩
  clear henv a; intro a henv
  replace hst := hst.call hb
  clear hb
  refine ⟨.inr ⟨hst.kn.pick [0, 1] [1, 2, 3], .inr (hst.kn.pick [] [])⟩, ?_⟩
  refine sAny_oneg (i := 9) (by kernel_rfl) rfl rfl henv rfl rfl rfl (op_call henv rfl Tryd.call82 rfl (sign_r (z := z)) ?_)
  rintro e w16 ⟨rfl, hb⟩
  refine ⟨_, rfl, ?_⟩
  clear henv a; intro a henv
  replace hst := hst.call hb
  clear hb
  refine ⟨.inr ⟨hst.kn.pick [0, 1] [1, 2, 3], .inr (hst.kn.pick [] [])⟩, ?_⟩
  refine tAg (i := 10) [11, 12] (v := .bool (z.sign == z.sign)) rfl (by kernel_rfl) (fun _ _ _ h => h) henv rfl rfl rfl rfl (fun _ => rn_bin henv rfl rfl rfl) ?_
  clear henv a; intro a henv
  rw [show (z.sign == z.sign) = true from (beq_self_eq_true _)] at henv
  refine tA (i := 11) [12] (v := .bool true) rfl (by kernel_rfl) (fun _ _ _ h => h) henv rfl (fun _ => rn_pick henv rfl rfl) ?_
  clear henv a; intro a henv
  refine tA (i := 12) [] (v := .bool true) rfl (by kernel_rfl) (fun _ _ _ h => h) henv rfl (fun _ => rn_assign henv rfl) ?_
  clear henv a; intro a henv
  refine sAny_done (by kernel_rfl) ?_ _
  refine th_n ?_
  refine wp_ret ?_
  refine leave henv (res1 Tryd.results35 (RV.tmp henv rfl)) ?_
  exact ⟨rfl, hst.below⟩
end Go.Proofs.YtegglooojlheoaaDoor.W

/- row.Cmp, Same; the reference's Cmp, Same, IsZero. Printed by pv/gen_row5.py. No condition. -/
namespace Go.Proofs.YtegglooojlheoaaDoor.W
open Go.RowKit Anv Go.Lib
def lexc : List Int → List Int → Int
  | x :: xs, y :: ys => if (x - y).sign = 0 then lexc xs ys else (x - y).sign
  | _, _ => 0
def cmpR (xs ys : List Int) : Int := if xs.length < ys.length then -1 else if ys.length < xs.length then 1 else lexc xs ys
end Go.Proofs.YtegglooojlheoaaDoor.W

/- row.Widest, anvilref04.Widest. Printed by pv/gen_row6.py. No condition. -/
namespace Go.Proofs.YtegglooojlheoaaDoor.W
open Go.RowKit Anv Go.Lib
def wid (zs : List Int) : Int := zs.foldl (fun w z => if w < (z.natAbs : Int) then (z.natAbs : Int) else w) 0
end Go.Proofs.YtegglooojlheoaaDoor.W

/- What the law RowHolds needs, with no program in sight but the shape of the memory. No condition. -/
namespace Go.Proofs.YtegglooojlheoaaDoor.W
open Go.RowKit Anv Go.Lib
theorem pv2 {w : World} {g : Nat} {v0 v1 : VE} {t : TypeId} (h : w.heap[g]? = some (.cells #[.slice v0.1 v0.2.1 v0.2.2.1, .slice v1.1 v1.2.1 v1.2.2.1] t (0, 0))) (h0 : (FV v0).P w) (h1 : (FV v1).P w) : (pfRow fV FV 1 (some ⟨g, 0, none⟩) 2 2 [v0, v1]).P w := by
  refine ⟨⟨rfl, Nat.le_refl _, by decide, fun _ => ⟨g, 0, rfl, lt_of_block h, fun i _ => by rw [Nat.zero_add, cell_of_row w g i _ t (0, 0) h, ← Array.getElem?_toList]; rfl⟩⟩, rfl, fun e he => ?_⟩
  rcases List.mem_cons.1 he with rfl | he
  · exact h0
  · rw [List.mem_singleton.1 he]; exact h1
theorem St.fresh2 {α β : Type} {f : α → List Value} {F : α → PF} {f' : β → List Value} {F' : β → PF} {es : List α} {es' : List β} {q q' : Value → Bool} {E E' z z' n n' c c' : Nat} {A A' : Option Addr} {w0 w w' : World} {own ps : List PF} (h : St w0 w own ps) (hb : Below w.heap.size w w')
    (hr : NewRow q E z f F w.heap.size w' A n c es) (hl : es.length = n) (hE : ∀ o ∈ own, ∀ b, o.foot b → o.P w' → ¬ (pfEs F es).foot b)
    (hr' : NewRow q' E' z' f' F' w.heap.size w' A' n' c' es') (hl' : es'.length = n') (hE' : ∀ o ∈ own, ∀ b, o.foot b → o.P w' → ¬ (pfEs F' es').foot b) :
    St w0 w' own (pfRow f' F' z' A' n' c' es' :: pfRow f F z A n c es :: ps) :=
  (h.freshRd hb hr hl hE).addP _ ((h.freshRd hb hr' hl' hE').pat (k := 0) rfl) fun o ho b h1 h2 => (h.freshRd hb hr' hl' hE').apart _ (List.mem_cons_self ..) o ho b h1 h2
theorem tl_mem {us : List UE} {e : UE} (h : e ∈ us) : e.2.2.1 ≤ tl us := by
  induction us with
  | nil => cases h
  | cons x us ih =>
    unfold tl at *
    rw [List.map_cons, List.sum_cons]
    rcases List.mem_cons.1 h with rfl | h
    · omega
    · have := ih h; omega
end Go.Proofs.YtegglooojlheoaaDoor.W

/- What the laws of rows need of the memory: rows of rows written out, numbers written out, sizes. No program but the shape of the memory. No condition. -/
namespace Go.Proofs.YtegglooojlheoaaDoor.W
open Go.RowKit Anv Go.Lib
theorem pu1 {w : World} {g : Nat} {e0 : UE} {t : TypeId} (h : w.heap[g]? = some (.cells #[.bool e0.1, .slice e0.2.1 e0.2.2.1 e0.2.2.2.1] t (0, 0))) (h0 : (FU e0).P w) : (pfRow fU FU 2 (some ⟨g, 0, none⟩) 1 1 [e0]).P w := by
  refine ⟨⟨rfl, Nat.le_refl _, by decide, fun _ => ⟨g, 0, rfl, lt_of_block h, fun i _ => by rw [Nat.zero_add, cell_of_row w g i _ t (0, 0) h, ← Array.getElem?_toList]; rfl⟩⟩, rfl, fun e he => ?_⟩
  rw [List.mem_singleton.1 he]; exact h0
theorem sz_nil : Sz [] := fun _ h => by cases h
theorem sz_cons {e : UE} {es : List UE} (h : e.2.2.1 ≤ 35184372088832) (k : Sz es) : Sz (e :: es) := fun x hx => by
  rcases List.mem_cons.1 hx with rfl | hx
  · exact h
  · exact k x hx
theorem lg_nil : ∀ v ∈ ([] : List VE), v.2.1 ≤ 35184372088832 ∧ Sz v.2.2.2 := fun _ h => by cases h
theorem lg_cons {v : VE} {l : List VE} (h : v.2.1 ≤ 35184372088832) (hs : Sz v.2.2.2) (k : ∀ v ∈ l, v.2.1 ≤ 35184372088832 ∧ Sz v.2.2.2) : ∀ x ∈ v :: l, x.2.1 ≤ 35184372088832 ∧ Sz x.2.2.2 := fun x hx => by
  rcases List.mem_cons.1 hx with rfl | hx
  · exact ⟨h, hs⟩
  · exact k x hx
theorem tv_twoN {A B : Option Addr} {n m c d : Nat} {us : List UE} {e2 : UE} (h : tv [(A, n, c, us), (B, m, d, [e2])] ≤ 300) : n ≤ 300 ∧ tl us ≤ 300 ∧ e2.2.2.1 ≤ 300 := by
  simp [tv, tl] at h
  unfold tl
  omega
theorem zl_vze {w : World} {b : Bool} {A : Option Addr} {n c k : Nat} {xs : List Nat} (h : U32 w A n c xs) (hn : n ≤ k) : zl (sg b (val 4294967296 xs)) ≤ k := by
  have h2 := nl_val h
  have e : zl (sg b (val 4294967296 xs)) = nl (val 4294967296 xs) := by
    unfold sg zl
    split
    · rw [Int.natAbs_neg, Int.natAbs_natCast]
    · rw [Int.natAbs_natCast]
  omega
def Zk (k : Nat) (zs : List Int) : Prop := ∀ z ∈ zs, zl z ≤ k
theorem Zk.es {k : Nat} {es : List NE} {zs : List Int} (h : Zk k zs) (e : es.map zz = zs) : ZB k es := fun x hx => h (zz x) (e ▸ List.mem_map_of_mem hx)
theorem Zk.mono {k m : Nat} {zs : List Int} (h : Zk k zs) (hm : k ≤ m) : Zk m zs := fun z hz => Nat.le_trans (h z hz) hm
theorem Zk.map {k m : Nat} {zs : List Int} {f : Int → Int} (h : Zk k zs) (hf : ∀ z, zl z ≤ k → zl (f z) ≤ m) : Zk m (zs.map f) := fun x hx => by
  obtain ⟨z, hz, rfl⟩ := List.mem_map.1 hx
  exact hf z (h z hz)
theorem mem_zipWith {f : Int → Int → Int} {x : Int} : ∀ {xs ys : List Int}, x ∈ List.zipWith f xs ys → ∃ a ∈ xs, ∃ b ∈ ys, x = f a b
  | [], _, h => by simp at h
  | _ :: _, [], h => by simp at h
  | a :: xs, b :: ys, h => by
    rw [List.zipWith_cons_cons] at h
    rcases List.mem_cons.1 h with rfl | h
    · exact ⟨a, List.mem_cons_self .., b, List.mem_cons_self .., rfl⟩
    · obtain ⟨a, ha, b, hb, e⟩ := mem_zipWith h
      exact ⟨a, List.mem_cons_of_mem _ ha, b, List.mem_cons_of_mem _ hb, e⟩
theorem Zk.zip {k j m : Nat} {xs ys : List Int} {f : Int → Int → Int} (h : Zk k xs) (g : Zk j ys) (hf : ∀ x y, zl x ≤ k → zl y ≤ j → zl (f x y) ≤ m) : Zk m (List.zipWith f xs ys) := fun x hx => by
  obtain ⟨a, ha, b, hb, rfl⟩ := mem_zipWith hx
  exact hf a b (h a ha) (g b hb)
theorem Zk.vz {es : List UE} {k : Nat} {w : World} (h : (pfEs FU es).P w) (ht : tl es ≤ k) : Zk k (es.map vz) := by
  intro z hz
  obtain ⟨e, he, rfl⟩ := List.mem_map.1 hz
  have h1 : U32 w e.2.1 e.2.2.1 e.2.2.2.1 e.2.2.2.2 := h e he
  exact zl_vze h1 (Nat.le_trans (tl_mem he) ht)
theorem zl_dvd {d z : Int} (h : d ∣ z) (hz : z ≠ 0) : zl d ≤ zl z := by
  have h1 := Nat.le_of_dvd (Int.natAbs_pos.2 hz) (Int.natAbs_dvd_natAbs.2 h)
  exact nl_mono h1
theorem zl_gcdL {k : Nat} {zs : List Int} (h : Zk k zs) : zl (gcdL zs) ≤ k := by
  by_cases h0 : ∃ z ∈ zs, z ≠ 0
  · obtain ⟨z, hz, hn⟩ := h0
    exact Nat.le_trans (zl_dvd (gcdL_dvd hz) hn) (h z hz)
  · rw [gcdL_zero fun z hz => Classical.byContradiction fun hn => h0 ⟨z, hz, hn⟩, zl_zero]
    exact Nat.zero_le _
theorem zl_primN {k : Nat} {zs : List Int} (h : Zk k zs) : zl (primN zs) ≤ k := by
  have := zl_gcdL h
  unfold primN
  split
  · rw [zl_neg]; exact this
  · exact this
theorem Zk.prim {k : Nat} {zs : List Int} (h : Zk k zs) : Zk k (prim zs) := h.map fun _ hz => Nat.le_trans (zl_ediv _ _) hz
theorem Zk.take {k : Nat} {zs : List Int} (h : Zk k zs) (j : Nat) : Zk k (zs.take j) := fun z hz => h z (List.mem_of_mem_take hz)
end Go.Proofs.YtegglooojlheoaaDoor.W

/- row.Neg, Scale, Combine, Dot, integer.Sum; the reference's Combine, Add, Sub, Scale, Dot; the laws' is, own. Printed by pv/gen_row8.py. No condition. -/
namespace Go.Proofs.YtegglooojlheoaaDoor.W
open Go.RowKit Anv Go.Lib
theorem ztake_snoc {es : List NE} {xs : List Int} {j : Nat} {A : Option Addr} {c : Nat} {z : Int} (hz : es.map zz = xs) (he : es[j]? = some (A, c, z)) : xs.take (j + 1) = xs.take j ++ [z] :=
  take_one (by rw [← hz, List.getElem?_map, he]; rfl)
theorem zl_small {z : Int} {k : Nat} (h : z.natAbs < 4294967296 ^ 1) : zl z ≤ k + 1 := Nat.le_trans (nl_le_of_lt h) (by omega)
theorem same_at {es fs : List NE} {xs : List Int} {j : Nat} {A B : Option Addr} {c d : Nat} {x y : Int} (h : es.map zz = xs) (k : fs.map zz = xs) (he : es[j]? = some (A, c, x)) (hf : fs[j]? = some (B, d, y)) : x = y := by
  have h1 : xs[j]? = some x := by rw [← h, List.getElem?_map, he]; rfl
  have h2 : xs[j]? = some y := by rw [← k, List.getElem?_map, hf]; rfl
  rw [h1] at h2
  exact Option.some.inj h2
set_option maxRecDepth 100000 in
set_option maxHeartbeats 2000000 in
theorem row_scale {A0 : Option Addr} {n0 c0 : Nat} {es0 : List NE} {xs : List Int} {M : Option Addr} {d : Nat} {m : Int} {w0 : World} (h0 : (pfRow fN FN 2 A0 n0 c0 es0).P w0) (hz0 : es0.map zz = xs) (hM : ZIn w0 M d m) (hm : zl m ≤ 10000) (hk : Zk 10000 xs) (hn : n0 ≤ 100000000) :
    Calls Tryd.prog 26 #[.slice A0 n0 c0, .agg #[.bool (neg m), .slice M (zl m) d]] w0 fun e w' => ∃ v, e = .returned v ∧ ZRow w0.heap.size w' v n0 (xs.map (m * ·)) ∧ Below w0.heap.size w0 w' := by
  have hzb := hk.es hz0
  subst hz0
  refine enter Tryd.func26 rfl Tryd.ntmps26 rfl ?_
  intro a henv hst
  replace hst := hst.addZ hM trivial
  have hlen0 := h0.2.1
  have hbig0 := Nat.le_trans h0.1.cap h0.1.big
  unfold maxLen at hbig0
  replace hst := hst.argRow h0
  clear h0
  refine wp_seq ?_
  refine region_seq ?_
  refine seq_step rfl (op_box (c := #[.bool (neg m), .slice M (zl m) d]) henv hst rfl rfl rfl ?_)
  clear henv hst a; intro a w52 g51 henv hst
  refine sv (v := .slice none 0 0) henv rfl (rn_assign henv rfl) ?_
  clear henv a; intro a henv
  refine wpList_nil ?_
  refine th_n ?_
  refine wp_seq ?_
  refine region_seq ?_
  revert a
  refine mA rfl rfl ?_
  refine sA (v := .agg #[.bool (neg m), .slice M (zl m) d]) rfl (fun _ henv => rn_load0 henv ty_anvil_integer_Int rfl (hst.oat (k := 0) rfl) rfl) ?_
  refine sA (v := .func (.func 84) #[.agg #[.bool (neg m), .slice M (zl m) d]] #[]) rfl (fun _ henv => rn_makeFuncB (us := #[.agg #[.bool (neg m), .slice M (zl m) d]]) (vs := #[]) henv rfl rfl) ?_
  intro a henv
  refine seq_step rfl (op_call henv rfl Tryd.call102 rfl (row_each (E := (pfZ M d m)) (g := (m * ·)) (first := #[.agg #[.bool (neg m), .slice M (zl m) d]]) (caps := #[]) (hst.pat (k := 0) rfl) (hst.pat (k := 1) rfl) Tryd.call84 (fun _ _ _ _ _ q1 q2 hx => calls_app (by simp) (mul_z (show ZIn _ M d m from q2) hx (by omega) (by have := hzb.at q1; omega))) hn) ?_)
  rintro e w59 ⟨_, rfl, ⟨A53, c54, es55, rfl, hr, hl56, hz57⟩, hb⟩
  refine ⟨_, rfl, ?_⟩
  clear henv a; intro a henv
  replace hst := hst.freshRow hb hr (ap_N hr.2.1 ⟨nou_rowS, ⟨nou_bk rfl, trivial⟩⟩)
  clear hr
  clear hb
  refine sv (v := .slice A53 n0 c54) henv rfl (rn_assign henv rfl) ?_
  clear henv a; intro a henv
  refine wpList_nil ?_
  refine th_n ?_
  refine wp_ret ?_
  refine leave henv (res1 Tryd.results26 (RV.tmp henv rfl)) ?_
  exact ⟨_, rfl, ⟨_, _, _, rfl, hst.newRow (k := 0) (j := 0) rfl rfl, hl56, hz57⟩, hst.below⟩
set_option maxRecDepth 100000 in
set_option maxHeartbeats 2000000 in
theorem row_is {A0 A1 : Option Addr} {n0 c0 c1 : Nat} {es0 es1 : List NE} {xs : List Int} {w0 : World} (h0 : (pfRow fN FN 2 A0 n0 c0 es0).P w0) (hz0 : es0.map zz = xs) (h1 : (pfRow fM FM 2 A1 n0 c1 es1).P w0) (hz1 : es1.map zz = xs) (hk : Zk 100000 xs) :
    Calls Tryd.prog 27 #[.slice A0 n0 c0, .slice A1 n0 c1] w0 fun e w' => e = .returned (.bool true) ∧ Below w0.heap.size w0 w' := by
  have hb0 := hk.es hz0
  refine enter Tryd.func27 rfl Tryd.ntmps27 rfl ?_
  intro a henv hst
  have hlen0 := h0.2.1
  have hlen1 := h1.2.1
  have hbig0 := Nat.le_trans h0.1.cap h0.1.big
  unfold maxLen at hbig0
  replace hst := (hst.argRow h1).argRow h0
  clear h0 h1
  refine wp_seq ?_
  refine region_seq ?_
  refine sv (v := .bool false) henv rfl (rn_assign henv rfl) ?_
  clear henv a; intro a henv
  refine wpList_nil ?_
  refine th_n ?_
  refine wp_seq ?_
  refine wp_seq ?_
  refine region_seq ?_
  revert a
  refine mA rfl rfl ?_
  refine sA (v := .int .i64 (n0 : Nat)) rfl (fun _ henv => rn_len henv Tryd.underlying30 rfl) ?_
  refine mA rfl rfl ?_
  refine sA (v := .int .i64 (n0 : Nat)) rfl (fun _ henv => rn_len henv Tryd.underlying32 rfl) ?_
  refine sA (v := .bool (((n0 : Nat) : Int) != ((n0 : Nat) : Int))) rfl (fun _ henv => rn_bin henv rfl rfl rfl) ?_
  intro a henv
  rw [show (((n0 : Nat) : Int) != ((n0 : Nat) : Int)) = false from (bne_self_eq_false _)] at henv
  refine wpList_nil ?_
  refine th_n ?_
  refine if_f henv rfl (rfl) ?_
  refine wp_skip ?_
  refine th_n ?_
  refine wp_seq ?_
  refine wp_seq ?_
  refine region_seq ?_
  refine sv (v := .int .i64 0) henv rfl (rn_assign henv rfl) ?_
  clear henv a; intro a henv
  refine wpList_nil ?_
  refine th_n ?_
  refine wp_block ?_
  refine wp_loop_ghost (fun mz a w => ∃ j : Nat, n0 - j = mz ∧ Env 27 a [(0, .slice A0 n0 c0), (1, .slice A1 n0 c1), (4, .bool false), (5, .int .i64 (j : Nat))] ∧ St w0 w [] [pfRow fN FN 2 A0 n0 c0 es0, pfRow fM FM 2 A1 n0 c1 es1] ∧ j ≤ n0) _ ⟨0, rfl, henv.sub ⟨rfl, rfl, rfl, rfl, trivial⟩, hst.pick [] [0, 1] (by decide), (Nat.zero_le _)⟩ ?_
  clear henv hst a
  rintro mz a w51 ⟨j, rfl, henv, hst, hj⟩
  refine wp_seq ?_
  refine wp_seq ?_
  refine region_seq ?_
  revert a
  refine mA rfl rfl ?_
  refine mA rfl rfl ?_
  refine sA (v := .int .i64 (n0 : Nat)) rfl (fun _ henv => rn_len henv Tryd.underlying30 rfl) ?_
  refine sA (v := .bool (decide (((j : Nat) : Int) < ((n0 : Nat) : Int)))) rfl (fun _ henv => rn_bin henv rfl rfl rfl) ?_
  intro a henv
  refine wpList_nil ?_
  refine th_n ?_
  refine if_split henv rfl (fun hc52 => ?_) (fun hc52 => ?_)
  · have hlt : j < n0 := by have := of_decide_eq_true hc52; omega
    obtain ⟨⟨A, c, x⟩, he0⟩ : ∃ e, es0[j]? = some e := ⟨_, List.getElem?_eq_getElem (by omega)⟩
    replace hst := hst.elem (k := 0) rfl he0
    replace hst : St w0 _ [] [pfZ A c x, pfRow fN FN 2 A0 n0 c0 es0, pfRow fM FM 2 A1 n0 c1 es1] := hst
    obtain ⟨⟨C, e, y⟩, he1⟩ : ∃ e, es1[j]? = some e := ⟨_, List.getElem?_eq_getElem (by omega)⟩
    replace hst := hst.elem (k := 2) rfl he1
    replace hst : St w0 _ [] [pfR C e y, pfZ A c x, pfRow fN FN 2 A0 n0 c0 es0, pfRow fM FM 2 A1 n0 c1 es1] := hst
    obtain rfl : x = y := same_at hz0 hz1 he0 he1
    have hx1 := hb0.at he0
    refine wp_skip ?_
    refine th_n ?_
    refine wp_seq ?_
    refine wp_block ?_
    refine wp_seq ?_
    refine region_any (n := 10) (Sk [] [pfR C e x, pfZ A c x, pfRow fN FN 2 A0 n0 c0 es0, pfRow fM FM 2 A1 n0 c1 es1] [] []) mixed rfl henv hst ?_
    clear henv hst; intro w53 henv hst
    refine tM (i := 0) [2, 3, 8, 9] rfl (by kernel_rfl) (fun _ _ _ h => h) henv rfl rfl ?_
    clear henv a; intro a henv
    refine tM (i := 1) [2, 3, 8, 9] rfl (by kernel_rfl) (fun _ _ _ h => h) henv rfl rfl ?_
    clear henv a; intro a henv
    refine sAny_take (i := 2) [3, 8, 9] (fun w' => (pfRow fN FN 2 A0 n0 c0 es0).P w') (v := .pointer (some ⟨ab A0, ao A0 + j * 2, none⟩)) rfl (by kernel_rfl) (fun _ _ _ h => h) (fun _ _ _ hS => hS.1.pat (k := 2) rfl) henv rfl (hst.pat (k := 2) rfl) (fun w' hg => rn_idxR (i := j) henv Tryd.underlying30 (ty_anvil_integer_Int.size) rfl rfl (by omega) rfl (show (pfRow fN FN 2 A0 n0 c0 es0).P _ from hg).1) ?_
    clear henv a; intro a henv
    refine sAny_take (i := 3) [8, 9] (fun w' => (pfRow fN FN 2 A0 n0 c0 es0).P w') (v := .agg #[.bool (neg x), .slice A (zl x) c]) rfl (by kernel_rfl) (fun _ _ _ h => h) (fun _ _ _ hS => hS.1.pat (k := 2) rfl) henv rfl (hst.pat (k := 2) rfl) (fun w' hg => rn_loadE (i := j) (e := (A, c, x)) henv ty_anvil_integer_Int rfl rfl fN_len (show (pfRow fN FN 2 A0 n0 c0 es0).P _ from hg).1 (by omega) he0 rfl) ?_
    clear henv a; intro a henv
    refine tM (i := 4) (rg 6 4) rfl (by kernel_rfl) (fun _ _ _ h => h) henv rfl rfl ?_
    clear henv a; intro a henv
    refine tM (i := 5) (rg 6 4) rfl (by kernel_rfl) (fun _ _ _ h => h) henv rfl rfl ?_
    clear henv a; intro a henv
    refine sAny_take (i := 6) [7, 8, 9] (fun w' => (pfRow fM FM 2 A1 n0 c1 es1).P w') (v := .pointer (some ⟨ab A1, ao A1 + j * 2, none⟩)) rfl (by kernel_rfl) (fun _ _ _ h => h) (fun _ _ _ hS => hS.1.pat (k := 3) rfl) henv rfl (hst.pat (k := 3) rfl) (fun w' hg => rn_idxR (i := j) henv Tryd.underlying32 (ty_anvil_anvilref02_Int.size) rfl rfl (by omega) rfl (show (pfRow fM FM 2 A1 n0 c1 es1).P _ from hg).1) ?_
    clear henv a; intro a henv
    refine sAny_take (i := 7) [8, 9] (fun w' => (pfRow fM FM 2 A1 n0 c1 es1).P w') (v := .agg #[.bool (neg x), .slice C (dl x) e]) rfl (by kernel_rfl) (fun _ _ _ h => h) (fun _ _ _ hS => hS.1.pat (k := 3) rfl) henv rfl (hst.pat (k := 3) rfl) (fun w' hg => rn_loadE (i := j) (e := (C, e, x)) henv ty_anvil_anvilref02_Int rfl rfl fM_len (show (pfRow fM FM 2 A1 n0 c1 es1).P _ from hg).1 (by omega) he1 rfl) ?_
    clear henv a; intro a henv
    refine sAny_one (i := 8) (by kernel_rfl) rfl rfl (op_call henv rfl Tryd.call35 rfl (num_one (z := x) (show ZIn _ A c x from hst.pat (k := 1) rfl) (show RIn _ C e x from hst.pat (k := 0) rfl) hx1) ?_)
    rintro e w54 ⟨rfl, hb⟩
    refine ⟨_, rfl, ?_⟩
    clear henv a; intro a henv
    replace hst := hst.call hb
    clear hb
    refine ⟨.inr ⟨hst.kn.pick [] (rg 0 4), .inr (hst.kn.pick [] [])⟩, ?_⟩
    refine tA (i := 9) [] (v := .bool false) rfl (by kernel_rfl) (fun _ _ _ h => h) henv rfl (fun _ => rn_un henv rfl rfl) ?_
    clear henv a; intro a henv
    refine sAny_done (by kernel_rfl) ?_ _
    refine th_n ?_
    refine if_f henv rfl (rfl) ?_
    refine wp_skip ?_
    refine bl_n (th_n ?_)
    refine region_seq ?_
    revert a
    refine mA rfl rfl ?_
    refine sA (v := .int .i64 (j + 1 : Nat)) rfl (fun _ henv => rn_add henv rfl rfl (by rw [IntWalk.i64_in _ (by omega)]; omega)) ?_
    refine aA rfl rfl ?_
    intro a henv
    refine wpList_nil ?_
    exact th_n ⟨_, (by omega), ⟨j + 1, rfl, henv.sub ⟨rfl, rfl, rfl, rfl, trivial⟩, hst.pick [] [2, 3] (by decide), (by omega)⟩⟩
  · have hjn : j = n0 := by have := of_decide_eq_false hc52; omega
    refine wp_exit ?_
    refine th_x (th_x (bl_x (th_n ?_)))
    refine wp_seq ?_
    refine region_seq ?_
    refine sv (v := .bool true) henv rfl (rn_assign henv rfl) ?_
    clear henv a; intro a henv
    refine wpList_nil ?_
    refine th_n ?_
    refine wp_ret ?_
    refine leave henv (res1 Tryd.results27 (RV.tmp henv rfl)) ?_
    exact ⟨rfl, hst.below⟩
set_option maxRecDepth 100000 in
set_option maxHeartbeats 2000000 in
theorem row_own {E : PF} {A0 A1 A2 : Option Addr} {n0 c0 n1 c1 c2 : Nat} {es0 es1 es2 : List NE} {xs : List Int} {w0 w1 : World} (hS : St w0 w1 [rowS notU 36 2 A0 n0 c0 (fl fN es0)] [E, pfRow fN FN 2 A1 n1 c1 es1, pfRow fM FM 2 A2 n1 c2 es2]) (hz1 : es1.map zz = xs) (hz2 : es2.map zz = xs) (hk : Zk 100000 xs) :
    Calls Tryd.prog 30 #[.slice A0 n0 c0, .slice A1 n1 c1, .slice A2 n1 c2] w1 fun e w' => e = .returned (.bool true) ∧ St w0 w' [] [E] := by
  refine enter Tryd.func30 rfl Tryd.ntmps30 rfl ?_
  intro a henv hst
  clear hst
  have hst := hS
  clear hS
  have hcb := rowS_cap (hst.owns (k := 0) rfl)
  obtain ⟨hcb1, hcb2⟩ := hcb
  unfold maxLen at hcb2
  obtain ⟨ps, hps, hst2⟩ := hst.rowAll (k := 0) rfl
  clear hst
  have hst := hst2
  clear hst2
  replace hst : St w0 _ [rowS notU 36 2 A0 c0 c0 (fl fP ps)] [E, pfRow fN FN 2 A1 n1 c1 es1, pfRow fM FM 2 A2 n1 c2 es2] := hst
  refine wp_seq ?_
  refine region_seq ?_
  refine sv (v := .bool false) henv rfl (rn_assign henv rfl) ?_
  clear henv a; intro a henv
  refine wpList_nil ?_
  refine th_n ?_
  refine wp_seq ?_
  refine region_seq ?_
  revert a
  refine mA rfl rfl ?_
  refine mA rfl rfl ?_
  refine sA (v := .int .i64 (c0 : Nat)) rfl (fun _ henv => rn_cap henv Tryd.underlying30 rfl) ?_
  refine sA (v := .slice A0 c0 c0) rfl (fun _ henv => rn_sliceTo (m := c0) henv Tryd.underlying30 (ty_anvil_integer_Int.size) rfl rfl (by omega)) ?_
  refine aA rfl rfl ?_
  intro a henv
  refine wpList_nil ?_
  refine th_n ?_
  refine wp_seq ?_
  refine wp_seq ?_
  refine region_seq ?_
  refine sv (v := .int .i64 0) henv rfl (rn_assign henv rfl) ?_
  clear henv a; intro a henv
  refine wpList_nil ?_
  refine th_n ?_
  refine wp_block ?_
  refine wp_loop_ghost (fun mz a w => ∃ j : Nat, ∃ qs : List PE, c0 - j = mz ∧ Env 25 a [(0, .slice A0 c0 c0), (1, .slice A1 n1 c1), (2, .slice A2 n1 c2), (6, .bool false), (7, .int .i64 (j : Nat))] ∧ St w0 w [rowS notU 36 2 A0 c0 c0 (fl fP qs)] [E, pfRow fN FN 2 A1 n1 c1 es1, pfRow fM FM 2 A2 n1 c2 es2] ∧ j ≤ c0 ∧ qs.length = c0) _ ⟨0, ps, rfl, henv.sub ⟨rfl, rfl, rfl, rfl, rfl, trivial⟩, hst.pick [0] [0, 1, 2] (by decide), (Nat.zero_le _), hps⟩ ?_
  clear henv hst a
  rintro mz a w51 ⟨j, qs, rfl, henv, hst, hj, hq⟩
  refine wp_seq ?_
  refine wp_seq ?_
  refine region_seq ?_
  revert a
  refine mA rfl rfl ?_
  refine mA rfl rfl ?_
  refine sA (v := .int .i64 (c0 : Nat)) rfl (fun _ henv => rn_len henv Tryd.underlying30 rfl) ?_
  refine sA (v := .bool (decide (((j : Nat) : Int) < ((c0 : Nat) : Int)))) rfl (fun _ henv => rn_bin henv rfl rfl rfl) ?_
  intro a henv
  refine wpList_nil ?_
  refine th_n ?_
  refine if_split henv rfl (fun hc52 => ?_) (fun hc52 => ?_)
  · have hlt : j < c0 := by have := of_decide_eq_true hc52; omega
    refine wp_skip ?_
    refine th_n ?_
    refine wp_seq ?_
    refine wp_block ?_
    refine region_seq ?_
    revert a
    refine mA rfl rfl ?_
    refine mA rfl rfl ?_
    intro a henv
    refine seq_step rfl (op_call henv rfl Tryd.call43 rfl (of_z (n := (987654321 : Int)) (by decide) (by decide)) ?_)
    rintro e w56 ⟨_, rfl, ⟨A53, c54, rfl, hz55⟩, hb⟩
    refine ⟨_, rfl, ?_⟩
    clear henv a; intro a henv
    replace hst := (hst.call hb).addZ hz55 ⟨nou_rowS, trivial⟩
    clear hz55
    clear hb
    refine sv (v := .pointer (some ⟨ab A0, ao A0 + j * 2, none⟩)) henv rfl (rn_idxR (i := j) henv Tryd.underlying30 (ty_anvil_integer_Int.size) rfl rfl (by omega) rfl (rowS_rd (hst.owns (k := 0) rfl))) ?_
    clear henv a; intro a henv
    refine seq_step rfl (op_storeS (i := j) (e := (.bool (neg 987654321), .slice A53 (zl 987654321) c54)) (k := 0) henv hst (ty_anvil_integer_Int.size) rfl rfl rfl rfl fP_len (by omega) hq rfl rfl rfl ?_)
    clear henv hst a; intro a w57 henv hst
    refine wpList_nil ?_
    refine bl_n (th_n ?_)
    refine region_seq ?_
    revert a
    refine mA rfl rfl ?_
    refine sA (v := .int .i64 (j + 1 : Nat)) rfl (fun _ henv => rn_add henv rfl rfl (by rw [IntWalk.i64_in _ (by omega)]; omega)) ?_
    refine aA rfl rfl ?_
    intro a henv
    refine wpList_nil ?_
    exact th_n ⟨_, (by omega), ⟨j + 1, (qs.set j (.bool (neg 987654321), .slice A53 (zl 987654321) c54)), rfl, henv.sub ⟨rfl, rfl, rfl, rfl, rfl, trivial⟩, hst.pick [0] [1, 2, 3] (by decide), (by omega), (by rw [List.length_set]; exact hq)⟩⟩
  · have hjn : j = c0 := by have := of_decide_eq_false hc52; omega
    refine wp_exit ?_
    refine th_x (th_x (bl_x (th_n ?_)))
    refine wp_seq ?_
    refine region_seq ?_
    revert a
    refine mA rfl rfl ?_
    refine mA rfl rfl ?_
    intro a henv
    refine seq_step rfl (op_call henv rfl Tryd.call27 rfl (row_is (hst.pat (k := 1) rfl) hz1 (hst.pat (k := 2) rfl) hz2 hk) ?_)
    rintro e w58 ⟨rfl, hb⟩
    refine ⟨_, rfl, ?_⟩
    clear henv a; intro a henv
    replace hst := hst.call hb
    clear hb
    refine sv (v := .bool true) henv rfl (rn_assign henv rfl) ?_
    clear henv a; intro a henv
    refine wpList_nil ?_
    refine th_n ?_
    refine wp_ret ?_
    refine leave henv (res1 Tryd.results30 (RV.tmp henv rfl)) ?_
    exact ⟨rfl, hst.pick [] [0] (by decide)⟩
end Go.Proofs.YtegglooojlheoaaDoor.W

/- RowMakes: the law's walk. Printed by pv/gen_row3.py. No condition. -/
namespace Go.Proofs.YtegglooojlheoaaDoor.W
open Go.RowKit Anv Go.Lib
end Go.Proofs.YtegglooojlheoaaDoor.W
