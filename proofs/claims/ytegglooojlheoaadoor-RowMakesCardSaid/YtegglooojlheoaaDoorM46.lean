/- strings.Join at a blank; row.Text. Printed by pv/gen_rtx2.py. No condition. -/
import Derived.Test.YtegglooojlheoaaDoorM44
import Derived.Test.YtegglooojlheoaaDoorM15
import Derived.Test.YtegglooojlheoaaDoorM45
import Derived.Test.YtegglooojlheoaaDoorM31
import Derived.Test.YtegglooojlheoaaDoorM6

namespace Go.Proofs.YtegglooojlheoaaDoor.W
open Go.RowKit Anv Go.Lib
theorem quo_big {n : Nat} (h : 0 < n) (h2 : n ≤ 1000000) : 2 ≤ 9223372036854775807 / n := by
  rw [Nat.le_div_iff_mul_le h]; omega
def jt (s : List UInt8) (r : List (List UInt8)) (k : Nat) : List UInt8 := s ++ (r.take k).flatMap fun t => 32 :: t
theorem jt_zero (s : List UInt8) (r : List (List UInt8)) : jt s r 0 = s := by simp [jt]
theorem jt_step {s t : List UInt8} {r : List (List UInt8)} {k : Nat} (h : r[k]? = some t) : jt s r (k + 1) = jt s r k ++ 32 :: t := by
  unfold jt
  rw [take_one h, List.flatMap_append]
  simp
theorem jn_all {es : List (List UInt8)} {x : List UInt8} {k : Nat} (h : es[0]? = some x) (hk : es.length ≤ k + 1) : jt x (es.drop 1) k = jn es := by
  cases es with
  | nil => simp at h
  | cons y r =>
    obtain rfl : y = x := by simpa using h
    have hk : r.length ≤ k := by simpa using hk
    simp [jt, jn, List.take_of_length_le hk]
def textRow (zs : List Int) : List UInt8 := 91 :: (jn (zs.map textZ) ++ [93])
theorem step_txt {es : List NE} {os : List (List UInt8)} {j : Nat} {A : Option Addr} {c : Nat} {z : Int} (ho : os = ((es.map zz).take j).map textZ) (he : es[j]? = some (A, c, z)) : os ++ [textZ z] = ((es.map zz).take (j + 1)).map textZ := by
  rw [ho, take_one (x := z) (by rw [List.getElem?_map, he]; rfl), List.map_append]
  rfl
theorem txt_bd {es : List NE} {j : Nat} (hz : ZB 90000 es) : ∀ s ∈ ((es.map zz).take j).map textZ, s.length ≤ 1000000 := by
  intro s hs
  obtain ⟨z, hz1, rfl⟩ := List.mem_map.1 hs
  obtain ⟨e, he, rfl⟩ := List.mem_map.1 (List.mem_of_mem_take hz1)
  have h1 := hz e he
  have h2 := textZ_bd (zz e)
  omega
set_option maxRecDepth 100000 in
set_option maxHeartbeats 4000000 in
theorem join_0 {A0 : Option Addr} {n0 c0 : Nat} {es0 : List (List UInt8)} {w0 : World} (h0 : (pfRow fS FTx 1 A0 n0 c0 es0).P w0) (hb : ∀ s ∈ es0, s.length ≤ 1000000) (hn : n0 = 0) :
    Calls Tryd.prog 114 #[.slice A0 n0 c0, .string ⟨#[32]⟩] w0 fun e w' => e = .returned (.string ⟨(jn es0).toArray⟩) ∧ Below w0.heap.size w0 w' := by
  refine enter Tryd.func114 rfl Tryd.ntmps114 rfl ?_
  intro a henv hst
  have hlen0 := h0.2.1
  have hcap0 := h0.1.cap
  replace hst := hst.argRow h0
  refine wp_seq ?_
  refine region_seq ?_
  refine sv (v := .string ⟨#[]⟩) henv rfl (rn_assign henv rfl) ?_
  clear henv a; intro a henv
  refine wpList_nil ?_
  refine th_n ?_
  refine wp_seq ?_
  refine wp_seq ?_
  refine region_seq ?_
  revert a
  refine mA rfl rfl ?_
  refine sA (v := .int .i64 (n0 : Nat)) rfl (fun _ henv => rn_len henv Tryd.underlying159 rfl) ?_
  intro a henv
  refine wpList_nil ?_
  refine th_n ?_
  refine wp_block ?_
  refine wp_seq ?_
  refine region_seq ?_
  refine sv (v := .bool (((n0 : Nat) : Int) == (0 : Int))) henv rfl (rn_bin henv rfl rfl rfl) ?_
  clear henv a; intro a henv
  rw [show (((n0 : Nat) : Int) == (0 : Int)) = true from (beq_iff_eq.2 (by omega))] at henv
  refine sv (v := .bool true) henv rfl (rn_assign henv rfl) ?_
  clear henv a; intro a henv
  refine wpList_nil ?_
  refine th_n ?_
  refine if_t henv rfl (rfl) ?_
  refine wp_seq ?_
  refine region_seq ?_
  refine sv (v := .string ⟨#[]⟩) henv rfl (rn_assign henv rfl) ?_
  clear henv a; intro a henv
  refine wpList_nil ?_
  refine th_n ?_
  refine wp_ret ?_
  refine bl_r (th_r ?_)
  refine leave henv (res1 Tryd.results114 (RV.tmp henv rfl)) ?_
  obtain rfl : es0 = [] := List.eq_nil_of_length_eq_zero (by omega)
  exact ⟨rfl, hst.below⟩
set_option maxRecDepth 100000 in
set_option maxHeartbeats 4000000 in
theorem join_1 {A0 : Option Addr} {n0 c0 : Nat} {es0 : List (List UInt8)} {w0 : World} (h0 : (pfRow fS FTx 1 A0 n0 c0 es0).P w0) (hb : ∀ s ∈ es0, s.length ≤ 1000000) (hn : n0 = 1) :
    Calls Tryd.prog 114 #[.slice A0 n0 c0, .string ⟨#[32]⟩] w0 fun e w' => e = .returned (.string ⟨(jn es0).toArray⟩) ∧ Below w0.heap.size w0 w' := by
  refine enter Tryd.func114 rfl Tryd.ntmps114 rfl ?_
  intro a henv hst
  have hlen0 := h0.2.1
  have hcap0 := h0.1.cap
  replace hst := hst.argRow h0
  obtain ⟨x0, hx0⟩ : ∃ x, es0[0]? = some x := ⟨_, List.getElem?_eq_getElem (by omega)⟩
  have hlx := hb x0 (List.mem_of_getElem? hx0)
  refine wp_seq ?_
  refine region_seq ?_
  refine sv (v := .string ⟨#[]⟩) henv rfl (rn_assign henv rfl) ?_
  clear henv a; intro a henv
  refine wpList_nil ?_
  refine th_n ?_
  refine wp_seq ?_
  refine wp_seq ?_
  refine region_seq ?_
  revert a
  refine mA rfl rfl ?_
  refine sA (v := .int .i64 (n0 : Nat)) rfl (fun _ henv => rn_len henv Tryd.underlying159 rfl) ?_
  intro a henv
  refine wpList_nil ?_
  refine th_n ?_
  refine wp_block ?_
  refine wp_seq ?_
  refine region_seq ?_
  refine sv (v := .bool (((n0 : Nat) : Int) == (0 : Int))) henv rfl (rn_bin henv rfl rfl rfl) ?_
  clear henv a; intro a henv
  rw [show (((n0 : Nat) : Int) == (0 : Int)) = false from (beq_eq_false_iff_ne.2 (by omega))] at henv
  refine sv (v := .bool false) henv rfl (rn_assign henv rfl) ?_
  clear henv a; intro a henv
  refine wpList_nil ?_
  refine th_n ?_
  refine if_f henv rfl (rfl) ?_
  refine wp_seq ?_
  refine region_seq ?_
  refine sv (v := .bool (((n0 : Nat) : Int) == (1 : Int))) henv rfl (rn_bin henv rfl rfl rfl) ?_
  clear henv a; intro a henv
  rw [show (((n0 : Nat) : Int) == (1 : Int)) = true from (beq_iff_eq.2 (by omega))] at henv
  refine sv (v := .bool true) henv rfl (rn_assign henv rfl) ?_
  clear henv a; intro a henv
  refine wpList_nil ?_
  refine th_n ?_
  refine if_t henv rfl (rfl) ?_
  refine wp_seq ?_
  refine region_seq ?_
  revert a
  refine mA rfl rfl ?_
  refine sA (v := .pointer (some ⟨ab A0, ao A0 + 0 * 1, none⟩)) rfl (fun _ henv => rn_idxR (i := 0) henv Tryd.underlying159 (ty_string.size) rfl rfl (by omega) rfl (show (pfRow fS FTx 1 A0 n0 c0 es0).P _ from (hst.pat (k := 0) rfl)).1) ?_
  refine sA (v := .string ⟨x0.toArray⟩) rfl (fun _ henv => rn_loadE1 (i := 0) (j := 0) (e := x0) henv ty_string rfl rfl fS_len (by decide) (show (pfRow fS FTx 1 A0 n0 c0 es0).P _ from (hst.pat (k := 0) rfl)).1 (by omega) hx0 rfl) ?_
  refine aA rfl rfl ?_
  intro a henv
  refine wpList_nil ?_
  refine th_n ?_
  refine wp_ret ?_
  refine bl_r (th_r ?_)
  refine leave henv (res1 Tryd.results114 (RV.tmp henv rfl)) ?_
  obtain ⟨y, rfl⟩ : ∃ y, es0 = [y] := List.length_eq_one_iff.1 (by omega)
  obtain rfl : y = x0 := by simpa using hx0
  exact ⟨by simp [jn], hst.below⟩
set_option maxRecDepth 100000 in
set_option maxHeartbeats 4000000 in
theorem join_n {A0 : Option Addr} {n0 c0 : Nat} {es0 : List (List UInt8)} {w0 : World} (h0 : (pfRow fS FTx 1 A0 n0 c0 es0).P w0) (hb : ∀ s ∈ es0, s.length ≤ 1000000) (hn : 2 ≤ n0) (hn2 : n0 ≤ 1000000) :
    Calls Tryd.prog 114 #[.slice A0 n0 c0, .string ⟨#[32]⟩] w0 fun e w' => e = .returned (.string ⟨(jn es0).toArray⟩) ∧ Below w0.heap.size w0 w' := by
  refine enter Tryd.func114 rfl Tryd.ntmps114 rfl ?_
  intro a henv hst
  have hlen0 := h0.2.1
  have hcap0 := h0.1.cap
  obtain ⟨b0, o0, rfl, -, -⟩ := h0.1.cells (by omega)
  have hq := quo_big (n := n0 - 1) (by omega) (by omega)
  replace hst := hst.argRow h0
  obtain ⟨x0, hx0⟩ : ∃ x, es0[0]? = some x := ⟨_, List.getElem?_eq_getElem (by omega)⟩
  have hlx := hb x0 (List.mem_of_getElem? hx0)
  refine wp_seq ?_
  refine region_seq ?_
  refine sv (v := .string ⟨#[]⟩) henv rfl (rn_assign henv rfl) ?_
  clear henv a; intro a henv
  refine wpList_nil ?_
  refine th_n ?_
  refine wp_seq ?_
  refine wp_seq ?_
  refine region_seq ?_
  revert a
  refine mA rfl rfl ?_
  refine sA (v := .int .i64 (n0 : Nat)) rfl (fun _ henv => rn_len henv Tryd.underlying159 rfl) ?_
  intro a henv
  refine wpList_nil ?_
  refine th_n ?_
  refine wp_block ?_
  refine wp_seq ?_
  refine region_seq ?_
  refine sv (v := .bool (((n0 : Nat) : Int) == (0 : Int))) henv rfl (rn_bin henv rfl rfl rfl) ?_
  clear henv a; intro a henv
  rw [show (((n0 : Nat) : Int) == (0 : Int)) = false from (beq_eq_false_iff_ne.2 (by omega))] at henv
  refine sv (v := .bool false) henv rfl (rn_assign henv rfl) ?_
  clear henv a; intro a henv
  refine wpList_nil ?_
  refine th_n ?_
  refine if_f henv rfl (rfl) ?_
  refine wp_seq ?_
  refine region_seq ?_
  refine sv (v := .bool (((n0 : Nat) : Int) == (1 : Int))) henv rfl (rn_bin henv rfl rfl rfl) ?_
  clear henv a; intro a henv
  rw [show (((n0 : Nat) : Int) == (1 : Int)) = false from (beq_eq_false_iff_ne.2 (by omega))] at henv
  refine sv (v := .bool false) henv rfl (rn_assign henv rfl) ?_
  clear henv a; intro a henv
  refine wpList_nil ?_
  refine th_n ?_
  refine if_f henv rfl (rfl) ?_
  refine wp_skip ?_
  refine bl_n (th_n ?_)
  refine wp_seq ?_
  refine region_seq ?_
  refine sv (v := .int .i64 0) henv rfl (rn_assign henv rfl) ?_
  clear henv a; intro a henv
  refine wpList_nil ?_
  refine th_n ?_
  refine wp_seq ?_
  refine wp_seq ?_
  refine region_seq ?_
  revert a
  refine mA rfl rfl ?_
  refine sA (v := .int .i64 1) rfl (fun _ henv => rn_slen (s := ⟨#[32]⟩) henv Tryd.underlying9 rfl) ?_
  refine sA (v := .bool true) rfl (fun _ henv => rn_bin henv rfl rfl rfl) ?_
  intro a henv
  refine wpList_nil ?_
  refine th_n ?_
  refine if_t henv rfl (rfl) ?_
  refine wp_seq ?_
  refine wp_seq ?_
  refine region_seq ?_
  revert a
  refine mA rfl rfl ?_
  refine sA (v := .int .i64 1) rfl (fun _ henv => rn_slen (s := ⟨#[32]⟩) henv Tryd.underlying9 rfl) ?_
  refine mA rfl rfl ?_
  refine sA (v := .int .i64 (n0 : Nat)) rfl (fun _ henv => rn_len henv Tryd.underlying159 rfl) ?_
  refine sA (v := .int .i64 (n0 - 1 : Nat)) rfl (fun _ henv => rn_sub henv rfl rfl (by rw [IntWalk.i64_in _ (by omega)]; omega)) ?_
  refine sA (v := .int .i64 (9223372036854775807 / (n0 - 1) : Nat)) rfl (fun _ henv => rn_quo henv rfl rfl (by omega) (quo_i64 (t := 9223372036854775807) (c := n0 - 1) (by omega))) ?_
  refine sA (v := .bool (decide ((1 : Int) ≥ ((9223372036854775807 / (n0 - 1) : Nat) : Int)))) rfl (fun _ henv => rn_bin henv rfl rfl rfl) ?_
  intro a henv
  rw [show (decide ((1 : Int) ≥ ((9223372036854775807 / (n0 - 1) : Nat) : Int))) = false from decide_eq_false (by omega)] at henv
  refine wpList_nil ?_
  refine th_n ?_
  refine if_f henv rfl (rfl) ?_
  refine wp_skip ?_
  refine th_n ?_
  refine region_seq ?_
  revert a
  refine mA rfl rfl ?_
  refine mA rfl rfl ?_
  refine sA (v := .int .i64 1) rfl (fun _ henv => rn_slen (s := ⟨#[32]⟩) henv Tryd.underlying9 rfl) ?_
  refine mA rfl rfl ?_
  refine sA (v := .int .i64 (n0 : Nat)) rfl (fun _ henv => rn_len henv Tryd.underlying159 rfl) ?_
  refine sA (v := .int .i64 (n0 - 1 : Nat)) rfl (fun _ henv => rn_sub henv rfl rfl (by rw [IntWalk.i64_in _ (by omega)]; omega)) ?_
  refine sA (v := .int .i64 (1 * (n0 - 1) : Nat)) rfl (fun _ henv => rn_mul henv rfl rfl (by rw [IntWalk.i64_in _ (by omega)]; omega)) ?_
  refine sA (v := .int .i64 (0 + (1 * (n0 - 1)) : Nat)) rfl (fun _ henv => rn_add henv rfl rfl (by rw [IntWalk.i64_in _ (by omega)]; omega)) ?_
  refine aA rfl rfl ?_
  intro a henv
  refine wpList_nil ?_
  refine th_n ?_
  refine wp_seq ?_
  refine wp_seq ?_
  refine region_seq ?_
  revert a
  refine mA rfl rfl ?_
  refine sA (v := .int .i64 (n0 : Nat)) rfl (fun _ henv => rn_len henv Tryd.underlying159 rfl) ?_
  refine mA rfl rfl ?_
  intro a henv
  refine wpList_nil ?_
  refine th_n ?_
  refine wp_block ?_
  refine wp_loop_ghost (fun mz a w => ∃ j : Nat, ∃ T : Nat, n0 - j = mz ∧ Env 75 a [(0, .slice (some ⟨b0, o0, none⟩) n0 c0), (1, .string ⟨#[32]⟩), (39, .slice (some ⟨b0, o0, none⟩) n0 c0), (40, .int .i64 (n0 : Nat)), (41, .int .i64 (j : Nat)), (5, .int .i64 (T : Nat))] ∧ St w0 w [] [pfRow fS FTx 1 (some ⟨b0, o0, none⟩) n0 c0 es0] ∧ j ≤ n0 ∧ T ≤ n0 + j * 1000000) _ ⟨0, 0 + (1 * (n0 - 1)), rfl, henv.sub ⟨rfl, rfl, rfl, rfl, rfl, rfl, trivial⟩, hst.pick [] [0] (by decide), (Nat.zero_le _), (by omega)⟩ ?_
  clear henv hst a
  rintro mz a w1 ⟨j, T, rfl, henv, hst, hj, hT⟩
  refine wp_seq ?_
  refine region_seq ?_
  refine sv (v := .bool (decide (((j : Nat) : Int) < ((n0 : Nat) : Int)))) henv rfl (rn_bin henv rfl rfl rfl) ?_
  clear henv a; intro a henv
  refine wpList_nil ?_
  refine th_n ?_
  refine wp_seq ?_
  refine if_split henv rfl (fun hc2 => ?_) (fun hc2 => ?_)
  · have hlt : j < n0 := by have := of_decide_eq_true hc2; omega
    obtain ⟨x, hx⟩ : ∃ x, es0[j]? = some x := ⟨_, List.getElem?_eq_getElem (by omega)⟩
    have hl2 := hb x (List.mem_of_getElem? hx)
    refine wp_skip ?_
    refine th_n ?_
    refine wp_seq ?_
    refine wp_block ?_
    refine wp_seq ?_
    refine region_seq ?_
    revert a
    refine sA (v := .pointer (some ⟨ab (some ⟨b0, o0, none⟩), ao (some ⟨b0, o0, none⟩) + j * 1, none⟩)) rfl (fun _ henv => rn_idxR (i := j) henv Tryd.underlying159 (ty_string.size) rfl rfl (by omega) rfl (show (pfRow fS FTx 1 (some ⟨b0, o0, none⟩) n0 c0 es0).P _ from (hst.pat (k := 0) rfl)).1) ?_
    refine sA (v := .string ⟨x.toArray⟩) rfl (fun _ henv => rn_loadE1 (i := j) (j := 0) (e := x) henv ty_string rfl rfl fS_len (by decide) (show (pfRow fS FTx 1 (some ⟨b0, o0, none⟩) n0 c0 es0).P _ from (hst.pat (k := 0) rfl)).1 (by omega) hx rfl) ?_
    refine aA rfl rfl ?_
    intro a henv
    refine wpList_nil ?_
    refine th_n ?_
    refine wp_seq ?_
    refine wp_seq ?_
    refine region_seq ?_
    revert a
    refine mA rfl rfl ?_
    refine sA (v := .int .i64 (x.length : Nat)) rfl (fun _ henv => rn_lenS henv Tryd.underlying9 rfl) ?_
    refine mA rfl rfl ?_
    refine sA (v := .int .i64 (9223372036854775807 - T : Nat)) rfl (fun _ henv => rn_sub henv rfl rfl (by rw [IntWalk.i64_in _ (by omega)]; omega)) ?_
    refine sA (v := .bool (decide (((x.length : Nat) : Int) > ((9223372036854775807 - T : Nat) : Int)))) rfl (fun _ henv => rn_bin henv rfl rfl rfl) ?_
    intro a henv
    rw [show (decide (((x.length : Nat) : Int) > ((9223372036854775807 - T : Nat) : Int))) = false from decide_eq_false (by omega)] at henv
    refine wpList_nil ?_
    refine th_n ?_
    refine if_f henv rfl (rfl) ?_
    refine wp_skip ?_
    refine th_n ?_
    refine region_seq ?_
    revert a
    refine mA rfl rfl ?_
    refine mA rfl rfl ?_
    refine sA (v := .int .i64 (x.length : Nat)) rfl (fun _ henv => rn_lenS henv Tryd.underlying9 rfl) ?_
    refine sA (v := .int .i64 (T + x.length : Nat)) rfl (fun _ henv => rn_add henv rfl rfl (by rw [IntWalk.i64_in _ (by omega)]; omega)) ?_
    refine aA rfl rfl ?_
    intro a henv
    refine wpList_nil ?_
    refine bl_n (th_n ?_)
    refine region_seq ?_
    revert a
    refine sA (v := .int .i64 (j + 1 : Nat)) rfl (fun _ henv => rn_add henv rfl rfl (by rw [IntWalk.i64_in _ (by omega)]; omega)) ?_
    refine mA rfl rfl ?_
    intro a henv
    refine wpList_nil ?_
    exact th_n ⟨_, (by omega), ⟨j + 1, T + x.length, rfl, henv.sub ⟨rfl, rfl, rfl, rfl, rfl, rfl, trivial⟩, hst.pick [] [0] (by decide), (by omega), (by omega)⟩⟩
  · have hjn : j = n0 := by have := of_decide_eq_false hc2; omega
    refine wp_exit ?_
    refine th_x (th_x (bl_x (th_n ?_)))
    refine wp_seq ?_
    refine region_seq ?_
    refine seq_step rfl (op_alloc (c := #[.pointer none, .slice none 0 0]) henv hst rfl zero_strings_Builder rfl ?_)
    clear henv hst a; intro a w4 g3 henv hst
    refine wpList_nil ?_
    refine th_n ?_
    refine wp_seq ?_
    refine region_seq ?_
    refine sv (v := .int .i64 (T : Nat)) henv rfl (rn_move henv rfl) ?_
    clear henv a; intro a henv
    replace hst := hst.bld (k := 0) rfl
    refine seq_step rfl (op_growB (k := 0) (n := T) henv hst rfl rfl rfl rfl (by omega) ?_)
    clear henv hst a; intro a w5 v6 henv hst
    replace hst : St w0 w5 [bldF g3 v6 ([] : List UInt8).length (byteCells ([] : List UInt8))] [pfRow fS FTx 1 (some ⟨b0, o0, none⟩) n0 c0 es0] := hst
    refine wpList_nil ?_
    refine th_n ?_
    refine wp_seq ?_
    refine region_seq ?_
    revert a
    refine mA rfl rfl ?_
    refine sA (v := .pointer (some ⟨ab (some ⟨b0, o0, none⟩), ao (some ⟨b0, o0, none⟩) + 0 * 1, none⟩)) rfl (fun _ henv => rn_idxR (i := 0) henv Tryd.underlying159 (ty_string.size) rfl rfl (by omega) rfl (show (pfRow fS FTx 1 (some ⟨b0, o0, none⟩) n0 c0 es0).P _ from (hst.pat (k := 0) rfl)).1) ?_
    refine sA (v := .string ⟨x0.toArray⟩) rfl (fun _ henv => rn_loadE1 (i := 0) (j := 0) (e := x0) henv ty_string rfl rfl fS_len (by decide) (show (pfRow fS FTx 1 (some ⟨b0, o0, none⟩) n0 c0 es0).P _ from (hst.pat (k := 0) rfl)).1 (by omega) hx0 rfl) ?_
    intro a henv
    refine seq_step rfl (op_write (s := ⟨(x0 : List UInt8).toArray⟩) (k := 0) henv hst rfl rfl rfl rfl (by rw [ba_size]; simp only [List.length_append, List.length_cons, List.length_nil]; omega) ?_)
    clear henv hst a; intro a w7 v8 henv hst
    rw [ba_size, byteCells_app, ← List.length_append] at hst
    rw [List.nil_append] at hst
    refine wpList_nil ?_
    refine th_n ?_
    refine wp_seq ?_
    refine wp_seq ?_
    refine region_seq ?_
    revert a
    refine mA rfl rfl ?_
    refine sA (v := .slice (some ⟨b0, o0 + 1, none⟩) (n0 - 1) (c0 - 1)) rfl (fun _ henv => rn_sliceFrom (m := 1) henv Tryd.underlying159 (ty_string.size) rfl rfl (by omega) (by omega)) ?_
    refine sA (v := .int .i64 ((n0 - 1) : Nat)) rfl (fun _ henv => rn_len henv Tryd.underlying159 rfl) ?_
    refine mA rfl rfl ?_
    intro a henv
    refine wpList_nil ?_
    refine th_n ?_
    refine wp_block ?_
    replace hst := hst.dropRow (i := 0) rfl 1 fS_len (by omega)
    have hlend : (es0.drop 1).length = n0 - 1 := by rw [List.length_drop, hlen0]
    replace hst : St w0 w7 [bldF g3 v8 (jt x0 (es0.drop 1) 0).length (byteCells (jt x0 (es0.drop 1) 0))] [pfRow fS FTx 1 (some ⟨b0, o0 + 1, none⟩) (n0 - 1) (c0 - 1) (es0.drop 1)] := by rw [jt_zero]; exact hst.pick [0] [0] (by decide)
    refine wp_loop_ghost (fun mz a w => ∃ k : Nat, ∃ vb : Value, n0 - 1 - k = mz ∧ Env 75 a [(8, .pointer (some ⟨g3, 0, none⟩)), (1, .string ⟨#[32]⟩), (63, .slice (some ⟨b0, o0 + 1, none⟩) (n0 - 1) (c0 - 1)), (64, .int .i64 (n0 - 1 : Nat)), (65, .int .i64 (k : Nat))] ∧ St w0 w [bldF g3 vb (jt x0 (es0.drop 1) k).length (byteCells (jt x0 (es0.drop 1) k))] [pfRow fS FTx 1 (some ⟨b0, o0 + 1, none⟩) (n0 - 1) (c0 - 1) (es0.drop 1)] ∧ k ≤ n0 - 1 ∧ (jt x0 (es0.drop 1) k).length ≤ (k + 1) * 1000001) _ ⟨0, v8, rfl, henv.sub ⟨rfl, rfl, rfl, rfl, rfl, trivial⟩, hst.pick [0] [0] (by decide), (Nat.zero_le _), (by rw [jt_zero]; omega)⟩ ?_
    clear henv hst a
    rintro mz a w9 ⟨k, vb, rfl, henv, hst, hk, hX⟩
    refine wp_seq ?_
    refine region_seq ?_
    refine sv (v := .bool (decide (((k : Nat) : Int) < ((n0 - 1 : Nat) : Int)))) henv rfl (rn_bin henv rfl rfl rfl) ?_
    clear henv a; intro a henv
    refine wpList_nil ?_
    refine th_n ?_
    refine wp_seq ?_
    refine if_split henv rfl (fun hc10 => ?_) (fun hc10 => ?_)
    · have hlt : k < n0 - 1 := by have := of_decide_eq_true hc10; omega
      obtain ⟨t, ht⟩ : ∃ t, (es0.drop 1)[k]? = some t := ⟨_, List.getElem?_eq_getElem (by omega)⟩
      have hlt2 := hb t (List.mem_of_mem_drop (List.mem_of_getElem? ht))
      refine wp_skip ?_
      refine th_n ?_
      refine wp_seq ?_
      refine wp_block ?_
      refine wp_seq ?_
      refine region_seq ?_
      revert a
      refine sA (v := .pointer (some ⟨ab (some ⟨b0, o0 + 1, none⟩), ao (some ⟨b0, o0 + 1, none⟩) + k * 1, none⟩)) rfl (fun _ henv => rn_idxR (i := k) henv Tryd.underlying159 (ty_string.size) rfl rfl (by omega) rfl (show (pfRow fS FTx 1 (some ⟨b0, o0 + 1, none⟩) (n0 - 1) (c0 - 1) (es0.drop 1)).P _ from (hst.pat (k := 0) rfl)).1) ?_
      refine sA (v := .string ⟨t.toArray⟩) rfl (fun _ henv => rn_loadE1 (i := k) (j := 0) (e := t) henv ty_string rfl rfl fS_len (by decide) (show (pfRow fS FTx 1 (some ⟨b0, o0 + 1, none⟩) (n0 - 1) (c0 - 1) (es0.drop 1)).P _ from (hst.pat (k := 0) rfl)).1 (by omega) ht rfl) ?_
      refine aA rfl rfl ?_
      intro a henv
      refine wpList_nil ?_
      refine th_n ?_
      refine wp_seq ?_
      refine region_seq ?_
      refine sv (v := .string ⟨#[32]⟩) henv rfl (rn_move henv rfl) ?_
      clear henv a; intro a henv
      refine seq_step rfl (op_write (s := ⟨([32] : List UInt8).toArray⟩) (k := 0) henv hst rfl rfl rfl rfl (by rw [ba_size]; simp only [List.length_append, List.length_cons, List.length_nil]; omega) ?_)
      clear henv hst a; intro a w11 v12 henv hst
      rw [ba_size, byteCells_app, ← List.length_append] at hst
      refine wpList_nil ?_
      refine th_n ?_
      refine region_seq ?_
      refine sv (v := .string ⟨t.toArray⟩) henv rfl (rn_move henv rfl) ?_
      clear henv a; intro a henv
      refine seq_step rfl (op_write (s := ⟨(t : List UInt8).toArray⟩) (k := 0) henv hst rfl rfl rfl rfl (by rw [ba_size]; simp only [List.length_append, List.length_cons, List.length_nil]; omega) ?_)
      clear henv hst a; intro a w13 v14 henv hst
      rw [ba_size, byteCells_app, ← List.length_append] at hst
      refine wpList_nil ?_
      refine bl_n (th_n ?_)
      refine region_seq ?_
      revert a
      refine sA (v := .int .i64 (k + 1 : Nat)) rfl (fun _ henv => rn_add henv rfl rfl (by rw [IntWalk.i64_in _ (by omega)]; omega)) ?_
      refine mA rfl rfl ?_
      intro a henv
      refine wpList_nil ?_
      rw [show (jt x0 (es0.drop 1) k ++ [32]) ++ t = jt x0 (es0.drop 1) (k + 1) by rw [jt_step ht]; simp] at hst
      exact th_n ⟨_, (by omega), ⟨k + 1, v14, rfl, henv.sub ⟨rfl, rfl, rfl, rfl, rfl, trivial⟩, hst.pick [0] [0] (by decide), (by omega), (by rw [jt_step ht, List.length_append, List.length_cons]; omega)⟩⟩
    · obtain rfl : k = n0 - 1 := by have := of_decide_eq_false hc10; omega
      refine wp_exit ?_
      refine th_x (th_x (bl_x (th_n ?_)))
      refine wp_seq ?_
      refine region_seq ?_
      refine seq_step rfl (op_bstr (k := 0) henv hst rfl rfl rfl ?_)
      clear henv hst a; intro a w15 henv hst
      refine sv (v := .string ⟨(jt x0 (es0.drop 1) (n0 - 1)).toArray⟩) henv rfl (rn_assign henv rfl) ?_
      clear henv a; intro a henv
      refine wpList_nil ?_
      refine th_n ?_
      refine wp_ret ?_
      refine leave henv (res1 Tryd.results114 (RV.tmp henv rfl)) ?_
      exact ⟨by rw [jn_all hx0 (by omega)], hst.below⟩
theorem str_join {A0 : Option Addr} {n0 c0 : Nat} {es0 : List (List UInt8)} {w0 : World} (h0 : (pfRow fS FTx 1 A0 n0 c0 es0).P w0) (hb : ∀ s ∈ es0, s.length ≤ 1000000) (hn : n0 ≤ 1000000) :
    Calls Tryd.prog 114 #[.slice A0 n0 c0, .string ⟨#[32]⟩] w0 fun e w' => e = .returned (.string ⟨(jn es0).toArray⟩) ∧ Below w0.heap.size w0 w' := by
  rcases (show n0 = 0 ∨ n0 = 1 ∨ 2 ≤ n0 by omega) with h | h | h
  · exact join_0 h0 hb h
  · exact join_1 h0 hb h
  · exact join_n h0 hb h hn
set_option maxRecDepth 100000 in
set_option maxHeartbeats 2000000 in
theorem row_text {A0 : Option Addr} {n0 c0 : Nat} {es0 : List NE} {w0 : World} (h0 : (pfRow fN FN 2 A0 n0 c0 es0).P w0) (hz : ZB 90000 es0) (hn : n0 ≤ 1000000) :
    Calls Tryd.prog 52 #[.slice A0 n0 c0] w0 fun e w' => e = .returned (.string ⟨(textRow (es0.map zz)).toArray⟩) ∧ Below w0.heap.size w0 w' := by
  refine enter Tryd.func52 rfl Tryd.ntmps52 rfl ?_
  intro a henv hst
  have hlen0 := h0.2.1
  have hbig0 := Nat.le_trans h0.1.cap h0.1.big
  unfold maxLen at hbig0
  replace hst := hst.argRow h0
  clear h0
  refine wp_seq ?_
  refine region_seq ?_
  refine sv (v := .string ⟨#[]⟩) henv rfl (rn_assign henv rfl) ?_
  clear henv a; intro a henv
  refine wpList_nil ?_
  refine th_n ?_
  refine wp_seq ?_
  refine region_seq ?_
  refine sv (v := .slice none 0 0) henv rfl (rn_assign henv rfl) ?_
  clear henv a; intro a henv
  refine wpList_nil ?_
  refine th_n ?_
  refine wp_seq ?_
  refine wp_seq ?_
  refine region_seq ?_
  revert a
  refine mA rfl rfl ?_
  refine sA (v := .int .i64 (n0 : Nat)) rfl (fun _ henv => rn_len henv Tryd.underlying30 rfl) ?_
  refine mA rfl rfl ?_
  intro a henv
  refine wpList_nil ?_
  refine th_n ?_
  refine wp_block ?_
  replace hst := hst.addRowS notU 9 1
  replace hst : St w0 _ [rowS notU 9 1 none 0 0 (fl fS ([]))] [pfRow fN FN 2 A0 n0 c0 es0] := hst
  refine wp_loop_ghost (fun mz a w => ∃ j : Nat, ∃ B : Option Addr, ∃ d : Nat, ∃ os : List (List UInt8), n0 - j = mz ∧ Env 22 a [(6, .slice A0 n0 c0), (7, .int .i64 (n0 : Nat)), (8, .int .i64 (j : Nat)), (3, .slice B j d)] ∧ St w0 w [rowS notU 9 1 B j d (fl fS os)] [pfRow fN FN 2 A0 n0 c0 es0] ∧ j ≤ n0 ∧ os = ((es0.map zz).take j).map textZ) _ ⟨0, none, 0, [], rfl, henv.sub ⟨rfl, rfl, rfl, rfl, trivial⟩, hst.pick [0] [0] (by decide), (Nat.zero_le _), rfl⟩ ?_
  clear henv hst a
  rintro mz a w1 ⟨j, B, d, os, rfl, henv, hst, hj, ho⟩
  refine wp_seq ?_
  refine region_seq ?_
  refine sv (v := .bool (decide (((j : Nat) : Int) < ((n0 : Nat) : Int)))) henv rfl (rn_bin henv rfl rfl rfl) ?_
  clear henv a; intro a henv
  refine wpList_nil ?_
  refine th_n ?_
  refine wp_seq ?_
  refine if_split henv rfl (fun hc2 => ?_) (fun hc2 => ?_)
  · have hlt : j < n0 := by have := of_decide_eq_true hc2; omega
    obtain ⟨⟨A, c, z⟩, he0⟩ : ∃ e, es0[j]? = some e := ⟨_, List.getElem?_eq_getElem (by omega)⟩
    replace hst := hst.elem (k := 0) rfl he0
    replace hst : St w0 _ [rowS notU 9 1 B j d (fl fS os)] [pfZ A c z, pfRow fN FN 2 A0 n0 c0 es0] := hst
    have hzb := hz.at he0
    refine wp_skip ?_
    refine th_n ?_
    refine wp_seq ?_
    refine wp_block ?_
    refine wp_seq ?_
    refine region_seq ?_
    revert a
    refine sA (v := .pointer (some ⟨ab A0, ao A0 + j * 2, none⟩)) rfl (fun _ henv => rn_idxR (i := j) henv Tryd.underlying30 (ty_anvil_integer_Int.size) rfl rfl (by omega) rfl (show (pfRow fN FN 2 A0 n0 c0 es0).P _ from (hst.pat (k := 1) rfl)).1) ?_
    refine sA (v := .agg #[.bool (neg z), .slice A (zl z) c]) rfl (fun _ henv => rn_loadE (i := j) (e := (A, c, z)) henv ty_anvil_integer_Int rfl rfl fN_len (show (pfRow fN FN 2 A0 n0 c0 es0).P _ from (hst.pat (k := 1) rfl)).1 (by omega) he0 rfl) ?_
    intro a henv
    refine seq_step rfl (op_alloc (c := #[.bool (neg 0), .slice none (zl 0) 0]) henv hst rfl zero_anvil_integer_Int zcells ?_)
    clear henv hst a; intro a w4 g3 henv hst
    refine seq_step rfl (op_store (k := 0) (c' := #[.bool (neg z), .slice A (zl z) c]) henv hst (ty_anvil_integer_Int.size) rfl rfl rfl rfl (by simp) rfl rfl ?_)
    clear henv hst a; intro a w5 henv hst
    refine wpList_nil ?_
    refine th_n ?_
    refine region_seq ?_
    revert a
    refine mA rfl rfl ?_
    refine sA (v := .agg #[.bool (neg z), .slice A (zl z) c]) rfl (fun _ henv => rn_load0 henv ty_anvil_integer_Int rfl (hst.oat (k := 0) rfl) rfl) ?_
    intro a henv
    refine seq_step rfl (op_call henv rfl Tryd.call72 rfl (text_z (z := z) (show ZIn _ A c z from hst.pat (k := 0) rfl) (by omega)) ?_)
    rintro e w6 ⟨rfl, hb⟩
    refine ⟨_, rfl, ?_⟩
    clear henv a; intro a henv
    replace hst := hst.call hb
    clear hb
    refine seq_step rfl (op_buildSlice (z := 1) (pv := #[(0, .string ⟨(textZ z).toArray⟩)]) (c := #[.string ⟨(textZ z).toArray⟩]) henv hst rfl Tryd.underlying159 (ty_string.size) zero_string (by decide) (by decide) rfl (by kernel_rfl) ?_)
    clear henv hst a; intro a w8 g7 henv hst
    refine seq_step rfl (op_appendS (k := 2) (j := 0) henv hst rfl Tryd.underlying159 inf_string rfl rfl rfl rfl rfl rfl rfl rfl rfl rfl rfl (by unfold maxLen; omega) (by omega) ?_)
    clear henv hst a; intro a w11 g9 c10 henv hst
    rw [show fl fS os ++ (#[.string ⟨(textZ z).toArray⟩] : Array Value).toList = fl fS (os ++ [(textZ z)]) from fl_snoc (f := fS) os (textZ z)] at hst
    refine sv (v := .slice (some ⟨g9, 0, none⟩) (j + 1) c10) henv rfl (rn_assign henv rfl) ?_
    clear henv a; intro a henv
    refine wpList_nil ?_
    refine bl_n (th_n ?_)
    refine region_seq ?_
    revert a
    refine sA (v := .int .i64 (j + 1 : Nat)) rfl (fun _ henv => rn_add henv rfl rfl (by rw [IntWalk.i64_in _ (by omega)]; omega)) ?_
    refine mA rfl rfl ?_
    intro a henv
    refine wpList_nil ?_
    exact th_n ⟨_, (by omega), ⟨j + 1, (some ⟨g9, 0, none⟩), c10, (os ++ [(textZ z)]), rfl, henv.sub ⟨rfl, rfl, rfl, rfl, trivial⟩, hst.pick [2] [1] (by decide), (by omega), (step_txt ho he0)⟩⟩
  · obtain rfl : j = n0 := by have := of_decide_eq_false hc2; omega
    refine wp_exit ?_
    refine th_x (th_x (bl_x (th_n ?_)))
    refine wp_seq ?_
    refine region_seq ?_
    refine sv (v := .slice B j d) henv rfl (rn_move henv rfl) ?_
    clear henv a; intro a henv
    have hol : os.length = j := by rw [ho, List.length_map, List.length_take, List.length_map]; omega
    have hob : ∀ s ∈ os, s.length ≤ 1000000 := by rw [ho]; exact txt_bd hz
    have hjl := jn_len hob
    replace hst := (hst.addT0s FTx (fun _ => rfl) os).giveRow (k := 0) (j := 0) rfl rfl hol
    refine seq_step rfl (op_call henv rfl Tryd.call114 rfl (str_join (hst.pat (k := 0) rfl) hob (by omega)) ?_)
    rintro e w12 ⟨rfl, hb⟩
    refine ⟨_, rfl, ?_⟩
    clear henv a; intro a henv
    replace hst := hst.call hb
    clear hb
    revert a
    refine sA (v := .string ⟨(([91]) ++ (jn os)).toArray⟩) rfl (fun _ henv => rn_catS (s := [91]) (t := (jn os)) henv rfl rfl (by simp only [List.length_append, List.length_cons, List.length_nil]; omega)) ?_
    refine sA (v := .string ⟨((([91]) ++ (jn os)) ++ ([93])).toArray⟩) rfl (fun _ henv => rn_catS (s := (([91]) ++ (jn os))) (t := [93]) henv rfl rfl (by simp only [List.length_append, List.length_cons, List.length_nil]; omega)) ?_
    refine aA rfl rfl ?_
    intro a henv
    refine wpList_nil ?_
    refine th_n ?_
    refine wp_ret ?_
    refine leave henv (res1 Tryd.results52 (RV.tmp henv rfl)) ?_
    exact ⟨by rw [ho, List.take_of_length_le (by rw [List.length_map]; omega)]; simp [textRow], hst.below⟩
end Go.Proofs.YtegglooojlheoaaDoor.W

/- row.Zero, Unit, IsZero; the laws' live; RowMakes. Printed by pv/gen_row2.py. No condition. -/
namespace Go.Proofs.YtegglooojlheoaaDoor.W
open Go.RowKit Anv Go.Lib
theorem fN_zero : fN (none, 0, 0) = (Value.agg #[.bool false, .slice none 0 0]).cells.toList := by
  show [Value.bool (neg 0), Value.slice none (zl 0) 0] = _
  rw [neg_zero, zl_zero]; rfl
theorem es_zeros (n : Nat) (w : World) : (pfEs FN (List.replicate n (none, 0, 0))).P w := fun e he => by
  rw [List.eq_of_mem_replicate he]
  exact zin_none w
def allz (es : List NE) : Bool := es.all fun e => decide (zz e = 0)
theorem allz_yes {es : List NE} {n : Nat} (h : ∀ i e, i < n → es[i]? = some e → zz e = 0) (hl : es.length = n) : allz es = true := by
  refine List.all_eq_true.2 fun e he => ?_
  obtain ⟨i, hi⟩ := List.getElem?_of_mem he
  exact decide_eq_true (h i e (by have := (List.getElem?_eq_some_iff.1 hi).1; omega) hi)
theorem allz_no {es : List NE} {j : Nat} {A : Option Addr} {c : Nat} {z : Int} (he : es[j]? = some (A, c, z)) (hz : z ≠ 0) : allz es = false := by
  refine Bool.eq_false_iff.2 fun h => hz ?_
  exact of_decide_eq_true (List.all_eq_true.1 h _ (List.mem_of_getElem? he))
theorem zb_of {es : List NE} {zs : List Int} {k : Nat} (h : es.map zz = zs) (hb : ∀ z ∈ zs, z.natAbs < 4294967296 ^ 1) : ZB (k + 1) es := fun e he => by
  have h1 := hb (zz e) (h ▸ List.mem_map_of_mem he)
  have h2 := nl_le_of_lt h1
  exact Nat.le_trans h2 (by omega)
theorem live_zs {a b : List NE} (h : a.map zz = [1, 2]) (k : b.map zz = [3, -4]) : List.zipWith (· + ·) (a.map zz) (b.map zz) = [4, -2] := by rw [h, k]; rfl
theorem zb_live {es : List NE} (h : es.map zz = [4, -2]) : ZB 90000 es := zb_of (k := 89999) h (by decide)
theorem live_text {a b c : List NE} (h : a.map zz = [1, 2]) (k : b.map zz = [3, -4]) (m : c.map zz = List.zipWith (· + ·) (a.map zz) (b.map zz)) : textRow (c.map zz) = [91, 52, 32, 45, 50, 93] := by
  rw [m, live_zs h k]
  decide +kernel
set_option maxRecDepth 100000 in
set_option maxHeartbeats 2000000 in
theorem row_zero_neg {i : Int} {w0 : World} (h : i < 0) :
    Calls Tryd.prog 37 #[.int .i64 i] w0 fun e w' => e = .returned (.tuple #[.slice none 0 0, .int .i64 2]) ∧ Below w0.heap.size w0 w' := by
  refine enter Tryd.func37 rfl Tryd.ntmps37 rfl ?_
  intro a henv hst
  refine wp_seq ?_
  refine region_seq ?_
  revert a
  refine aA rfl rfl ?_
  refine aA rfl rfl ?_
  intro a henv
  refine wpList_nil ?_
  refine th_n ?_
  refine wp_seq ?_
  refine wp_seq ?_
  refine region_seq ?_
  revert a
  refine mA rfl rfl ?_
  refine sA (v := .bool (decide (i < (0 : Int)))) rfl (fun _ henv => rn_bin henv rfl rfl rfl) ?_
  intro a henv
  rw [show (decide (i < (0 : Int))) = true from decide_eq_true (by omega)] at henv
  revert a
  refine mA rfl rfl ?_
  refine kA rfl rfl rfl rfl rfl ?_
  refine kA rfl rfl rfl rfl rfl ?_
  refine sA (v := .bool true) rfl (fun _ henv => rn_pick henv rfl rfl) ?_
  intro a henv
  refine wpList_nil ?_
  refine th_n ?_
  refine if_t henv rfl (rfl) ?_
  refine wp_seq ?_
  refine region_seq ?_
  revert a
  refine aA rfl rfl ?_
  refine aA rfl rfl ?_
  intro a henv
  refine wpList_nil ?_
  refine th_n ?_
  refine wp_ret ?_
  refine th_r ?_
  refine leave henv (res2 Tryd.results37 (RV.tmp henv rfl) (RV.tmp henv rfl)) ?_
  exact ⟨rfl, hst.below⟩
set_option maxRecDepth 100000 in
set_option maxHeartbeats 2000000 in
theorem row_zero_big {i : Int} {w0 : World} (h : 4096 < i) :
    Calls Tryd.prog 37 #[.int .i64 i] w0 fun e w' => e = .returned (.tuple #[.slice none 0 0, .int .i64 2]) ∧ Below w0.heap.size w0 w' := by
  refine enter Tryd.func37 rfl Tryd.ntmps37 rfl ?_
  intro a henv hst
  refine wp_seq ?_
  refine region_seq ?_
  revert a
  refine aA rfl rfl ?_
  refine aA rfl rfl ?_
  intro a henv
  refine wpList_nil ?_
  refine th_n ?_
  refine wp_seq ?_
  refine wp_seq ?_
  refine region_seq ?_
  revert a
  refine mA rfl rfl ?_
  refine sA (v := .bool (decide (i < (0 : Int)))) rfl (fun _ henv => rn_bin henv rfl rfl rfl) ?_
  intro a henv
  rw [show (decide (i < (0 : Int))) = false from decide_eq_false (by omega)] at henv
  revert a
  refine mA rfl rfl ?_
  refine gA (v := .int .i64 i) rfl rfl rfl rfl (fun _ henv => rn_move henv rfl) ?_
  refine gA (v := .bool (decide (i > (4096 : Int)))) rfl rfl rfl rfl (fun _ henv => rn_bin henv rfl rfl rfl) ?_
  intro a henv
  rw [show (decide (i > (4096 : Int))) = true from decide_eq_true (by omega)] at henv
  refine sv (v := .bool true) henv rfl (rn_pick henv rfl rfl) ?_
  clear henv a; intro a henv
  refine wpList_nil ?_
  refine th_n ?_
  refine if_t henv rfl (rfl) ?_
  refine wp_seq ?_
  refine region_seq ?_
  revert a
  refine aA rfl rfl ?_
  refine aA rfl rfl ?_
  intro a henv
  refine wpList_nil ?_
  refine th_n ?_
  refine wp_ret ?_
  refine th_r ?_
  refine leave henv (res2 Tryd.results37 (RV.tmp henv rfl) (RV.tmp henv rfl)) ?_
  exact ⟨rfl, hst.below⟩
set_option maxRecDepth 100000 in
set_option maxHeartbeats 2000000 in
theorem row_zero_ok {n : Nat} {w0 : World} (h : n ≤ 4096) :
    Calls Tryd.prog 37 #[.int .i64 (n : Nat)] w0 fun e w' => ∃ v, e = .returned (.tuple #[v, .int .i64 0]) ∧ ZRow w0.heap.size w' v n (List.replicate n 0) ∧ Below w0.heap.size w0 w' := by
  refine enter Tryd.func37 rfl Tryd.ntmps37 rfl ?_
  intro a henv hst
  refine wp_seq ?_
  refine region_seq ?_
  revert a
  refine aA rfl rfl ?_
  refine aA rfl rfl ?_
  intro a henv
  refine wpList_nil ?_
  refine th_n ?_
  refine wp_seq ?_
  refine wp_seq ?_
  refine region_seq ?_
  revert a
  refine mA rfl rfl ?_
  refine sA (v := .bool (decide (((n : Nat) : Int) < (0 : Int)))) rfl (fun _ henv => rn_bin henv rfl rfl rfl) ?_
  intro a henv
  rw [show (decide (((n : Nat) : Int) < (0 : Int))) = false from decide_eq_false (by omega)] at henv
  revert a
  refine mA rfl rfl ?_
  refine gA (v := .int .i64 (n : Nat)) rfl rfl rfl rfl (fun _ henv => rn_move henv rfl) ?_
  refine gA (v := .bool (decide (((n : Nat) : Int) > (4096 : Int)))) rfl rfl rfl rfl (fun _ henv => rn_bin henv rfl rfl rfl) ?_
  intro a henv
  rw [show (decide (((n : Nat) : Int) > (4096 : Int))) = false from decide_eq_false (by omega)] at henv
  refine sv (v := .bool false) henv rfl (rn_pick henv rfl rfl) ?_
  clear henv a; intro a henv
  refine wpList_nil ?_
  refine th_n ?_
  refine if_f henv rfl (rfl) ?_
  refine wp_skip ?_
  refine th_n ?_
  refine wp_seq ?_
  refine region_seq ?_
  refine sv (v := .int .i64 (n : Nat)) henv rfl (rn_move henv rfl) ?_
  clear henv a; intro a henv
  refine seq_step rfl (op_makeS (f := fN) (e0 := (none, 0, 0)) (q := notU) (n := n) henv hst rfl Tryd.underlying30 inf_anvil_integer_Int rfl rfl fN_zero rfl rfl rfl (by omega) (by unfold maxLen; omega) ?_)
  clear henv hst a; intro a w2 g1 henv hst
  replace hst := hst.addNs (es_zeros n _) ⟨nou_rowS, trivial⟩
  revert a
  refine aA rfl rfl ?_
  refine aA rfl rfl ?_
  intro a henv
  refine wpList_nil ?_
  refine th_n ?_
  refine wp_ret ?_
  refine leave henv (res2 Tryd.results37 (RV.tmp henv rfl) (RV.tmp henv rfl)) ?_
  exact ⟨_, rfl, ⟨_, _, _, rfl, hst.newRow (k := 0) (j := 0) rfl rfl, List.length_replicate, List.map_replicate⟩, hst.below⟩
theorem row_zero_bad {i : Int} {w0 : World} (h : i < 0 ∨ 4096 < i) :
    Calls Tryd.prog 37 #[.int .i64 i] w0 fun e w' => e = .returned (.tuple #[.slice none 0 0, .int .i64 2]) ∧ Below w0.heap.size w0 w' := by
  rcases h with h | h
  · exact row_zero_neg h
  · exact row_zero_big h
set_option maxRecDepth 100000 in
set_option maxHeartbeats 2000000 in
theorem row_unit_bad {i k : Int} {w0 : World} (hbad : i < 0 ∨ 4096 < i) :
    Calls Tryd.prog 38 #[.int .i64 i, .int .i64 k] w0 fun e w' => e = .returned (.tuple #[.slice none 0 0, .int .i64 2]) ∧ Below w0.heap.size w0 w' := by
  refine enter Tryd.func38 rfl Tryd.ntmps38 rfl ?_
  intro a henv hst
  refine wp_seq ?_
  refine region_seq ?_
  revert a
  refine aA rfl rfl ?_
  refine aA rfl rfl ?_
  intro a henv
  refine wpList_nil ?_
  refine th_n ?_
  refine wp_seq ?_
  refine region_seq ?_
  refine sv (v := .int .i64 i) henv rfl (rn_move henv rfl) ?_
  clear henv a; intro a henv
  refine seq_step rfl (op_call henv rfl Tryd.call37 rfl (row_zero_bad hbad) ?_)
  rintro e w1 ⟨rfl, hb⟩
  refine ⟨_, rfl, ?_⟩
  clear henv a; intro a henv
  replace hst := hst.call hb
  clear hb
  revert a
  refine mA rfl rfl ?_
  refine sA (v := .slice none 0 0) rfl (fun _ henv => rn_extract henv rfl rfl) ?_
  refine sA (v := .int .i64 2) rfl (fun _ henv => rn_extract henv rfl rfl) ?_
  refine aA rfl rfl ?_
  refine aA rfl rfl ?_
  intro a henv
  refine wpList_nil ?_
  refine th_n ?_
  refine wp_seq ?_
  refine wp_block ?_
  refine wp_seq ?_
  refine region_seq ?_
  revert a
  refine mA rfl rfl ?_
  refine sA (v := .bool true) rfl (fun _ henv => rn_bin henv rfl rfl rfl) ?_
  refine aA rfl rfl ?_
  intro a henv
  refine wpList_nil ?_
  refine th_n ?_
  refine if_t henv rfl (rfl) ?_
  refine wp_seq ?_
  refine region_seq ?_
  revert a
  refine mA rfl rfl ?_
  refine aA rfl rfl ?_
  refine aA rfl rfl ?_
  intro a henv
  refine wpList_nil ?_
  refine th_n ?_
  refine wp_ret ?_
  refine bl_r (th_r ?_)
  refine leave henv (res2 Tryd.results38 (RV.tmp henv rfl) (RV.tmp henv rfl)) ?_
  exact ⟨rfl, hst.below⟩
set_option maxRecDepth 100000 in
set_option maxHeartbeats 2000000 in
theorem row_unit_kneg {n : Nat} {k : Int} {w0 : World} (h : n ≤ 4096) (hk : k < 0) :
    Calls Tryd.prog 38 #[.int .i64 (n : Nat), .int .i64 k] w0 fun e w' => e = .returned (.tuple #[.slice none 0 0, .int .i64 5]) ∧ Below w0.heap.size w0 w' := by
  refine enter Tryd.func38 rfl Tryd.ntmps38 rfl ?_
  intro a henv hst
  refine wp_seq ?_
  refine region_seq ?_
  revert a
  refine aA rfl rfl ?_
  refine aA rfl rfl ?_
  intro a henv
  refine wpList_nil ?_
  refine th_n ?_
  refine wp_seq ?_
  refine region_seq ?_
  refine sv (v := .int .i64 (n : Nat)) henv rfl (rn_move henv rfl) ?_
  clear henv a; intro a henv
  refine seq_step rfl (op_call henv rfl Tryd.call37 rfl (row_zero_ok (by omega)) ?_)
  rintro e w7 ⟨_, rfl, ⟨A1, c2, es3, rfl, hr, hl4, hz5⟩, hb⟩
  refine ⟨_, rfl, ?_⟩
  clear henv a; intro a henv
  replace hst := hst.freshRow hb hr (ap_N hr.2.1 ⟨nou_rowS, trivial⟩)
  clear hr
  clear hb
  revert a
  refine mA rfl rfl ?_
  refine sA (v := .slice A1 n c2) rfl (fun _ henv => rn_extract henv rfl rfl) ?_
  refine sA (v := .int .i64 0) rfl (fun _ henv => rn_extract henv rfl rfl) ?_
  refine aA rfl rfl ?_
  refine aA rfl rfl ?_
  intro a henv
  refine wpList_nil ?_
  refine th_n ?_
  refine wp_seq ?_
  refine wp_block ?_
  refine wp_seq ?_
  refine region_seq ?_
  revert a
  refine mA rfl rfl ?_
  refine sA (v := .bool false) rfl (fun _ henv => rn_bin henv rfl rfl rfl) ?_
  refine aA rfl rfl ?_
  intro a henv
  refine wpList_nil ?_
  refine th_n ?_
  refine if_f henv rfl (rfl) ?_
  refine wp_seq ?_
  refine region_seq ?_
  revert a
  refine mA rfl rfl ?_
  refine sA (v := .bool (decide (k < (0 : Int)))) rfl (fun _ henv => rn_bin henv rfl rfl rfl) ?_
  intro a henv
  rw [show (decide (k < (0 : Int))) = true from decide_eq_true (by omega)] at henv
  revert a
  refine mA rfl rfl ?_
  refine kA rfl rfl rfl rfl rfl ?_
  refine kA rfl rfl rfl rfl rfl ?_
  refine kA rfl rfl rfl rfl rfl ?_
  refine sA (v := .bool true) rfl (fun _ henv => rn_pick henv rfl rfl) ?_
  refine aA rfl rfl ?_
  intro a henv
  refine wpList_nil ?_
  refine th_n ?_
  refine if_t henv rfl (rfl) ?_
  refine wp_seq ?_
  refine region_seq ?_
  revert a
  refine aA rfl rfl ?_
  refine aA rfl rfl ?_
  intro a henv
  refine wpList_nil ?_
  refine th_n ?_
  refine wp_ret ?_
  refine bl_r (th_r ?_)
  refine leave henv (res2 Tryd.results38 (RV.tmp henv rfl) (RV.tmp henv rfl)) ?_
  exact ⟨rfl, hst.below⟩
set_option maxRecDepth 100000 in
set_option maxHeartbeats 2000000 in
theorem row_unit_kbig {n : Nat} {k : Int} {w0 : World} (h : n ≤ 4096) (hk : (n : Int) ≤ k) :
    Calls Tryd.prog 38 #[.int .i64 (n : Nat), .int .i64 k] w0 fun e w' => e = .returned (.tuple #[.slice none 0 0, .int .i64 5]) ∧ Below w0.heap.size w0 w' := by
  refine enter Tryd.func38 rfl Tryd.ntmps38 rfl ?_
  intro a henv hst
  refine wp_seq ?_
  refine region_seq ?_
  revert a
  refine aA rfl rfl ?_
  refine aA rfl rfl ?_
  intro a henv
  refine wpList_nil ?_
  refine th_n ?_
  refine wp_seq ?_
  refine region_seq ?_
  refine sv (v := .int .i64 (n : Nat)) henv rfl (rn_move henv rfl) ?_
  clear henv a; intro a henv
  refine seq_step rfl (op_call henv rfl Tryd.call37 rfl (row_zero_ok (by omega)) ?_)
  rintro e w7 ⟨_, rfl, ⟨A1, c2, es3, rfl, hr, hl4, hz5⟩, hb⟩
  refine ⟨_, rfl, ?_⟩
  clear henv a; intro a henv
  replace hst := hst.freshRow hb hr (ap_N hr.2.1 ⟨nou_rowS, trivial⟩)
  clear hr
  clear hb
  revert a
  refine mA rfl rfl ?_
  refine sA (v := .slice A1 n c2) rfl (fun _ henv => rn_extract henv rfl rfl) ?_
  refine sA (v := .int .i64 0) rfl (fun _ henv => rn_extract henv rfl rfl) ?_
  refine aA rfl rfl ?_
  refine aA rfl rfl ?_
  intro a henv
  refine wpList_nil ?_
  refine th_n ?_
  refine wp_seq ?_
  refine wp_block ?_
  refine wp_seq ?_
  refine region_seq ?_
  revert a
  refine mA rfl rfl ?_
  refine sA (v := .bool false) rfl (fun _ henv => rn_bin henv rfl rfl rfl) ?_
  refine aA rfl rfl ?_
  intro a henv
  refine wpList_nil ?_
  refine th_n ?_
  refine if_f henv rfl (rfl) ?_
  refine wp_seq ?_
  refine region_seq ?_
  revert a
  refine mA rfl rfl ?_
  refine sA (v := .bool (decide (k < (0 : Int)))) rfl (fun _ henv => rn_bin henv rfl rfl rfl) ?_
  intro a henv
  rw [show (decide (k < (0 : Int))) = false from decide_eq_false (by omega)] at henv
  revert a
  refine mA rfl rfl ?_
  refine gA (v := .int .i64 k) rfl rfl rfl rfl (fun _ henv => rn_move henv rfl) ?_
  refine gA (v := .int .i64 (n : Nat)) rfl rfl rfl rfl (fun _ henv => rn_move henv rfl) ?_
  refine gA (v := .bool (decide (k ≥ ((n : Nat) : Int)))) rfl rfl rfl rfl (fun _ henv => rn_bin henv rfl rfl rfl) ?_
  intro a henv
  rw [show (decide (k ≥ ((n : Nat) : Int))) = true from decide_eq_true (by omega)] at henv
  revert a
  refine sA (v := .bool true) rfl (fun _ henv => rn_pick henv rfl rfl) ?_
  refine aA rfl rfl ?_
  intro a henv
  refine wpList_nil ?_
  refine th_n ?_
  refine if_t henv rfl (rfl) ?_
  refine wp_seq ?_
  refine region_seq ?_
  revert a
  refine aA rfl rfl ?_
  refine aA rfl rfl ?_
  intro a henv
  refine wpList_nil ?_
  refine th_n ?_
  refine wp_ret ?_
  refine bl_r (th_r ?_)
  refine leave henv (res2 Tryd.results38 (RV.tmp henv rfl) (RV.tmp henv rfl)) ?_
  exact ⟨rfl, hst.below⟩
set_option maxRecDepth 100000 in
set_option maxHeartbeats 2000000 in
theorem row_unit_ok {n k : Nat} {w0 : World} (h : n ≤ 4096) (hk : k < n) :
    Calls Tryd.prog 38 #[.int .i64 (n : Nat), .int .i64 (k : Nat)] w0 fun e w' => ∃ v, e = .returned (.tuple #[v, .int .i64 0]) ∧ ZRow w0.heap.size w' v n ((List.replicate n 0).set k 1) ∧ Below w0.heap.size w0 w' := by
  refine enter Tryd.func38 rfl Tryd.ntmps38 rfl ?_
  intro a henv hst
  refine wp_seq ?_
  refine region_seq ?_
  revert a
  refine aA rfl rfl ?_
  refine aA rfl rfl ?_
  intro a henv
  refine wpList_nil ?_
  refine th_n ?_
  refine wp_seq ?_
  refine region_seq ?_
  refine sv (v := .int .i64 (n : Nat)) henv rfl (rn_move henv rfl) ?_
  clear henv a; intro a henv
  refine seq_step rfl (op_call henv rfl Tryd.call37 rfl (row_zero_ok (by omega)) ?_)
  rintro e w7 ⟨_, rfl, ⟨A1, c2, es3, rfl, hr, hl4, hz5⟩, hb⟩
  refine ⟨_, rfl, ?_⟩
  clear henv a; intro a henv
  replace hst := hst.freshRow hb hr (ap_N hr.2.1 ⟨nou_rowS, trivial⟩)
  clear hr
  clear hb
  revert a
  refine mA rfl rfl ?_
  refine sA (v := .slice A1 n c2) rfl (fun _ henv => rn_extract henv rfl rfl) ?_
  refine sA (v := .int .i64 0) rfl (fun _ henv => rn_extract henv rfl rfl) ?_
  refine aA rfl rfl ?_
  refine aA rfl rfl ?_
  intro a henv
  refine wpList_nil ?_
  refine th_n ?_
  refine wp_seq ?_
  refine wp_block ?_
  refine wp_seq ?_
  refine region_seq ?_
  revert a
  refine mA rfl rfl ?_
  refine sA (v := .bool false) rfl (fun _ henv => rn_bin henv rfl rfl rfl) ?_
  refine aA rfl rfl ?_
  intro a henv
  refine wpList_nil ?_
  refine th_n ?_
  refine if_f henv rfl (rfl) ?_
  refine wp_seq ?_
  refine region_seq ?_
  revert a
  refine mA rfl rfl ?_
  refine sA (v := .bool (decide (((k : Nat) : Int) < (0 : Int)))) rfl (fun _ henv => rn_bin henv rfl rfl rfl) ?_
  intro a henv
  rw [show (decide (((k : Nat) : Int) < (0 : Int))) = false from decide_eq_false (by omega)] at henv
  revert a
  refine mA rfl rfl ?_
  refine gA (v := .int .i64 (k : Nat)) rfl rfl rfl rfl (fun _ henv => rn_move henv rfl) ?_
  refine gA (v := .int .i64 (n : Nat)) rfl rfl rfl rfl (fun _ henv => rn_move henv rfl) ?_
  refine gA (v := .bool (decide (((k : Nat) : Int) ≥ ((n : Nat) : Int)))) rfl rfl rfl rfl (fun _ henv => rn_bin henv rfl rfl rfl) ?_
  intro a henv
  rw [show (decide (((k : Nat) : Int) ≥ ((n : Nat) : Int))) = false from decide_eq_false (by omega)] at henv
  revert a
  refine sA (v := .bool false) rfl (fun _ henv => rn_pick henv rfl rfl) ?_
  refine aA rfl rfl ?_
  intro a henv
  refine wpList_nil ?_
  refine th_n ?_
  refine if_f henv rfl (rfl) ?_
  refine wp_skip ?_
  refine bl_n (th_n ?_)
  refine wp_seq ?_
  refine region_seq ?_
  revert a
  refine mA rfl rfl ?_
  refine mA rfl rfl ?_
  intro a henv
  refine seq_step rfl (op_call henv rfl Tryd.call43 rfl (of_z (n := (1 : Int)) (by decide) (by decide)) ?_)
  rintro e w11 ⟨_, rfl, ⟨A8, c9, rfl, hz10⟩, hb⟩
  refine ⟨_, rfl, ?_⟩
  clear henv a; intro a henv
  replace hst := (hst.call hb).addZ hz10 ⟨nou_rowS, trivial⟩
  clear hz10
  clear hb
  refine sv (v := .pointer (some ⟨ab A1, ao A1 + k * 2, none⟩)) henv rfl (rn_idxR (i := k) henv Tryd.underlying30 (ty_anvil_integer_Int.size) rfl rfl (by omega) rfl (rowS_rd (hst.owns (k := 0) rfl))) ?_
  clear henv a; intro a henv
  refine seq_step rfl (op_storeS (i := k) (e := (A8, c9, 1)) (k := 0) henv hst (ty_anvil_integer_Int.size) rfl rfl rfl rfl fN_len (by omega) (by assumption) rfl rfl rfl ?_)
  clear henv hst a; intro a w12 henv hst
  replace hst := hst.setEs (e := (A8, c9, 1)) (i := 1) (j := 0) rfl rfl k
  refine wpList_nil ?_
  refine th_n ?_
  refine wp_seq ?_
  refine region_seq ?_
  revert a
  refine mA rfl rfl ?_
  refine aA rfl rfl ?_
  refine aA rfl rfl ?_
  intro a henv
  refine wpList_nil ?_
  refine th_n ?_
  refine wp_ret ?_
  refine leave henv (res2 Tryd.results38 (RV.tmp henv rfl) (RV.tmp henv rfl)) ?_
  exact ⟨_, rfl, ⟨_, _, _, rfl, hst.newRow (k := 0) (j := 0) rfl rfl, (by rw [List.length_set]; exact hl4), (by rw [List.map_set, hz5])⟩, hst.below⟩
set_option maxRecDepth 100000 in
set_option maxHeartbeats 2000000 in
theorem row_iszero {A0 : Option Addr} {n0 c0 : Nat} {es0 : List NE} {w0 : World} (h0 : (pfRow fN FN 2 A0 n0 c0 es0).P w0) :
    Calls Tryd.prog 41 #[.slice A0 n0 c0] w0 fun e w' => e = .returned (.bool (allz es0)) ∧ Below w0.heap.size w0 w' := by
  refine enter Tryd.func41 rfl Tryd.ntmps41 rfl ?_
  intro a henv hst
  have hlen0 := h0.2.1
  have hbig0 := Nat.le_trans h0.1.cap h0.1.big
  unfold maxLen at hbig0
  replace hst := hst.argRow h0
  clear h0
  refine wp_seq ?_
  refine region_seq ?_
  refine sv (v := .bool false) henv rfl (rn_assign henv rfl) ?_
  clear henv a; intro a henv
  refine wpList_nil ?_
  refine th_n ?_
  refine wp_seq ?_
  refine wp_seq ?_
  refine region_seq ?_
  revert a
  refine mA rfl rfl ?_
  refine sA (v := .int .i64 (n0 : Nat)) rfl (fun _ henv => rn_len henv Tryd.underlying30 rfl) ?_
  refine mA rfl rfl ?_
  intro a henv
  refine wpList_nil ?_
  refine th_n ?_
  refine wp_block ?_
  refine wp_loop_ghost (fun mz a w => ∃ j : Nat, n0 - j = mz ∧ Env 15 a [(5, .slice A0 n0 c0), (6, .int .i64 (n0 : Nat)), (7, .int .i64 (j : Nat))] ∧ St w0 w [] [pfRow fN FN 2 A0 n0 c0 es0] ∧ j ≤ n0 ∧ (∀ i e, i < j → es0[i]? = some e → zz e = 0)) _ ⟨0, rfl, henv.sub ⟨rfl, rfl, rfl, trivial⟩, hst.pick [] [0] (by decide), (Nat.zero_le _), (fun i _ hi => absurd hi (Nat.not_lt_zero _))⟩ ?_
  clear henv hst a
  rintro mz a w1 ⟨j, rfl, henv, hst, hj, hq⟩
  refine wp_seq ?_
  refine region_seq ?_
  refine sv (v := .bool (decide (((j : Nat) : Int) < ((n0 : Nat) : Int)))) henv rfl (rn_bin henv rfl rfl rfl) ?_
  clear henv a; intro a henv
  refine wpList_nil ?_
  refine th_n ?_
  refine wp_seq ?_
  refine if_split henv rfl (fun hc2 => ?_) (fun hc2 => ?_)
  · have hlt : j < n0 := by have := of_decide_eq_true hc2; omega
    obtain ⟨⟨A, c, z⟩, he0⟩ : ∃ e, es0[j]? = some e := ⟨_, List.getElem?_eq_getElem (by omega)⟩
    replace hst := hst.elem (k := 0) rfl he0
    replace hst : St w0 _ [] [pfZ A c z, pfRow fN FN 2 A0 n0 c0 es0] := hst
    refine wp_skip ?_
    refine th_n ?_
    refine wp_seq ?_
    refine wp_block ?_
    refine wp_seq ?_
    refine region_seq ?_
    revert a
    refine sA (v := .pointer (some ⟨ab A0, ao A0 + j * 2, none⟩)) rfl (fun _ henv => rn_idxR (i := j) henv Tryd.underlying30 (ty_anvil_integer_Int.size) rfl rfl (by omega) rfl (show (pfRow fN FN 2 A0 n0 c0 es0).P _ from (hst.pat (k := 1) rfl)).1) ?_
    refine sA (v := .agg #[.bool (neg z), .slice A (zl z) c]) rfl (fun _ henv => rn_loadE (i := j) (e := (A, c, z)) henv ty_anvil_integer_Int rfl rfl fN_len (show (pfRow fN FN 2 A0 n0 c0 es0).P _ from (hst.pat (k := 1) rfl)).1 (by omega) he0 rfl) ?_
    intro a henv
    refine seq_step rfl (op_alloc (c := #[.bool (neg 0), .slice none (zl 0) 0]) henv hst rfl zero_anvil_integer_Int zcells ?_)
    clear henv hst a; intro a w4 g3 henv hst
    refine seq_step rfl (op_store (k := 0) (c' := #[.bool (neg z), .slice A (zl z) c]) henv hst (ty_anvil_integer_Int.size) rfl rfl rfl rfl (by simp) rfl rfl ?_)
    clear henv hst a; intro a w5 henv hst
    refine wpList_nil ?_
    refine th_n ?_
    refine wp_seq ?_
    refine region_seq ?_
    refine sv (v := .agg #[.bool (neg z), .slice A (zl z) c]) henv rfl (rn_load0 henv ty_anvil_integer_Int rfl (hst.oat (k := 0) rfl) rfl) ?_
    clear henv a; intro a henv
    refine seq_step rfl (op_call henv rfl Tryd.call31 rfl (sign_z (z := z)) ?_)
    rintro e w6 ⟨rfl, hb⟩
    refine ⟨_, rfl, ?_⟩
    clear henv a; intro a henv
    replace hst := hst.call hb
    clear hb
    refine sv (v := .bool (z.sign != (0 : Int))) henv rfl (rn_bin henv rfl rfl rfl) ?_
    clear henv a; intro a henv
    refine wpList_nil ?_
    refine th_n ?_
    refine if_split henv rfl (fun hc7 => ?_) (fun hc7 => ?_)
    · have hnz : z ≠ 0 := fun e0 => by rw [e0] at hc7; cases hc7
      refine wp_seq ?_
      refine region_seq ?_
      refine sv (v := .bool false) henv rfl (rn_assign henv rfl) ?_
      clear henv a; intro a henv
      refine wpList_nil ?_
      refine th_n ?_
      refine wp_ret ?_
      refine bl_r (th_r (th_r (bl_r (th_r ?_))))
      refine leave henv (res1 Tryd.results41 (RV.tmp henv rfl)) ?_
      exact ⟨by rw [allz_no he0 hnz], hst.below⟩
    · have hzz : z = 0 := Int.sign_eq_zero_iff_zero.1 (by simpa using hc7)
      refine wp_skip ?_
      refine bl_n (th_n ?_)
      refine region_seq ?_
      revert a
      refine sA (v := .int .i64 (j + 1 : Nat)) rfl (fun _ henv => rn_add henv rfl rfl (by rw [IntWalk.i64_in _ (by omega)]; omega)) ?_
      refine mA rfl rfl ?_
      intro a henv
      refine wpList_nil ?_
      exact th_n ⟨_, (by omega), ⟨j + 1, rfl, henv.sub ⟨rfl, rfl, rfl, trivial⟩, hst.pick [] [1] (by decide), (by omega), (fun i e hi h1 => by rcases Nat.lt_or_ge i j with h2 | h2; exact hq i e h2 h1; obtain rfl : i = j := (by omega); rw [he0] at h1; cases h1; exact hzz)⟩⟩
  · obtain rfl : j = n0 := by have := of_decide_eq_false hc2; omega
    refine wp_exit ?_
    refine th_x (th_x (bl_x (th_n ?_)))
    refine wp_seq ?_
    refine region_seq ?_
    refine sv (v := .bool true) henv rfl (rn_assign henv rfl) ?_
    clear henv a; intro a henv
    refine wpList_nil ?_
    refine th_n ?_
    refine wp_ret ?_
    refine leave henv (res1 Tryd.results41 (RV.tmp henv rfl)) ?_
    exact ⟨by rw [allz_yes hq hlen0], hst.below⟩
set_option maxRecDepth 100000 in
set_option maxHeartbeats 2000000 in
theorem row_live {w0 : World} :
    Calls Tryd.prog 16 #[] w0 fun e w' => e = .returned (.bool true) ∧ Below w0.heap.size w0 w' := by
  refine enter Tryd.func16 rfl Tryd.ntmps16 rfl ?_
  intro a henv hst
  refine wp_seq ?_
  refine region_seq ?_
  refine sv (v := .bool false) henv rfl (rn_assign henv rfl) ?_
  clear henv a; intro a henv
  refine wpList_nil ?_
  refine th_n ?_
  refine wp_seq ?_
  refine region_seq ?_
  refine seq_step rfl (op_buildSlice (z := 1) (pv := #[(0, .int .i64 1), (1, .int .i64 2)]) (c := #[.int .i64 1, .int .i64 2]) henv hst rfl Tryd.underlying59 (ty_int64.size) zero_int64 (by decide) (by decide) rfl (by kernel_rfl) ?_)
  clear henv hst a; intro a w2 g1 henv hst
  replace hst := hst.giveBk (f := fI) (F := FI) (k := 0) (n := 2) (es := [1, 2]) rfl rfl fI_len rfl (by decide) (esT_P (fun _ => rfl) _ _) (fun _ _ _ _ => esT_foot (fun _ => rfl))
  refine seq_step rfl (op_call henv rfl Tryd.call39 rfl (row_of (hst.pat (k := 0) rfl) (by intro x hx; simp at hx; omega) (by decide)) ?_)
  rintro e w8 ⟨_, rfl, ⟨A3, c4, es5, rfl, hr, hl6, hz7⟩, hb⟩
  refine ⟨_, rfl, ?_⟩
  clear henv a; intro a henv
  replace hst := hst.freshRd hb hr hl6 (ap_N hr.2.1 trivial)
  clear hr
  clear hb
  refine seq_step rfl (op_buildSlice (z := 1) (pv := #[(0, .int .i64 3), (1, .int .i64 (-4))]) (c := #[.int .i64 3, .int .i64 (-4)]) henv hst rfl Tryd.underlying59 (ty_int64.size) zero_int64 (by decide) (by decide) rfl (by kernel_rfl) ?_)
  clear henv hst a; intro a w10 g9 henv hst
  replace hst := hst.giveBk (f := fI) (F := FI) (k := 0) (n := 2) (es := [3, (-4)]) rfl rfl fI_len rfl (by decide) (esT_P (fun _ => rfl) _ _) (fun _ _ _ _ => esT_foot (fun _ => rfl))
  refine seq_step rfl (op_call henv rfl Tryd.call39 rfl (row_of (hst.pat (k := 0) rfl) (by intro x hx; simp at hx; omega) (by decide)) ?_)
  rintro e w16 ⟨_, rfl, ⟨A11, c12, es13, rfl, hr, hl14, hz15⟩, hb⟩
  refine ⟨_, rfl, ?_⟩
  clear henv a; intro a henv
  replace hst := hst.freshRd hb hr hl14 (ap_N hr.2.1 trivial)
  clear hr
  clear hb
  refine seq_step rfl (op_call henv rfl Tryd.call21 rfl (row_add (hst.pat (k := 3) rfl) (hst.pat (k := 0) rfl) (zb_of hz7 (by decide)) (zb_of hz15 (by decide)) (by decide)) ?_)
  rintro e w22 ⟨_, rfl, ⟨A17, c18, es19, rfl, hr, hl20, hz21⟩, hb⟩
  refine ⟨_, rfl, ?_⟩
  clear henv a; intro a henv
  replace hst := hst.freshRd hb hr hl20 (ap_N hr.2.1 trivial)
  clear hr
  clear hb
  revert a
  refine mA rfl rfl ?_
  refine sA (v := .slice A17 2 c18) rfl (fun _ henv => rn_extract henv rfl rfl) ?_
  refine sA (v := .int .i64 0) rfl (fun _ henv => rn_extract henv rfl rfl) ?_
  refine aA rfl rfl ?_
  refine aA rfl rfl ?_
  intro a henv
  refine wpList_nil ?_
  refine th_n ?_
  refine wp_seq ?_
  refine region_seq ?_
  revert a
  refine mA rfl rfl ?_
  refine sA (v := .bool true) rfl (fun _ henv => rn_bin henv rfl rfl rfl) ?_
  refine mA rfl rfl ?_
  refine gA (v := .slice A17 2 c18) rfl rfl rfl rfl (fun _ henv => rn_move henv rfl) ?_
  intro a henv
  refine seq_g rfl henv rfl rfl (op_call henv rfl Tryd.call52 rfl (row_text (hst.pat (k := 0) rfl) (zb_live (by rw [hz21]; exact live_zs hz7 hz15)) (by decide)) ?_)
  rintro e w23 ⟨rfl, hb⟩
  refine ⟨_, rfl, ?_⟩
  clear henv a; intro a henv
  replace hst := hst.call hb
  clear hb
  refine seq_g rfl henv rfl rfl (op_val (v := .bool (decide ((textRow (es19.map zz)) = [91, 52, 32, 45, 50, 93]))) henv rfl (rn_eqls (s := (textRow (es19.map zz))) (t := [91, 52, 32, 45, 50, 93]) henv rfl rfl) ?_)
  clear henv a; intro a henv
  rw [show (decide ((textRow (es19.map zz)) = [91, 52, 32, 45, 50, 93])) = true from decide_eq_true (live_text hz7 hz15 hz21)] at henv
  revert a
  refine sA (v := .bool true) rfl (fun _ henv => rn_pick henv rfl rfl) ?_
  refine aA rfl rfl ?_
  intro a henv
  refine wpList_nil ?_
  refine th_n ?_
  refine wp_ret ?_
  refine leave henv (res1 Tryd.results16 (RV.tmp henv rfl)) ?_
  exact ⟨rfl, hst.below⟩
end Go.Proofs.YtegglooojlheoaaDoor.W

/- RowMakes: the law's walk. Printed by pv/gen_row3.py. No condition. -/
namespace Go.Proofs.YtegglooojlheoaaDoor.W
open Go.RowKit Anv Go.Lib
theorem elem_map {es : List NE} {zs : List Int} {j : Nat} {A : Option Addr} {c : Nat} {z : Int} (h : es.map zz = zs) (he : es[j]? = some (A, c, z)) : zs[j]? = some z := by
  rw [← h, List.getElem?_map, he]; rfl
theorem allz_map (es : List NE) : allz es = (es.map zz).all fun z => decide (z = 0) := by
  unfold allz
  rw [List.all_map]
  rfl
theorem allz_rep {es : List NE} {n : Nat} (h : es.map zz = List.replicate n 0) : allz es = true := by
  rw [allz_map, h]
  exact List.all_eq_true.2 fun z hz => decide_eq_true (List.eq_of_mem_replicate hz)
theorem unit_at {es : List NE} {n k : Nat} {A : Option Addr} {c : Nat} {z : Int} (h : es.map zz = (List.replicate n 0).set k 1) (hk : k < n) (he : es[k]? = some (A, c, z)) : z = 1 := by
  have h1 := elem_map h he
  rw [List.getElem?_set_self (by rw [List.length_replicate]; exact hk)] at h1
  exact (Option.some.inj h1).symm
theorem allz_unit {es : List NE} {n k : Nat} (h : es.map zz = (List.replicate n 0).set k 1) (hk : k < n) : allz es = false := by
  refine Bool.eq_false_iff.2 fun ht => ?_
  rw [allz_map, h] at ht
  have h2 := List.all_eq_true.1 ht 1 (List.mem_of_getElem? (List.getElem?_set_self (by rw [List.length_replicate]; exact hk)))
  exact absurd (of_decide_eq_true h2) (by decide)
theorem allz_back {es : List NE} {n k : Nat} {A : Option Addr} {c : Nat} (h : es.map zz = (List.replicate n 0).set k 1) : allz (es.set k (A, c, 0)) = true := by
  rw [allz_map, List.map_set, h, List.set_set]
  refine List.all_eq_true.2 fun z hz => decide_eq_true ?_
  rcases List.mem_or_eq_of_mem_set hz with h1 | h1
  · exact List.eq_of_mem_replicate h1
  · exact h1
set_option maxRecDepth 100000 in
set_option maxHeartbeats 8000000 in
theorem rmakes_long {i k : Int} {A0 : Option Addr} {n0 c0 : Nat} {es0 : List Int} {w0 : World} (h0 : (pfRow fI FI 1 A0 n0 c0 es0).P w0) (hI : I64 es0) (hl : 5000 < n0) :
    Calls Tryd.prog 4 #[.int .i64 i, .int .i64 k, .slice A0 n0 c0] w0 fun e w' => e = .returned (.bool true) ∧ Below w0.heap.size w0 w' := by
  refine enter Tryd.func4 rfl Tryd.ntmps4 rfl ?_
  intro a henv hst
  have hlen0 := h0.2.1
  have hbig0 := Nat.le_trans h0.1.cap h0.1.big
  unfold maxLen at hbig0
  replace hst := hst.argRow h0
  clear h0
  refine wp_seq ?_
  refine region_seq ?_
  refine sv (v := .bool false) henv rfl (rn_assign henv rfl) ?_
  clear henv a; intro a henv
  refine wpList_nil ?_
  refine th_n ?_
  refine wp_seq ?_
  refine wp_seq ?_
  refine region_seq ?_
  refine seq_step rfl (op_call henv rfl Tryd.call16 rfl (row_live) ?_)
  rintro e w1 ⟨rfl, hb⟩
  refine ⟨_, rfl, ?_⟩
  clear henv a; intro a henv
  replace hst := hst.call hb
  clear hb
  refine sv (v := .bool false) henv rfl (rn_un henv rfl rfl) ?_
  clear henv a; intro a henv
  refine wpList_nil ?_
  refine th_n ?_
  refine if_f henv rfl (rfl) ?_
  refine wp_skip ?_
  refine th_n ?_
  refine wp_seq ?_
  refine wp_seq ?_
  refine region_seq ?_
  revert a
  refine mA rfl rfl ?_
  refine sA (v := .int .i64 (n0 : Nat)) rfl (fun _ henv => rn_len henv Tryd.underlying59 rfl) ?_
  refine sA (v := .bool (decide (((n0 : Nat) : Int) > (5000 : Int)))) rfl (fun _ henv => rn_bin henv rfl rfl rfl) ?_
  intro a henv
  rw [show (decide (((n0 : Nat) : Int) > (5000 : Int))) = true from decide_eq_true (by omega)] at henv
  refine wpList_nil ?_
  refine th_n ?_
  refine if_t henv rfl (rfl) ?_
  refine wp_seq ?_
  refine region_seq ?_
  refine sv (v := .bool true) henv rfl (rn_assign henv rfl) ?_
  clear henv a; intro a henv
  refine wpList_nil ?_
  refine th_n ?_
  refine wp_ret ?_
  refine th_r ?_
  refine leave henv (res1 Tryd.results4 (RV.tmp henv rfl)) ?_
  exact ⟨rfl, hst.below⟩
set_option maxRecDepth 100000 in
set_option maxHeartbeats 8000000 in
theorem rmakes_bneg {i k : Int} {A0 : Option Addr} {n0 c0 : Nat} {es0 : List Int} {w0 : World} (h0 : (pfRow fI FI 1 A0 n0 c0 es0).P w0) (hI : I64 es0) (hs : n0 ≤ 5000) (hi : i < 0) :
    Calls Tryd.prog 4 #[.int .i64 i, .int .i64 k, .slice A0 n0 c0] w0 fun e w' => e = .returned (.bool true) ∧ Below w0.heap.size w0 w' := by
  refine enter Tryd.func4 rfl Tryd.ntmps4 rfl ?_
  intro a henv hst
  have hlen0 := h0.2.1
  have hbig0 := Nat.le_trans h0.1.cap h0.1.big
  unfold maxLen at hbig0
  replace hst := hst.argRow h0
  clear h0
  refine wp_seq ?_
  refine region_seq ?_
  refine sv (v := .bool false) henv rfl (rn_assign henv rfl) ?_
  clear henv a; intro a henv
  refine wpList_nil ?_
  refine th_n ?_
  refine wp_seq ?_
  refine wp_seq ?_
  refine region_seq ?_
  refine seq_step rfl (op_call henv rfl Tryd.call16 rfl (row_live) ?_)
  rintro e w1 ⟨rfl, hb⟩
  refine ⟨_, rfl, ?_⟩
  clear henv a; intro a henv
  replace hst := hst.call hb
  clear hb
  refine sv (v := .bool false) henv rfl (rn_un henv rfl rfl) ?_
  clear henv a; intro a henv
  refine wpList_nil ?_
  refine th_n ?_
  refine if_f henv rfl (rfl) ?_
  refine wp_skip ?_
  refine th_n ?_
  refine wp_seq ?_
  refine wp_seq ?_
  refine region_seq ?_
  revert a
  refine mA rfl rfl ?_
  refine sA (v := .int .i64 (n0 : Nat)) rfl (fun _ henv => rn_len henv Tryd.underlying59 rfl) ?_
  refine sA (v := .bool (decide (((n0 : Nat) : Int) > (5000 : Int)))) rfl (fun _ henv => rn_bin henv rfl rfl rfl) ?_
  intro a henv
  rw [show (decide (((n0 : Nat) : Int) > (5000 : Int))) = false from decide_eq_false (by omega)] at henv
  refine wpList_nil ?_
  refine th_n ?_
  refine if_f henv rfl (rfl) ?_
  refine wp_skip ?_
  refine th_n ?_
  refine wp_seq ?_
  refine region_seq ?_
  refine sv (v := .int .i64 i) henv rfl (rn_move henv rfl) ?_
  clear henv a; intro a henv
  refine seq_step rfl (op_call henv rfl Tryd.call37 rfl (row_zero_bad (.inl hi)) ?_)
  rintro e w2 ⟨rfl, hb⟩
  refine ⟨_, rfl, ?_⟩
  clear henv a; intro a henv
  replace hst := hst.call hb
  clear hb
  revert a
  refine mA rfl rfl ?_
  refine sA (v := .slice none 0 0) rfl (fun _ henv => rn_extract henv rfl rfl) ?_
  refine sA (v := .int .i64 2) rfl (fun _ henv => rn_extract henv rfl rfl) ?_
  refine aA rfl rfl ?_
  refine aA rfl rfl ?_
  intro a henv
  refine wpList_nil ?_
  refine th_n ?_
  refine wp_seq ?_
  refine region_seq ?_
  revert a
  refine mA rfl rfl ?_
  refine mA rfl rfl ?_
  intro a henv
  refine seq_step rfl (op_call henv rfl Tryd.call38 rfl (row_unit_bad (.inl hi)) ?_)
  rintro e w3 ⟨rfl, hb⟩
  refine ⟨_, rfl, ?_⟩
  clear henv a; intro a henv
  replace hst := hst.call hb
  clear hb
  revert a
  refine mA rfl rfl ?_
  refine sA (v := .slice none 0 0) rfl (fun _ henv => rn_extract henv rfl rfl) ?_
  refine sA (v := .int .i64 2) rfl (fun _ henv => rn_extract henv rfl rfl) ?_
  refine aA rfl rfl ?_
  refine aA rfl rfl ?_
  intro a henv
  refine wpList_nil ?_
  refine th_n ?_
  refine wp_seq ?_
  refine region_seq ?_
  refine sv (v := .slice A0 n0 c0) henv rfl (rn_move henv rfl) ?_
  clear henv a; intro a henv
  refine seq_step rfl (op_call henv rfl Tryd.call39 rfl (row_of (hst.pat (k := 0) rfl) hI (by omega)) ?_)
  rintro e w9 ⟨_, rfl, ⟨A4, c5, es6, rfl, hr, hl7, hz8⟩, hb⟩
  refine ⟨_, rfl, ?_⟩
  clear henv a; intro a henv
  replace hst := hst.freshRd hb hr hl7 (ap_N hr.2.1 trivial)
  clear hr
  clear hb
  refine sv (v := .slice A4 n0 c5) henv rfl (rn_assign henv rfl) ?_
  clear henv a; intro a henv
  refine wpList_nil ?_
  refine th_n ?_
  refine wp_seq ?_
  refine wp_seq ?_
  refine region_seq ?_
  revert a
  refine mA rfl rfl ?_
  refine sA (v := .int .i64 (n0 : Nat)) rfl (fun _ henv => rn_len henv Tryd.underlying30 rfl) ?_
  refine mA rfl rfl ?_
  refine sA (v := .int .i64 (n0 : Nat)) rfl (fun _ henv => rn_len henv Tryd.underlying59 rfl) ?_
  refine sA (v := .bool (((n0 : Nat) : Int) != ((n0 : Nat) : Int))) rfl (fun _ henv => rn_bin henv rfl rfl rfl) ?_
  intro a henv
  rw [show (((n0 : Nat) : Int) != ((n0 : Nat) : Int)) = false from (bne_self_eq_false _)] at henv
  refine wpList_nil ?_
  refine th_n ?_
  refine if_f henv rfl (rfl) ?_
  refine wp_skip ?_
  refine th_n ?_
  refine wp_seq ?_
  refine wp_seq ?_
  refine region_seq ?_
  refine sv (v := .int .i64 0) henv rfl (rn_assign henv rfl) ?_
  clear henv a; intro a henv
  refine wpList_nil ?_
  refine th_n ?_
  refine wp_block ?_
  refine wp_loop_ghost (fun mz a w => ∃ j : Nat, n0 - j = mz ∧ Env 149 a [(0, .int .i64 i), (1, .int .i64 k), (2, .slice A0 n0 c0), (7, .slice none 0 0), (8, .int .i64 2), (9, .slice none 0 0), (10, .int .i64 2), (11, .slice A4 n0 c5), (12, .int .i64 (j : Nat))] ∧ St w0 w [] [pfRow fN FN 2 A4 n0 c5 es6, pfRow fI FI 1 A0 n0 c0 es0] ∧ j ≤ n0) _ ⟨0, rfl, henv.sub ⟨rfl, rfl, rfl, rfl, rfl, rfl, rfl, rfl, rfl, trivial⟩, hst.pick [] [0, 1] (by decide), (Nat.zero_le _)⟩ ?_
  clear henv hst a
  rintro mz a w10 ⟨j, rfl, henv, hst, hj⟩
  refine wp_seq ?_
  refine wp_seq ?_
  refine region_seq ?_
  revert a
  refine mA rfl rfl ?_
  refine mA rfl rfl ?_
  refine sA (v := .int .i64 (n0 : Nat)) rfl (fun _ henv => rn_len henv Tryd.underlying59 rfl) ?_
  refine sA (v := .bool (decide (((j : Nat) : Int) < ((n0 : Nat) : Int)))) rfl (fun _ henv => rn_bin henv rfl rfl rfl) ?_
  intro a henv
  refine wpList_nil ?_
  refine th_n ?_
  refine if_split henv rfl (fun hc11 => ?_) (fun hc11 => ?_)
  · have hlt : j < n0 := by have := of_decide_eq_true hc11; omega
    obtain ⟨⟨A, c, z⟩, he⟩ : ∃ e, es6[j]? = some e := ⟨_, List.getElem?_eq_getElem (by omega)⟩
    have hx : es0[j]? = some z := elem_map hz8 he
    have hzb := hI.at hx
    replace hst := hst.elem (k := 0) rfl he
    replace hst : St w0 _ [] [pfZ A c z, pfRow fN FN 2 A4 n0 c5 es6, pfRow fI FI 1 A0 n0 c0 es0] := hst
    refine wp_skip ?_
    refine th_n ?_
    refine wp_seq ?_
    refine wp_block ?_
    refine wp_seq ?_
    refine region_seq ?_
    revert a
    refine mA rfl rfl ?_
    refine mA rfl rfl ?_
    refine sA (v := .pointer (some ⟨ab A4, ao A4 + j * 2, none⟩)) rfl (fun _ henv => rn_idxR (i := j) henv Tryd.underlying30 (ty_anvil_integer_Int.size) rfl rfl (by omega) rfl (show (pfRow fN FN 2 A4 n0 c5 es6).P _ from (hst.pat (k := 1) rfl)).1) ?_
    refine sA (v := .agg #[.bool (neg z), .slice A (zl z) c]) rfl (fun _ henv => rn_loadE (i := j) (e := (A, c, z)) henv ty_anvil_integer_Int rfl rfl fN_len (show (pfRow fN FN 2 A4 n0 c5 es6).P _ from (hst.pat (k := 1) rfl)).1 (by omega) he rfl) ?_
    intro a henv
    refine seq_step rfl (op_call henv rfl Tryd.call40 rfl (small_z (z := z) (show ZIn _ A c z from hst.pat (k := 0) rfl) (by omega) (by omega)) ?_)
    rintro e w12 ⟨rfl, hb⟩
    refine ⟨_, rfl, ?_⟩
    clear henv a; intro a henv
    replace hst := hst.call hb
    clear hb
    revert a
    refine mA rfl rfl ?_
    refine sA (v := .int .i64 z) rfl (fun _ henv => rn_extract henv rfl rfl) ?_
    refine sA (v := .bool true) rfl (fun _ henv => rn_extract henv rfl rfl) ?_
    refine aA rfl rfl ?_
    refine aA rfl rfl ?_
    intro a henv
    refine wpList_nil ?_
    refine th_n ?_
    refine wp_seq ?_
    refine region_seq ?_
    revert a
    refine mA rfl rfl ?_
    refine mA rfl rfl ?_
    refine mA rfl rfl ?_
    refine sA (v := .pointer (some ⟨ab A0, ao A0 + j * 1, none⟩)) rfl (fun _ henv => rn_idxR (i := j) henv Tryd.underlying59 (ty_int64.size) rfl rfl (by omega) rfl (show (pfRow fI FI 1 A0 n0 c0 es0).P _ from (hst.pat (k := 2) rfl)).1) ?_
    refine sA (v := .int .i64 z) rfl (fun _ henv => rn_loadE1 (i := j) (j := 0) (e := z) henv ty_int64 rfl rfl fI_len (by decide) (show (pfRow fI FI 1 A0 n0 c0 es0).P _ from (hst.pat (k := 2) rfl)).1 (by omega) hx rfl) ?_
    refine sA (v := .bool (z != z)) rfl (fun _ henv => rn_bin henv rfl rfl rfl) ?_
    intro a henv
    rw [show (z != z) = false from (bne_self_eq_false _)] at henv
    revert a
    refine mA rfl rfl ?_
    refine gA (v := .bool true) rfl rfl rfl rfl (fun _ henv => rn_move henv rfl) ?_
    refine gA (v := .bool false) rfl rfl rfl rfl (fun _ henv => rn_un henv rfl rfl) ?_
    refine sA (v := .bool false) rfl (fun _ henv => rn_pick henv rfl rfl) ?_
    intro a henv
    refine wpList_nil ?_
    refine th_n ?_
    refine if_f henv rfl (rfl) ?_
    refine wp_skip ?_
    refine bl_n (th_n ?_)
    refine region_seq ?_
    revert a
    refine mA rfl rfl ?_
    refine sA (v := .int .i64 (j + 1 : Nat)) rfl (fun _ henv => rn_add henv rfl rfl (by rw [IntWalk.i64_in _ (by omega)]; omega)) ?_
    refine aA rfl rfl ?_
    intro a henv
    refine wpList_nil ?_
    exact th_n ⟨_, (by omega), ⟨j + 1, rfl, henv.sub ⟨rfl, rfl, rfl, rfl, rfl, rfl, rfl, rfl, rfl, trivial⟩, hst.pick [] [1, 2] (by decide), (by omega)⟩⟩
  · have hjn : j = n0 := by have := of_decide_eq_false hc11; omega
    refine wp_exit ?_
    refine th_x (th_x (bl_x (th_n ?_)))
    refine wp_seq ?_
    refine wp_seq ?_
    refine region_seq ?_
    revert a
    refine mA rfl rfl ?_
    refine sA (v := .int .i64 (n0 : Nat)) rfl (fun _ henv => rn_len henv Tryd.underlying30 rfl) ?_
    refine mA rfl rfl ?_
    refine sA (v := .int .i64 (n0 : Nat)) rfl (fun _ henv => rn_len henv Tryd.underlying59 rfl) ?_
    refine sA (v := .bool (((n0 : Nat) : Int) != ((n0 : Nat) : Int))) rfl (fun _ henv => rn_bin henv rfl rfl rfl) ?_
    intro a henv
    rw [show (((n0 : Nat) : Int) != ((n0 : Nat) : Int)) = false from (bne_self_eq_false _)] at henv
    refine wpList_nil ?_
    refine th_n ?_
    refine if_f henv rfl (rfl) ?_
    refine wp_skip ?_
    refine th_n ?_
    refine wp_seq ?_
    refine wp_seq ?_
    refine region_seq ?_
    revert a
    refine mA rfl rfl ?_
    refine sA (v := .bool (decide (i < (0 : Int)))) rfl (fun _ henv => rn_bin henv rfl rfl rfl) ?_
    intro a henv
    rw [show (decide (i < (0 : Int))) = true from decide_eq_true (by omega)] at henv
    revert a
    refine mA rfl rfl ?_
    refine kA rfl rfl rfl rfl rfl ?_
    refine kA rfl rfl rfl rfl rfl ?_
    refine sA (v := .bool true) rfl (fun _ henv => rn_pick henv rfl rfl) ?_
    intro a henv
    refine wpList_nil ?_
    refine th_n ?_
    refine if_t henv rfl (rfl) ?_
    refine wp_seq ?_
    refine region_seq ?_
    revert a
    refine mA rfl rfl ?_
    refine sA (v := .int .i64 0) rfl (fun _ henv => rn_len henv Tryd.underlying30 rfl) ?_
    refine sA (v := .bool true) rfl (fun _ henv => rn_bin henv rfl rfl rfl) ?_
    refine mA rfl rfl ?_
    refine gA (v := .int .i64 2) rfl rfl rfl rfl (fun _ henv => rn_move henv rfl) ?_
    refine gA (v := .bool true) rfl rfl rfl rfl (fun _ henv => rn_bin henv rfl rfl rfl) ?_
    refine sA (v := .bool true) rfl (fun _ henv => rn_pick henv rfl rfl) ?_
    refine mA rfl rfl ?_
    refine gA (v := .slice none 0 0) rfl rfl rfl rfl (fun _ henv => rn_move henv rfl) ?_
    refine gA (v := .int .i64 0) rfl rfl rfl rfl (fun _ henv => rn_len henv Tryd.underlying30 rfl) ?_
    refine gA (v := .bool true) rfl rfl rfl rfl (fun _ henv => rn_bin henv rfl rfl rfl) ?_
    refine sA (v := .bool true) rfl (fun _ henv => rn_pick henv rfl rfl) ?_
    refine mA rfl rfl ?_
    refine gA (v := .int .i64 2) rfl rfl rfl rfl (fun _ henv => rn_move henv rfl) ?_
    refine gA (v := .bool true) rfl rfl rfl rfl (fun _ henv => rn_bin henv rfl rfl rfl) ?_
    refine sA (v := .bool true) rfl (fun _ henv => rn_pick henv rfl rfl) ?_
    refine mA rfl rfl ?_
    intro a henv
    refine seq_g rfl henv rfl rfl (op_call henv rfl Tryd.call16 rfl (row_live) ?_)
    rintro e w13 ⟨rfl, hb⟩
    refine ⟨_, rfl, ?_⟩
    clear henv a; intro a henv
    replace hst := hst.call hb
    clear hb
    revert a
    refine sA (v := .bool true) rfl (fun _ henv => rn_pick henv rfl rfl) ?_
    refine aA rfl rfl ?_
    intro a henv
    refine wpList_nil ?_
    refine th_n ?_
    refine wp_ret ?_
    refine th_r ?_
    refine leave henv (res1 Tryd.results4 (RV.tmp henv rfl)) ?_
    exact ⟨rfl, hst.below⟩
set_option maxRecDepth 100000 in
set_option maxHeartbeats 8000000 in
theorem rmakes_bbig {i k : Int} {A0 : Option Addr} {n0 c0 : Nat} {es0 : List Int} {w0 : World} (h0 : (pfRow fI FI 1 A0 n0 c0 es0).P w0) (hI : I64 es0) (hs : n0 ≤ 5000) (hi : 4096 < i) :
    Calls Tryd.prog 4 #[.int .i64 i, .int .i64 k, .slice A0 n0 c0] w0 fun e w' => e = .returned (.bool true) ∧ Below w0.heap.size w0 w' := by
  refine enter Tryd.func4 rfl Tryd.ntmps4 rfl ?_
  intro a henv hst
  have hlen0 := h0.2.1
  have hbig0 := Nat.le_trans h0.1.cap h0.1.big
  unfold maxLen at hbig0
  replace hst := hst.argRow h0
  clear h0
  refine wp_seq ?_
  refine region_seq ?_
  refine sv (v := .bool false) henv rfl (rn_assign henv rfl) ?_
  clear henv a; intro a henv
  refine wpList_nil ?_
  refine th_n ?_
  refine wp_seq ?_
  refine wp_seq ?_
  refine region_seq ?_
  refine seq_step rfl (op_call henv rfl Tryd.call16 rfl (row_live) ?_)
  rintro e w1 ⟨rfl, hb⟩
  refine ⟨_, rfl, ?_⟩
  clear henv a; intro a henv
  replace hst := hst.call hb
  clear hb
  refine sv (v := .bool false) henv rfl (rn_un henv rfl rfl) ?_
  clear henv a; intro a henv
  refine wpList_nil ?_
  refine th_n ?_
  refine if_f henv rfl (rfl) ?_
  refine wp_skip ?_
  refine th_n ?_
  refine wp_seq ?_
  refine wp_seq ?_
  refine region_seq ?_
  revert a
  refine mA rfl rfl ?_
  refine sA (v := .int .i64 (n0 : Nat)) rfl (fun _ henv => rn_len henv Tryd.underlying59 rfl) ?_
  refine sA (v := .bool (decide (((n0 : Nat) : Int) > (5000 : Int)))) rfl (fun _ henv => rn_bin henv rfl rfl rfl) ?_
  intro a henv
  rw [show (decide (((n0 : Nat) : Int) > (5000 : Int))) = false from decide_eq_false (by omega)] at henv
  refine wpList_nil ?_
  refine th_n ?_
  refine if_f henv rfl (rfl) ?_
  refine wp_skip ?_
  refine th_n ?_
  refine wp_seq ?_
  refine region_seq ?_
  refine sv (v := .int .i64 i) henv rfl (rn_move henv rfl) ?_
  clear henv a; intro a henv
  refine seq_step rfl (op_call henv rfl Tryd.call37 rfl (row_zero_bad (.inr hi)) ?_)
  rintro e w2 ⟨rfl, hb⟩
  refine ⟨_, rfl, ?_⟩
  clear henv a; intro a henv
  replace hst := hst.call hb
  clear hb
  revert a
  refine mA rfl rfl ?_
  refine sA (v := .slice none 0 0) rfl (fun _ henv => rn_extract henv rfl rfl) ?_
  refine sA (v := .int .i64 2) rfl (fun _ henv => rn_extract henv rfl rfl) ?_
  refine aA rfl rfl ?_
  refine aA rfl rfl ?_
  intro a henv
  refine wpList_nil ?_
  refine th_n ?_
  refine wp_seq ?_
  refine region_seq ?_
  revert a
  refine mA rfl rfl ?_
  refine mA rfl rfl ?_
  intro a henv
  refine seq_step rfl (op_call henv rfl Tryd.call38 rfl (row_unit_bad (.inr hi)) ?_)
  rintro e w3 ⟨rfl, hb⟩
  refine ⟨_, rfl, ?_⟩
  clear henv a; intro a henv
  replace hst := hst.call hb
  clear hb
  revert a
  refine mA rfl rfl ?_
  refine sA (v := .slice none 0 0) rfl (fun _ henv => rn_extract henv rfl rfl) ?_
  refine sA (v := .int .i64 2) rfl (fun _ henv => rn_extract henv rfl rfl) ?_
  refine aA rfl rfl ?_
  refine aA rfl rfl ?_
  intro a henv
  refine wpList_nil ?_
  refine th_n ?_
  refine wp_seq ?_
  refine region_seq ?_
  refine sv (v := .slice A0 n0 c0) henv rfl (rn_move henv rfl) ?_
  clear henv a; intro a henv
  refine seq_step rfl (op_call henv rfl Tryd.call39 rfl (row_of (hst.pat (k := 0) rfl) hI (by omega)) ?_)
  rintro e w9 ⟨_, rfl, ⟨A4, c5, es6, rfl, hr, hl7, hz8⟩, hb⟩
  refine ⟨_, rfl, ?_⟩
  clear henv a; intro a henv
  replace hst := hst.freshRd hb hr hl7 (ap_N hr.2.1 trivial)
  clear hr
  clear hb
  refine sv (v := .slice A4 n0 c5) henv rfl (rn_assign henv rfl) ?_
  clear henv a; intro a henv
  refine wpList_nil ?_
  refine th_n ?_
  refine wp_seq ?_
  refine wp_seq ?_
  refine region_seq ?_
  revert a
  refine mA rfl rfl ?_
  refine sA (v := .int .i64 (n0 : Nat)) rfl (fun _ henv => rn_len henv Tryd.underlying30 rfl) ?_
  refine mA rfl rfl ?_
  refine sA (v := .int .i64 (n0 : Nat)) rfl (fun _ henv => rn_len henv Tryd.underlying59 rfl) ?_
  refine sA (v := .bool (((n0 : Nat) : Int) != ((n0 : Nat) : Int))) rfl (fun _ henv => rn_bin henv rfl rfl rfl) ?_
  intro a henv
  rw [show (((n0 : Nat) : Int) != ((n0 : Nat) : Int)) = false from (bne_self_eq_false _)] at henv
  refine wpList_nil ?_
  refine th_n ?_
  refine if_f henv rfl (rfl) ?_
  refine wp_skip ?_
  refine th_n ?_
  refine wp_seq ?_
  refine wp_seq ?_
  refine region_seq ?_
  refine sv (v := .int .i64 0) henv rfl (rn_assign henv rfl) ?_
  clear henv a; intro a henv
  refine wpList_nil ?_
  refine th_n ?_
  refine wp_block ?_
  refine wp_loop_ghost (fun mz a w => ∃ j : Nat, n0 - j = mz ∧ Env 149 a [(0, .int .i64 i), (1, .int .i64 k), (2, .slice A0 n0 c0), (7, .slice none 0 0), (8, .int .i64 2), (9, .slice none 0 0), (10, .int .i64 2), (11, .slice A4 n0 c5), (12, .int .i64 (j : Nat))] ∧ St w0 w [] [pfRow fN FN 2 A4 n0 c5 es6, pfRow fI FI 1 A0 n0 c0 es0] ∧ j ≤ n0) _ ⟨0, rfl, henv.sub ⟨rfl, rfl, rfl, rfl, rfl, rfl, rfl, rfl, rfl, trivial⟩, hst.pick [] [0, 1] (by decide), (Nat.zero_le _)⟩ ?_
  clear henv hst a
  rintro mz a w10 ⟨j, rfl, henv, hst, hj⟩
  refine wp_seq ?_
  refine wp_seq ?_
  refine region_seq ?_
  revert a
  refine mA rfl rfl ?_
  refine mA rfl rfl ?_
  refine sA (v := .int .i64 (n0 : Nat)) rfl (fun _ henv => rn_len henv Tryd.underlying59 rfl) ?_
  refine sA (v := .bool (decide (((j : Nat) : Int) < ((n0 : Nat) : Int)))) rfl (fun _ henv => rn_bin henv rfl rfl rfl) ?_
  intro a henv
  refine wpList_nil ?_
  refine th_n ?_
  refine if_split henv rfl (fun hc11 => ?_) (fun hc11 => ?_)
  · have hlt : j < n0 := by have := of_decide_eq_true hc11; omega
    obtain ⟨⟨A, c, z⟩, he⟩ : ∃ e, es6[j]? = some e := ⟨_, List.getElem?_eq_getElem (by omega)⟩
    have hx : es0[j]? = some z := elem_map hz8 he
    have hzb := hI.at hx
    replace hst := hst.elem (k := 0) rfl he
    replace hst : St w0 _ [] [pfZ A c z, pfRow fN FN 2 A4 n0 c5 es6, pfRow fI FI 1 A0 n0 c0 es0] := hst
    refine wp_skip ?_
    refine th_n ?_
    refine wp_seq ?_
    refine wp_block ?_
    refine wp_seq ?_
    refine region_seq ?_
    revert a
    refine mA rfl rfl ?_
    refine mA rfl rfl ?_
    refine sA (v := .pointer (some ⟨ab A4, ao A4 + j * 2, none⟩)) rfl (fun _ henv => rn_idxR (i := j) henv Tryd.underlying30 (ty_anvil_integer_Int.size) rfl rfl (by omega) rfl (show (pfRow fN FN 2 A4 n0 c5 es6).P _ from (hst.pat (k := 1) rfl)).1) ?_
    refine sA (v := .agg #[.bool (neg z), .slice A (zl z) c]) rfl (fun _ henv => rn_loadE (i := j) (e := (A, c, z)) henv ty_anvil_integer_Int rfl rfl fN_len (show (pfRow fN FN 2 A4 n0 c5 es6).P _ from (hst.pat (k := 1) rfl)).1 (by omega) he rfl) ?_
    intro a henv
    refine seq_step rfl (op_call henv rfl Tryd.call40 rfl (small_z (z := z) (show ZIn _ A c z from hst.pat (k := 0) rfl) (by omega) (by omega)) ?_)
    rintro e w12 ⟨rfl, hb⟩
    refine ⟨_, rfl, ?_⟩
    clear henv a; intro a henv
    replace hst := hst.call hb
    clear hb
    revert a
    refine mA rfl rfl ?_
    refine sA (v := .int .i64 z) rfl (fun _ henv => rn_extract henv rfl rfl) ?_
    refine sA (v := .bool true) rfl (fun _ henv => rn_extract henv rfl rfl) ?_
    refine aA rfl rfl ?_
    refine aA rfl rfl ?_
    intro a henv
    refine wpList_nil ?_
    refine th_n ?_
    refine wp_seq ?_
    refine region_seq ?_
    revert a
    refine mA rfl rfl ?_
    refine mA rfl rfl ?_
    refine mA rfl rfl ?_
    refine sA (v := .pointer (some ⟨ab A0, ao A0 + j * 1, none⟩)) rfl (fun _ henv => rn_idxR (i := j) henv Tryd.underlying59 (ty_int64.size) rfl rfl (by omega) rfl (show (pfRow fI FI 1 A0 n0 c0 es0).P _ from (hst.pat (k := 2) rfl)).1) ?_
    refine sA (v := .int .i64 z) rfl (fun _ henv => rn_loadE1 (i := j) (j := 0) (e := z) henv ty_int64 rfl rfl fI_len (by decide) (show (pfRow fI FI 1 A0 n0 c0 es0).P _ from (hst.pat (k := 2) rfl)).1 (by omega) hx rfl) ?_
    refine sA (v := .bool (z != z)) rfl (fun _ henv => rn_bin henv rfl rfl rfl) ?_
    intro a henv
    rw [show (z != z) = false from (bne_self_eq_false _)] at henv
    revert a
    refine mA rfl rfl ?_
    refine gA (v := .bool true) rfl rfl rfl rfl (fun _ henv => rn_move henv rfl) ?_
    refine gA (v := .bool false) rfl rfl rfl rfl (fun _ henv => rn_un henv rfl rfl) ?_
    refine sA (v := .bool false) rfl (fun _ henv => rn_pick henv rfl rfl) ?_
    intro a henv
    refine wpList_nil ?_
    refine th_n ?_
    refine if_f henv rfl (rfl) ?_
    refine wp_skip ?_
    refine bl_n (th_n ?_)
    refine region_seq ?_
    revert a
    refine mA rfl rfl ?_
    refine sA (v := .int .i64 (j + 1 : Nat)) rfl (fun _ henv => rn_add henv rfl rfl (by rw [IntWalk.i64_in _ (by omega)]; omega)) ?_
    refine aA rfl rfl ?_
    intro a henv
    refine wpList_nil ?_
    exact th_n ⟨_, (by omega), ⟨j + 1, rfl, henv.sub ⟨rfl, rfl, rfl, rfl, rfl, rfl, rfl, rfl, rfl, trivial⟩, hst.pick [] [1, 2] (by decide), (by omega)⟩⟩
  · have hjn : j = n0 := by have := of_decide_eq_false hc11; omega
    refine wp_exit ?_
    refine th_x (th_x (bl_x (th_n ?_)))
    refine wp_seq ?_
    refine wp_seq ?_
    refine region_seq ?_
    revert a
    refine mA rfl rfl ?_
    refine sA (v := .int .i64 (n0 : Nat)) rfl (fun _ henv => rn_len henv Tryd.underlying30 rfl) ?_
    refine mA rfl rfl ?_
    refine sA (v := .int .i64 (n0 : Nat)) rfl (fun _ henv => rn_len henv Tryd.underlying59 rfl) ?_
    refine sA (v := .bool (((n0 : Nat) : Int) != ((n0 : Nat) : Int))) rfl (fun _ henv => rn_bin henv rfl rfl rfl) ?_
    intro a henv
    rw [show (((n0 : Nat) : Int) != ((n0 : Nat) : Int)) = false from (bne_self_eq_false _)] at henv
    refine wpList_nil ?_
    refine th_n ?_
    refine if_f henv rfl (rfl) ?_
    refine wp_skip ?_
    refine th_n ?_
    refine wp_seq ?_
    refine wp_seq ?_
    refine region_seq ?_
    revert a
    refine mA rfl rfl ?_
    refine sA (v := .bool (decide (i < (0 : Int)))) rfl (fun _ henv => rn_bin henv rfl rfl rfl) ?_
    intro a henv
    rw [show (decide (i < (0 : Int))) = false from decide_eq_false (by omega)] at henv
    revert a
    refine mA rfl rfl ?_
    refine gA (v := .int .i64 i) rfl rfl rfl rfl (fun _ henv => rn_move henv rfl) ?_
    refine gA (v := .bool (decide (i > (4096 : Int)))) rfl rfl rfl rfl (fun _ henv => rn_bin henv rfl rfl rfl) ?_
    intro a henv
    rw [show (decide (i > (4096 : Int))) = true from decide_eq_true (by omega)] at henv
    refine sv (v := .bool true) henv rfl (rn_pick henv rfl rfl) ?_
    clear henv a; intro a henv
    refine wpList_nil ?_
    refine th_n ?_
    refine if_t henv rfl (rfl) ?_
    refine wp_seq ?_
    refine region_seq ?_
    revert a
    refine mA rfl rfl ?_
    refine sA (v := .int .i64 0) rfl (fun _ henv => rn_len henv Tryd.underlying30 rfl) ?_
    refine sA (v := .bool true) rfl (fun _ henv => rn_bin henv rfl rfl rfl) ?_
    refine mA rfl rfl ?_
    refine gA (v := .int .i64 2) rfl rfl rfl rfl (fun _ henv => rn_move henv rfl) ?_
    refine gA (v := .bool true) rfl rfl rfl rfl (fun _ henv => rn_bin henv rfl rfl rfl) ?_
    refine sA (v := .bool true) rfl (fun _ henv => rn_pick henv rfl rfl) ?_
    refine mA rfl rfl ?_
    refine gA (v := .slice none 0 0) rfl rfl rfl rfl (fun _ henv => rn_move henv rfl) ?_
    refine gA (v := .int .i64 0) rfl rfl rfl rfl (fun _ henv => rn_len henv Tryd.underlying30 rfl) ?_
    refine gA (v := .bool true) rfl rfl rfl rfl (fun _ henv => rn_bin henv rfl rfl rfl) ?_
    refine sA (v := .bool true) rfl (fun _ henv => rn_pick henv rfl rfl) ?_
    refine mA rfl rfl ?_
    refine gA (v := .int .i64 2) rfl rfl rfl rfl (fun _ henv => rn_move henv rfl) ?_
    refine gA (v := .bool true) rfl rfl rfl rfl (fun _ henv => rn_bin henv rfl rfl rfl) ?_
    refine sA (v := .bool true) rfl (fun _ henv => rn_pick henv rfl rfl) ?_
    refine mA rfl rfl ?_
    intro a henv
    refine seq_g rfl henv rfl rfl (op_call henv rfl Tryd.call16 rfl (row_live) ?_)
    rintro e w13 ⟨rfl, hb⟩
    refine ⟨_, rfl, ?_⟩
    clear henv a; intro a henv
    replace hst := hst.call hb
    clear hb
    revert a
    refine sA (v := .bool true) rfl (fun _ henv => rn_pick henv rfl rfl) ?_
    refine aA rfl rfl ?_
    intro a henv
    refine wpList_nil ?_
    refine th_n ?_
    refine wp_ret ?_
    refine th_r ?_
    refine leave henv (res1 Tryd.results4 (RV.tmp henv rfl)) ?_
    exact ⟨rfl, hst.below⟩
set_option maxRecDepth 100000 in
set_option maxHeartbeats 8000000 in
theorem rmakes_kneg {n : Nat} {k : Int} {A0 : Option Addr} {n0 c0 : Nat} {es0 : List Int} {w0 : World} (h0 : (pfRow fI FI 1 A0 n0 c0 es0).P w0) (hI : I64 es0) (hs : n0 ≤ 5000) (hin : n ≤ 4096) (hk : k < 0) :
    Calls Tryd.prog 4 #[.int .i64 (n : Nat), .int .i64 k, .slice A0 n0 c0] w0 fun e w' => e = .returned (.bool true) ∧ Below w0.heap.size w0 w' := by
  refine enter Tryd.func4 rfl Tryd.ntmps4 rfl ?_
  intro a henv hst
  have hlen0 := h0.2.1
  have hbig0 := Nat.le_trans h0.1.cap h0.1.big
  unfold maxLen at hbig0
  replace hst := hst.argRow h0
  clear h0
  refine wp_seq ?_
  refine region_seq ?_
  refine sv (v := .bool false) henv rfl (rn_assign henv rfl) ?_
  clear henv a; intro a henv
  refine wpList_nil ?_
  refine th_n ?_
  refine wp_seq ?_
  refine wp_seq ?_
  refine region_seq ?_
  refine seq_step rfl (op_call henv rfl Tryd.call16 rfl (row_live) ?_)
  rintro e w1 ⟨rfl, hb⟩
  refine ⟨_, rfl, ?_⟩
  clear henv a; intro a henv
  replace hst := hst.call hb
  clear hb
  refine sv (v := .bool false) henv rfl (rn_un henv rfl rfl) ?_
  clear henv a; intro a henv
  refine wpList_nil ?_
  refine th_n ?_
  refine if_f henv rfl (rfl) ?_
  refine wp_skip ?_
  refine th_n ?_
  refine wp_seq ?_
  refine wp_seq ?_
  refine region_seq ?_
  revert a
  refine mA rfl rfl ?_
  refine sA (v := .int .i64 (n0 : Nat)) rfl (fun _ henv => rn_len henv Tryd.underlying59 rfl) ?_
  refine sA (v := .bool (decide (((n0 : Nat) : Int) > (5000 : Int)))) rfl (fun _ henv => rn_bin henv rfl rfl rfl) ?_
  intro a henv
  rw [show (decide (((n0 : Nat) : Int) > (5000 : Int))) = false from decide_eq_false (by omega)] at henv
  refine wpList_nil ?_
  refine th_n ?_
  refine if_f henv rfl (rfl) ?_
  refine wp_skip ?_
  refine th_n ?_
  refine wp_seq ?_
  refine region_seq ?_
  refine sv (v := .int .i64 (n : Nat)) henv rfl (rn_move henv rfl) ?_
  clear henv a; intro a henv
  refine seq_step rfl (op_call henv rfl Tryd.call37 rfl (row_zero_ok hin) ?_)
  rintro e w7 ⟨_, rfl, ⟨A2, c3, es4, rfl, hr, hl5, hz6⟩, hb⟩
  refine ⟨_, rfl, ?_⟩
  clear henv a; intro a henv
  replace hst := hst.freshRd hb hr hl5 (ap_N hr.2.1 trivial)
  clear hr
  clear hb
  revert a
  refine mA rfl rfl ?_
  refine sA (v := .slice A2 n c3) rfl (fun _ henv => rn_extract henv rfl rfl) ?_
  refine sA (v := .int .i64 0) rfl (fun _ henv => rn_extract henv rfl rfl) ?_
  refine aA rfl rfl ?_
  refine aA rfl rfl ?_
  intro a henv
  refine wpList_nil ?_
  refine th_n ?_
  refine wp_seq ?_
  refine region_seq ?_
  revert a
  refine mA rfl rfl ?_
  refine mA rfl rfl ?_
  intro a henv
  refine seq_step rfl (op_call henv rfl Tryd.call38 rfl (row_unit_kneg hin hk) ?_)
  rintro e w8 ⟨rfl, hb⟩
  refine ⟨_, rfl, ?_⟩
  clear henv a; intro a henv
  replace hst := hst.call hb
  clear hb
  revert a
  refine mA rfl rfl ?_
  refine sA (v := .slice none 0 0) rfl (fun _ henv => rn_extract henv rfl rfl) ?_
  refine sA (v := .int .i64 5) rfl (fun _ henv => rn_extract henv rfl rfl) ?_
  refine aA rfl rfl ?_
  refine aA rfl rfl ?_
  intro a henv
  refine wpList_nil ?_
  refine th_n ?_
  refine wp_seq ?_
  refine region_seq ?_
  refine sv (v := .slice A0 n0 c0) henv rfl (rn_move henv rfl) ?_
  clear henv a; intro a henv
  refine seq_step rfl (op_call henv rfl Tryd.call39 rfl (row_of (hst.pat (k := 1) rfl) hI (by omega)) ?_)
  rintro e w14 ⟨_, rfl, ⟨A9, c10, es11, rfl, hr, hl12, hz13⟩, hb⟩
  refine ⟨_, rfl, ?_⟩
  clear henv a; intro a henv
  replace hst := hst.freshRd hb hr hl12 (ap_N hr.2.1 trivial)
  clear hr
  clear hb
  refine sv (v := .slice A9 n0 c10) henv rfl (rn_assign henv rfl) ?_
  clear henv a; intro a henv
  refine wpList_nil ?_
  refine th_n ?_
  refine wp_seq ?_
  refine wp_seq ?_
  refine region_seq ?_
  revert a
  refine mA rfl rfl ?_
  refine sA (v := .int .i64 (n0 : Nat)) rfl (fun _ henv => rn_len henv Tryd.underlying30 rfl) ?_
  refine mA rfl rfl ?_
  refine sA (v := .int .i64 (n0 : Nat)) rfl (fun _ henv => rn_len henv Tryd.underlying59 rfl) ?_
  refine sA (v := .bool (((n0 : Nat) : Int) != ((n0 : Nat) : Int))) rfl (fun _ henv => rn_bin henv rfl rfl rfl) ?_
  intro a henv
  rw [show (((n0 : Nat) : Int) != ((n0 : Nat) : Int)) = false from (bne_self_eq_false _)] at henv
  refine wpList_nil ?_
  refine th_n ?_
  refine if_f henv rfl (rfl) ?_
  refine wp_skip ?_
  refine th_n ?_
  refine wp_seq ?_
  refine wp_seq ?_
  refine region_seq ?_
  refine sv (v := .int .i64 0) henv rfl (rn_assign henv rfl) ?_
  clear henv a; intro a henv
  refine wpList_nil ?_
  refine th_n ?_
  refine wp_block ?_
  refine wp_loop_ghost (fun mz a w => ∃ j : Nat, n0 - j = mz ∧ Env 149 a [(0, .int .i64 (n : Nat)), (1, .int .i64 k), (2, .slice A0 n0 c0), (7, .slice A2 n c3), (8, .int .i64 0), (9, .slice none 0 0), (10, .int .i64 5), (11, .slice A9 n0 c10), (12, .int .i64 (j : Nat))] ∧ St w0 w [] [pfRow fN FN 2 A9 n0 c10 es11, pfRow fN FN 2 A2 n c3 es4, pfRow fI FI 1 A0 n0 c0 es0] ∧ j ≤ n0) _ ⟨0, rfl, henv.sub ⟨rfl, rfl, rfl, rfl, rfl, rfl, rfl, rfl, rfl, trivial⟩, hst.pick [] [0, 1, 2] (by decide), (Nat.zero_le _)⟩ ?_
  clear henv hst a
  rintro mz a w15 ⟨j, rfl, henv, hst, hj⟩
  refine wp_seq ?_
  refine wp_seq ?_
  refine region_seq ?_
  revert a
  refine mA rfl rfl ?_
  refine mA rfl rfl ?_
  refine sA (v := .int .i64 (n0 : Nat)) rfl (fun _ henv => rn_len henv Tryd.underlying59 rfl) ?_
  refine sA (v := .bool (decide (((j : Nat) : Int) < ((n0 : Nat) : Int)))) rfl (fun _ henv => rn_bin henv rfl rfl rfl) ?_
  intro a henv
  refine wpList_nil ?_
  refine th_n ?_
  refine if_split henv rfl (fun hc16 => ?_) (fun hc16 => ?_)
  · have hlt : j < n0 := by have := of_decide_eq_true hc16; omega
    obtain ⟨⟨A, c, z⟩, he⟩ : ∃ e, es11[j]? = some e := ⟨_, List.getElem?_eq_getElem (by omega)⟩
    have hx : es0[j]? = some z := elem_map hz13 he
    have hzb := hI.at hx
    replace hst := hst.elem (k := 0) rfl he
    replace hst : St w0 _ [] [pfZ A c z, pfRow fN FN 2 A9 n0 c10 es11, pfRow fN FN 2 A2 n c3 es4, pfRow fI FI 1 A0 n0 c0 es0] := hst
    refine wp_skip ?_
    refine th_n ?_
    refine wp_seq ?_
    refine wp_block ?_
    refine wp_seq ?_
    refine region_seq ?_
    revert a
    refine mA rfl rfl ?_
    refine mA rfl rfl ?_
    refine sA (v := .pointer (some ⟨ab A9, ao A9 + j * 2, none⟩)) rfl (fun _ henv => rn_idxR (i := j) henv Tryd.underlying30 (ty_anvil_integer_Int.size) rfl rfl (by omega) rfl (show (pfRow fN FN 2 A9 n0 c10 es11).P _ from (hst.pat (k := 1) rfl)).1) ?_
    refine sA (v := .agg #[.bool (neg z), .slice A (zl z) c]) rfl (fun _ henv => rn_loadE (i := j) (e := (A, c, z)) henv ty_anvil_integer_Int rfl rfl fN_len (show (pfRow fN FN 2 A9 n0 c10 es11).P _ from (hst.pat (k := 1) rfl)).1 (by omega) he rfl) ?_
    intro a henv
    refine seq_step rfl (op_call henv rfl Tryd.call40 rfl (small_z (z := z) (show ZIn _ A c z from hst.pat (k := 0) rfl) (by omega) (by omega)) ?_)
    rintro e w17 ⟨rfl, hb⟩
    refine ⟨_, rfl, ?_⟩
    clear henv a; intro a henv
    replace hst := hst.call hb
    clear hb
    revert a
    refine mA rfl rfl ?_
    refine sA (v := .int .i64 z) rfl (fun _ henv => rn_extract henv rfl rfl) ?_
    refine sA (v := .bool true) rfl (fun _ henv => rn_extract henv rfl rfl) ?_
    refine aA rfl rfl ?_
    refine aA rfl rfl ?_
    intro a henv
    refine wpList_nil ?_
    refine th_n ?_
    refine wp_seq ?_
    refine region_seq ?_
    revert a
    refine mA rfl rfl ?_
    refine mA rfl rfl ?_
    refine mA rfl rfl ?_
    refine sA (v := .pointer (some ⟨ab A0, ao A0 + j * 1, none⟩)) rfl (fun _ henv => rn_idxR (i := j) henv Tryd.underlying59 (ty_int64.size) rfl rfl (by omega) rfl (show (pfRow fI FI 1 A0 n0 c0 es0).P _ from (hst.pat (k := 3) rfl)).1) ?_
    refine sA (v := .int .i64 z) rfl (fun _ henv => rn_loadE1 (i := j) (j := 0) (e := z) henv ty_int64 rfl rfl fI_len (by decide) (show (pfRow fI FI 1 A0 n0 c0 es0).P _ from (hst.pat (k := 3) rfl)).1 (by omega) hx rfl) ?_
    refine sA (v := .bool (z != z)) rfl (fun _ henv => rn_bin henv rfl rfl rfl) ?_
    intro a henv
    rw [show (z != z) = false from (bne_self_eq_false _)] at henv
    revert a
    refine mA rfl rfl ?_
    refine gA (v := .bool true) rfl rfl rfl rfl (fun _ henv => rn_move henv rfl) ?_
    refine gA (v := .bool false) rfl rfl rfl rfl (fun _ henv => rn_un henv rfl rfl) ?_
    refine sA (v := .bool false) rfl (fun _ henv => rn_pick henv rfl rfl) ?_
    intro a henv
    refine wpList_nil ?_
    refine th_n ?_
    refine if_f henv rfl (rfl) ?_
    refine wp_skip ?_
    refine bl_n (th_n ?_)
    refine region_seq ?_
    revert a
    refine mA rfl rfl ?_
    refine sA (v := .int .i64 (j + 1 : Nat)) rfl (fun _ henv => rn_add henv rfl rfl (by rw [IntWalk.i64_in _ (by omega)]; omega)) ?_
    refine aA rfl rfl ?_
    intro a henv
    refine wpList_nil ?_
    exact th_n ⟨_, (by omega), ⟨j + 1, rfl, henv.sub ⟨rfl, rfl, rfl, rfl, rfl, rfl, rfl, rfl, rfl, trivial⟩, hst.pick [] [1, 2, 3] (by decide), (by omega)⟩⟩
  · have hjn : j = n0 := by have := of_decide_eq_false hc16; omega
    refine wp_exit ?_
    refine th_x (th_x (bl_x (th_n ?_)))
    refine wp_seq ?_
    refine wp_seq ?_
    refine region_seq ?_
    revert a
    refine mA rfl rfl ?_
    refine sA (v := .int .i64 (n0 : Nat)) rfl (fun _ henv => rn_len henv Tryd.underlying30 rfl) ?_
    refine mA rfl rfl ?_
    refine sA (v := .int .i64 (n0 : Nat)) rfl (fun _ henv => rn_len henv Tryd.underlying59 rfl) ?_
    refine sA (v := .bool (((n0 : Nat) : Int) != ((n0 : Nat) : Int))) rfl (fun _ henv => rn_bin henv rfl rfl rfl) ?_
    intro a henv
    rw [show (((n0 : Nat) : Int) != ((n0 : Nat) : Int)) = false from (bne_self_eq_false _)] at henv
    refine wpList_nil ?_
    refine th_n ?_
    refine if_f henv rfl (rfl) ?_
    refine wp_skip ?_
    refine th_n ?_
    refine wp_seq ?_
    refine wp_seq ?_
    refine region_seq ?_
    revert a
    refine mA rfl rfl ?_
    refine sA (v := .bool (decide (((n : Nat) : Int) < (0 : Int)))) rfl (fun _ henv => rn_bin henv rfl rfl rfl) ?_
    intro a henv
    rw [show (decide (((n : Nat) : Int) < (0 : Int))) = false from decide_eq_false (by omega)] at henv
    revert a
    refine mA rfl rfl ?_
    refine gA (v := .int .i64 (n : Nat)) rfl rfl rfl rfl (fun _ henv => rn_move henv rfl) ?_
    refine gA (v := .bool (decide (((n : Nat) : Int) > (4096 : Int)))) rfl rfl rfl rfl (fun _ henv => rn_bin henv rfl rfl rfl) ?_
    intro a henv
    rw [show (decide (((n : Nat) : Int) > (4096 : Int))) = false from decide_eq_false (by omega)] at henv
    refine sv (v := .bool false) henv rfl (rn_pick henv rfl rfl) ?_
    clear henv a; intro a henv
    refine wpList_nil ?_
    refine th_n ?_
    refine if_f henv rfl (rfl) ?_
    refine wp_skip ?_
    refine th_n ?_
    refine wp_seq ?_
    refine wp_seq ?_
    refine region_seq ?_
    revert a
    refine mA rfl rfl ?_
    refine sA (v := .int .i64 (n : Nat)) rfl (fun _ henv => rn_len henv Tryd.underlying30 rfl) ?_
    refine mA rfl rfl ?_
    refine sA (v := .bool (((n : Nat) : Int) != ((n : Nat) : Int))) rfl (fun _ henv => rn_bin henv rfl rfl rfl) ?_
    intro a henv
    rw [show (((n : Nat) : Int) != ((n : Nat) : Int)) = false from (bne_self_eq_false _)] at henv
    revert a
    refine mA rfl rfl ?_
    refine gA (v := .int .i64 0) rfl rfl rfl rfl (fun _ henv => rn_move henv rfl) ?_
    refine gA (v := .bool false) rfl rfl rfl rfl (fun _ henv => rn_bin henv rfl rfl rfl) ?_
    refine sA (v := .bool false) rfl (fun _ henv => rn_pick henv rfl rfl) ?_
    refine mA rfl rfl ?_
    refine gA (v := .slice A2 n c3) rfl rfl rfl rfl (fun _ henv => rn_move henv rfl) ?_
    intro a henv
    refine seq_g rfl henv rfl rfl (op_call henv rfl Tryd.call41 rfl (row_iszero (hst.pat (k := 1) rfl)) ?_)
    rintro e w18 ⟨rfl, hb⟩
    refine ⟨_, rfl, ?_⟩
    clear henv a; intro a henv
    replace hst := hst.call hb
    clear hb
    rw [show (allz es4) = true from (allz_rep hz6)] at henv
    revert a
    refine gA (v := .bool false) rfl rfl rfl rfl (fun _ henv => rn_un henv rfl rfl) ?_
    refine sA (v := .bool false) rfl (fun _ henv => rn_pick henv rfl rfl) ?_
    intro a henv
    refine wpList_nil ?_
    refine th_n ?_
    refine if_f henv rfl (rfl) ?_
    refine wp_skip ?_
    refine th_n ?_
    refine wp_seq ?_
    refine wp_seq ?_
    refine region_seq ?_
    revert a
    refine mA rfl rfl ?_
    refine sA (v := .bool (decide (k < (0 : Int)))) rfl (fun _ henv => rn_bin henv rfl rfl rfl) ?_
    intro a henv
    rw [show (decide (k < (0 : Int))) = true from decide_eq_true (by omega)] at henv
    revert a
    refine mA rfl rfl ?_
    refine kA rfl rfl rfl rfl rfl ?_
    refine kA rfl rfl rfl rfl rfl ?_
    refine kA rfl rfl rfl rfl rfl ?_
    refine sA (v := .bool true) rfl (fun _ henv => rn_pick henv rfl rfl) ?_
    intro a henv
    refine wpList_nil ?_
    refine th_n ?_
    refine if_t henv rfl (rfl) ?_
    refine wp_seq ?_
    refine region_seq ?_
    revert a
    refine mA rfl rfl ?_
    refine sA (v := .int .i64 0) rfl (fun _ henv => rn_len henv Tryd.underlying30 rfl) ?_
    refine sA (v := .bool true) rfl (fun _ henv => rn_bin henv rfl rfl rfl) ?_
    refine mA rfl rfl ?_
    refine gA (v := .int .i64 5) rfl rfl rfl rfl (fun _ henv => rn_move henv rfl) ?_
    refine gA (v := .bool true) rfl rfl rfl rfl (fun _ henv => rn_bin henv rfl rfl rfl) ?_
    refine sA (v := .bool true) rfl (fun _ henv => rn_pick henv rfl rfl) ?_
    refine mA rfl rfl ?_
    intro a henv
    refine seq_g rfl henv rfl rfl (op_call henv rfl Tryd.call16 rfl (row_live) ?_)
    rintro e w19 ⟨rfl, hb⟩
    refine ⟨_, rfl, ?_⟩
    clear henv a; intro a henv
    replace hst := hst.call hb
    clear hb
    revert a
    refine sA (v := .bool true) rfl (fun _ henv => rn_pick henv rfl rfl) ?_
    refine aA rfl rfl ?_
    intro a henv
    refine wpList_nil ?_
    refine th_n ?_
    refine wp_ret ?_
    refine th_r ?_
    refine leave henv (res1 Tryd.results4 (RV.tmp henv rfl)) ?_
    exact ⟨rfl, hst.below⟩
set_option maxRecDepth 100000 in
set_option maxHeartbeats 8000000 in
theorem rmakes_kbig {n : Nat} {k : Int} {A0 : Option Addr} {n0 c0 : Nat} {es0 : List Int} {w0 : World} (h0 : (pfRow fI FI 1 A0 n0 c0 es0).P w0) (hI : I64 es0) (hs : n0 ≤ 5000) (hin : n ≤ 4096) (hk : (n : Int) ≤ k) :
    Calls Tryd.prog 4 #[.int .i64 (n : Nat), .int .i64 k, .slice A0 n0 c0] w0 fun e w' => e = .returned (.bool true) ∧ Below w0.heap.size w0 w' := by
  refine enter Tryd.func4 rfl Tryd.ntmps4 rfl ?_
  intro a henv hst
  have hlen0 := h0.2.1
  have hbig0 := Nat.le_trans h0.1.cap h0.1.big
  unfold maxLen at hbig0
  replace hst := hst.argRow h0
  clear h0
  refine wp_seq ?_
  refine region_seq ?_
  refine sv (v := .bool false) henv rfl (rn_assign henv rfl) ?_
  clear henv a; intro a henv
  refine wpList_nil ?_
  refine th_n ?_
  refine wp_seq ?_
  refine wp_seq ?_
  refine region_seq ?_
  refine seq_step rfl (op_call henv rfl Tryd.call16 rfl (row_live) ?_)
  rintro e w1 ⟨rfl, hb⟩
  refine ⟨_, rfl, ?_⟩
  clear henv a; intro a henv
  replace hst := hst.call hb
  clear hb
  refine sv (v := .bool false) henv rfl (rn_un henv rfl rfl) ?_
  clear henv a; intro a henv
  refine wpList_nil ?_
  refine th_n ?_
  refine if_f henv rfl (rfl) ?_
  refine wp_skip ?_
  refine th_n ?_
  refine wp_seq ?_
  refine wp_seq ?_
  refine region_seq ?_
  revert a
  refine mA rfl rfl ?_
  refine sA (v := .int .i64 (n0 : Nat)) rfl (fun _ henv => rn_len henv Tryd.underlying59 rfl) ?_
  refine sA (v := .bool (decide (((n0 : Nat) : Int) > (5000 : Int)))) rfl (fun _ henv => rn_bin henv rfl rfl rfl) ?_
  intro a henv
  rw [show (decide (((n0 : Nat) : Int) > (5000 : Int))) = false from decide_eq_false (by omega)] at henv
  refine wpList_nil ?_
  refine th_n ?_
  refine if_f henv rfl (rfl) ?_
  refine wp_skip ?_
  refine th_n ?_
  refine wp_seq ?_
  refine region_seq ?_
  refine sv (v := .int .i64 (n : Nat)) henv rfl (rn_move henv rfl) ?_
  clear henv a; intro a henv
  refine seq_step rfl (op_call henv rfl Tryd.call37 rfl (row_zero_ok hin) ?_)
  rintro e w7 ⟨_, rfl, ⟨A2, c3, es4, rfl, hr, hl5, hz6⟩, hb⟩
  refine ⟨_, rfl, ?_⟩
  clear henv a; intro a henv
  replace hst := hst.freshRd hb hr hl5 (ap_N hr.2.1 trivial)
  clear hr
  clear hb
  revert a
  refine mA rfl rfl ?_
  refine sA (v := .slice A2 n c3) rfl (fun _ henv => rn_extract henv rfl rfl) ?_
  refine sA (v := .int .i64 0) rfl (fun _ henv => rn_extract henv rfl rfl) ?_
  refine aA rfl rfl ?_
  refine aA rfl rfl ?_
  intro a henv
  refine wpList_nil ?_
  refine th_n ?_
  refine wp_seq ?_
  refine region_seq ?_
  revert a
  refine mA rfl rfl ?_
  refine mA rfl rfl ?_
  intro a henv
  refine seq_step rfl (op_call henv rfl Tryd.call38 rfl (row_unit_kbig hin hk) ?_)
  rintro e w8 ⟨rfl, hb⟩
  refine ⟨_, rfl, ?_⟩
  clear henv a; intro a henv
  replace hst := hst.call hb
  clear hb
  revert a
  refine mA rfl rfl ?_
  refine sA (v := .slice none 0 0) rfl (fun _ henv => rn_extract henv rfl rfl) ?_
  refine sA (v := .int .i64 5) rfl (fun _ henv => rn_extract henv rfl rfl) ?_
  refine aA rfl rfl ?_
  refine aA rfl rfl ?_
  intro a henv
  refine wpList_nil ?_
  refine th_n ?_
  refine wp_seq ?_
  refine region_seq ?_
  refine sv (v := .slice A0 n0 c0) henv rfl (rn_move henv rfl) ?_
  clear henv a; intro a henv
  refine seq_step rfl (op_call henv rfl Tryd.call39 rfl (row_of (hst.pat (k := 1) rfl) hI (by omega)) ?_)
  rintro e w14 ⟨_, rfl, ⟨A9, c10, es11, rfl, hr, hl12, hz13⟩, hb⟩
  refine ⟨_, rfl, ?_⟩
  clear henv a; intro a henv
  replace hst := hst.freshRd hb hr hl12 (ap_N hr.2.1 trivial)
  clear hr
  clear hb
  refine sv (v := .slice A9 n0 c10) henv rfl (rn_assign henv rfl) ?_
  clear henv a; intro a henv
  refine wpList_nil ?_
  refine th_n ?_
  refine wp_seq ?_
  refine wp_seq ?_
  refine region_seq ?_
  revert a
  refine mA rfl rfl ?_
  refine sA (v := .int .i64 (n0 : Nat)) rfl (fun _ henv => rn_len henv Tryd.underlying30 rfl) ?_
  refine mA rfl rfl ?_
  refine sA (v := .int .i64 (n0 : Nat)) rfl (fun _ henv => rn_len henv Tryd.underlying59 rfl) ?_
  refine sA (v := .bool (((n0 : Nat) : Int) != ((n0 : Nat) : Int))) rfl (fun _ henv => rn_bin henv rfl rfl rfl) ?_
  intro a henv
  rw [show (((n0 : Nat) : Int) != ((n0 : Nat) : Int)) = false from (bne_self_eq_false _)] at henv
  refine wpList_nil ?_
  refine th_n ?_
  refine if_f henv rfl (rfl) ?_
  refine wp_skip ?_
  refine th_n ?_
  refine wp_seq ?_
  refine wp_seq ?_
  refine region_seq ?_
  refine sv (v := .int .i64 0) henv rfl (rn_assign henv rfl) ?_
  clear henv a; intro a henv
  refine wpList_nil ?_
  refine th_n ?_
  refine wp_block ?_
  refine wp_loop_ghost (fun mz a w => ∃ j : Nat, n0 - j = mz ∧ Env 149 a [(0, .int .i64 (n : Nat)), (1, .int .i64 k), (2, .slice A0 n0 c0), (7, .slice A2 n c3), (8, .int .i64 0), (9, .slice none 0 0), (10, .int .i64 5), (11, .slice A9 n0 c10), (12, .int .i64 (j : Nat))] ∧ St w0 w [] [pfRow fN FN 2 A9 n0 c10 es11, pfRow fN FN 2 A2 n c3 es4, pfRow fI FI 1 A0 n0 c0 es0] ∧ j ≤ n0) _ ⟨0, rfl, henv.sub ⟨rfl, rfl, rfl, rfl, rfl, rfl, rfl, rfl, rfl, trivial⟩, hst.pick [] [0, 1, 2] (by decide), (Nat.zero_le _)⟩ ?_
  clear henv hst a
  rintro mz a w15 ⟨j, rfl, henv, hst, hj⟩
  refine wp_seq ?_
  refine wp_seq ?_
  refine region_seq ?_
  revert a
  refine mA rfl rfl ?_
  refine mA rfl rfl ?_
  refine sA (v := .int .i64 (n0 : Nat)) rfl (fun _ henv => rn_len henv Tryd.underlying59 rfl) ?_
  refine sA (v := .bool (decide (((j : Nat) : Int) < ((n0 : Nat) : Int)))) rfl (fun _ henv => rn_bin henv rfl rfl rfl) ?_
  intro a henv
  refine wpList_nil ?_
  refine th_n ?_
  refine if_split henv rfl (fun hc16 => ?_) (fun hc16 => ?_)
  · have hlt : j < n0 := by have := of_decide_eq_true hc16; omega
    obtain ⟨⟨A, c, z⟩, he⟩ : ∃ e, es11[j]? = some e := ⟨_, List.getElem?_eq_getElem (by omega)⟩
    have hx : es0[j]? = some z := elem_map hz13 he
    have hzb := hI.at hx
    replace hst := hst.elem (k := 0) rfl he
    replace hst : St w0 _ [] [pfZ A c z, pfRow fN FN 2 A9 n0 c10 es11, pfRow fN FN 2 A2 n c3 es4, pfRow fI FI 1 A0 n0 c0 es0] := hst
    refine wp_skip ?_
    refine th_n ?_
    refine wp_seq ?_
    refine wp_block ?_
    refine wp_seq ?_
    refine region_seq ?_
    revert a
    refine mA rfl rfl ?_
    refine mA rfl rfl ?_
    refine sA (v := .pointer (some ⟨ab A9, ao A9 + j * 2, none⟩)) rfl (fun _ henv => rn_idxR (i := j) henv Tryd.underlying30 (ty_anvil_integer_Int.size) rfl rfl (by omega) rfl (show (pfRow fN FN 2 A9 n0 c10 es11).P _ from (hst.pat (k := 1) rfl)).1) ?_
    refine sA (v := .agg #[.bool (neg z), .slice A (zl z) c]) rfl (fun _ henv => rn_loadE (i := j) (e := (A, c, z)) henv ty_anvil_integer_Int rfl rfl fN_len (show (pfRow fN FN 2 A9 n0 c10 es11).P _ from (hst.pat (k := 1) rfl)).1 (by omega) he rfl) ?_
    intro a henv
    refine seq_step rfl (op_call henv rfl Tryd.call40 rfl (small_z (z := z) (show ZIn _ A c z from hst.pat (k := 0) rfl) (by omega) (by omega)) ?_)
    rintro e w17 ⟨rfl, hb⟩
    refine ⟨_, rfl, ?_⟩
    clear henv a; intro a henv
    replace hst := hst.call hb
    clear hb
    revert a
    refine mA rfl rfl ?_
    refine sA (v := .int .i64 z) rfl (fun _ henv => rn_extract henv rfl rfl) ?_
    refine sA (v := .bool true) rfl (fun _ henv => rn_extract henv rfl rfl) ?_
    refine aA rfl rfl ?_
    refine aA rfl rfl ?_
    intro a henv
    refine wpList_nil ?_
    refine th_n ?_
    refine wp_seq ?_
    refine region_seq ?_
    revert a
    refine mA rfl rfl ?_
    refine mA rfl rfl ?_
    refine mA rfl rfl ?_
    refine sA (v := .pointer (some ⟨ab A0, ao A0 + j * 1, none⟩)) rfl (fun _ henv => rn_idxR (i := j) henv Tryd.underlying59 (ty_int64.size) rfl rfl (by omega) rfl (show (pfRow fI FI 1 A0 n0 c0 es0).P _ from (hst.pat (k := 3) rfl)).1) ?_
    refine sA (v := .int .i64 z) rfl (fun _ henv => rn_loadE1 (i := j) (j := 0) (e := z) henv ty_int64 rfl rfl fI_len (by decide) (show (pfRow fI FI 1 A0 n0 c0 es0).P _ from (hst.pat (k := 3) rfl)).1 (by omega) hx rfl) ?_
    refine sA (v := .bool (z != z)) rfl (fun _ henv => rn_bin henv rfl rfl rfl) ?_
    intro a henv
    rw [show (z != z) = false from (bne_self_eq_false _)] at henv
    revert a
    refine mA rfl rfl ?_
    refine gA (v := .bool true) rfl rfl rfl rfl (fun _ henv => rn_move henv rfl) ?_
    refine gA (v := .bool false) rfl rfl rfl rfl (fun _ henv => rn_un henv rfl rfl) ?_
    refine sA (v := .bool false) rfl (fun _ henv => rn_pick henv rfl rfl) ?_
    intro a henv
    refine wpList_nil ?_
    refine th_n ?_
    refine if_f henv rfl (rfl) ?_
    refine wp_skip ?_
    refine bl_n (th_n ?_)
    refine region_seq ?_
    revert a
    refine mA rfl rfl ?_
    refine sA (v := .int .i64 (j + 1 : Nat)) rfl (fun _ henv => rn_add henv rfl rfl (by rw [IntWalk.i64_in _ (by omega)]; omega)) ?_
    refine aA rfl rfl ?_
    intro a henv
    refine wpList_nil ?_
    exact th_n ⟨_, (by omega), ⟨j + 1, rfl, henv.sub ⟨rfl, rfl, rfl, rfl, rfl, rfl, rfl, rfl, rfl, trivial⟩, hst.pick [] [1, 2, 3] (by decide), (by omega)⟩⟩
  · have hjn : j = n0 := by have := of_decide_eq_false hc16; omega
    refine wp_exit ?_
    refine th_x (th_x (bl_x (th_n ?_)))
    refine wp_seq ?_
    refine wp_seq ?_
    refine region_seq ?_
    revert a
    refine mA rfl rfl ?_
    refine sA (v := .int .i64 (n0 : Nat)) rfl (fun _ henv => rn_len henv Tryd.underlying30 rfl) ?_
    refine mA rfl rfl ?_
    refine sA (v := .int .i64 (n0 : Nat)) rfl (fun _ henv => rn_len henv Tryd.underlying59 rfl) ?_
    refine sA (v := .bool (((n0 : Nat) : Int) != ((n0 : Nat) : Int))) rfl (fun _ henv => rn_bin henv rfl rfl rfl) ?_
    intro a henv
    rw [show (((n0 : Nat) : Int) != ((n0 : Nat) : Int)) = false from (bne_self_eq_false _)] at henv
    refine wpList_nil ?_
    refine th_n ?_
    refine if_f henv rfl (rfl) ?_
    refine wp_skip ?_
    refine th_n ?_
    refine wp_seq ?_
    refine wp_seq ?_
    refine region_seq ?_
    revert a
    refine mA rfl rfl ?_
    refine sA (v := .bool (decide (((n : Nat) : Int) < (0 : Int)))) rfl (fun _ henv => rn_bin henv rfl rfl rfl) ?_
    intro a henv
    rw [show (decide (((n : Nat) : Int) < (0 : Int))) = false from decide_eq_false (by omega)] at henv
    revert a
    refine mA rfl rfl ?_
    refine gA (v := .int .i64 (n : Nat)) rfl rfl rfl rfl (fun _ henv => rn_move henv rfl) ?_
    refine gA (v := .bool (decide (((n : Nat) : Int) > (4096 : Int)))) rfl rfl rfl rfl (fun _ henv => rn_bin henv rfl rfl rfl) ?_
    intro a henv
    rw [show (decide (((n : Nat) : Int) > (4096 : Int))) = false from decide_eq_false (by omega)] at henv
    refine sv (v := .bool false) henv rfl (rn_pick henv rfl rfl) ?_
    clear henv a; intro a henv
    refine wpList_nil ?_
    refine th_n ?_
    refine if_f henv rfl (rfl) ?_
    refine wp_skip ?_
    refine th_n ?_
    refine wp_seq ?_
    refine wp_seq ?_
    refine region_seq ?_
    revert a
    refine mA rfl rfl ?_
    refine sA (v := .int .i64 (n : Nat)) rfl (fun _ henv => rn_len henv Tryd.underlying30 rfl) ?_
    refine mA rfl rfl ?_
    refine sA (v := .bool (((n : Nat) : Int) != ((n : Nat) : Int))) rfl (fun _ henv => rn_bin henv rfl rfl rfl) ?_
    intro a henv
    rw [show (((n : Nat) : Int) != ((n : Nat) : Int)) = false from (bne_self_eq_false _)] at henv
    revert a
    refine mA rfl rfl ?_
    refine gA (v := .int .i64 0) rfl rfl rfl rfl (fun _ henv => rn_move henv rfl) ?_
    refine gA (v := .bool false) rfl rfl rfl rfl (fun _ henv => rn_bin henv rfl rfl rfl) ?_
    refine sA (v := .bool false) rfl (fun _ henv => rn_pick henv rfl rfl) ?_
    refine mA rfl rfl ?_
    refine gA (v := .slice A2 n c3) rfl rfl rfl rfl (fun _ henv => rn_move henv rfl) ?_
    intro a henv
    refine seq_g rfl henv rfl rfl (op_call henv rfl Tryd.call41 rfl (row_iszero (hst.pat (k := 1) rfl)) ?_)
    rintro e w18 ⟨rfl, hb⟩
    refine ⟨_, rfl, ?_⟩
    clear henv a; intro a henv
    replace hst := hst.call hb
    clear hb
    rw [show (allz es4) = true from (allz_rep hz6)] at henv
    revert a
    refine gA (v := .bool false) rfl rfl rfl rfl (fun _ henv => rn_un henv rfl rfl) ?_
    refine sA (v := .bool false) rfl (fun _ henv => rn_pick henv rfl rfl) ?_
    intro a henv
    refine wpList_nil ?_
    refine th_n ?_
    refine if_f henv rfl (rfl) ?_
    refine wp_skip ?_
    refine th_n ?_
    refine wp_seq ?_
    refine wp_seq ?_
    refine region_seq ?_
    revert a
    refine mA rfl rfl ?_
    refine sA (v := .bool (decide (k < (0 : Int)))) rfl (fun _ henv => rn_bin henv rfl rfl rfl) ?_
    intro a henv
    rw [show (decide (k < (0 : Int))) = false from decide_eq_false (by omega)] at henv
    revert a
    refine mA rfl rfl ?_
    refine gA (v := .int .i64 k) rfl rfl rfl rfl (fun _ henv => rn_move henv rfl) ?_
    refine gA (v := .int .i64 (n : Nat)) rfl rfl rfl rfl (fun _ henv => rn_move henv rfl) ?_
    refine gA (v := .bool (decide (k ≥ ((n : Nat) : Int)))) rfl rfl rfl rfl (fun _ henv => rn_bin henv rfl rfl rfl) ?_
    intro a henv
    rw [show (decide (k ≥ ((n : Nat) : Int))) = true from decide_eq_true (by omega)] at henv
    refine sv (v := .bool true) henv rfl (rn_pick henv rfl rfl) ?_
    clear henv a; intro a henv
    refine wpList_nil ?_
    refine th_n ?_
    refine if_t henv rfl (rfl) ?_
    refine wp_seq ?_
    refine region_seq ?_
    revert a
    refine mA rfl rfl ?_
    refine sA (v := .int .i64 0) rfl (fun _ henv => rn_len henv Tryd.underlying30 rfl) ?_
    refine sA (v := .bool true) rfl (fun _ henv => rn_bin henv rfl rfl rfl) ?_
    refine mA rfl rfl ?_
    refine gA (v := .int .i64 5) rfl rfl rfl rfl (fun _ henv => rn_move henv rfl) ?_
    refine gA (v := .bool true) rfl rfl rfl rfl (fun _ henv => rn_bin henv rfl rfl rfl) ?_
    refine sA (v := .bool true) rfl (fun _ henv => rn_pick henv rfl rfl) ?_
    refine mA rfl rfl ?_
    intro a henv
    refine seq_g rfl henv rfl rfl (op_call henv rfl Tryd.call16 rfl (row_live) ?_)
    rintro e w19 ⟨rfl, hb⟩
    refine ⟨_, rfl, ?_⟩
    clear henv a; intro a henv
    replace hst := hst.call hb
    clear hb
    revert a
    refine sA (v := .bool true) rfl (fun _ henv => rn_pick henv rfl rfl) ?_
    refine aA rfl rfl ?_
    intro a henv
    refine wpList_nil ?_
    refine th_n ?_
    refine wp_ret ?_
    refine th_r ?_
    refine leave henv (res1 Tryd.results4 (RV.tmp henv rfl)) ?_
    exact ⟨rfl, hst.below⟩
set_option maxRecDepth 100000 in
set_option maxHeartbeats 8000000 in
theorem rmakes_ok {n k : Nat} {A0 : Option Addr} {n0 c0 : Nat} {es0 : List Int} {w0 : World} (h0 : (pfRow fI FI 1 A0 n0 c0 es0).P w0) (hI : I64 es0) (hs : n0 ≤ 5000) (hin : n ≤ 4096) (hk : k < n) :
    Calls Tryd.prog 4 #[.int .i64 (n : Nat), .int .i64 (k : Nat), .slice A0 n0 c0] w0 fun e w' => e = .returned (.bool true) ∧ Below w0.heap.size w0 w' := by
  refine enter Tryd.func4 rfl Tryd.ntmps4 rfl ?_
  intro a henv hst
  have hlen0 := h0.2.1
  have hbig0 := Nat.le_trans h0.1.cap h0.1.big
  unfold maxLen at hbig0
  replace hst := hst.argRow h0
  clear h0
  refine wp_seq ?_
  refine region_seq ?_
  refine sv (v := .bool false) henv rfl (rn_assign henv rfl) ?_
  clear henv a; intro a henv
  refine wpList_nil ?_
  refine th_n ?_
  refine wp_seq ?_
  refine wp_seq ?_
  refine region_seq ?_
  refine seq_step rfl (op_call henv rfl Tryd.call16 rfl (row_live) ?_)
  rintro e w1 ⟨rfl, hb⟩
  refine ⟨_, rfl, ?_⟩
  clear henv a; intro a henv
  replace hst := hst.call hb
  clear hb
  refine sv (v := .bool false) henv rfl (rn_un henv rfl rfl) ?_
  clear henv a; intro a henv
  refine wpList_nil ?_
  refine th_n ?_
  refine if_f henv rfl (rfl) ?_
  refine wp_skip ?_
  refine th_n ?_
  refine wp_seq ?_
  refine wp_seq ?_
  refine region_seq ?_
  revert a
  refine mA rfl rfl ?_
  refine sA (v := .int .i64 (n0 : Nat)) rfl (fun _ henv => rn_len henv Tryd.underlying59 rfl) ?_
  refine sA (v := .bool (decide (((n0 : Nat) : Int) > (5000 : Int)))) rfl (fun _ henv => rn_bin henv rfl rfl rfl) ?_
  intro a henv
  rw [show (decide (((n0 : Nat) : Int) > (5000 : Int))) = false from decide_eq_false (by omega)] at henv
  refine wpList_nil ?_
  refine th_n ?_
  refine if_f henv rfl (rfl) ?_
  refine wp_skip ?_
  refine th_n ?_
  refine wp_seq ?_
  refine region_seq ?_
  refine sv (v := .int .i64 (n : Nat)) henv rfl (rn_move henv rfl) ?_
  clear henv a; intro a henv
  refine seq_step rfl (op_call henv rfl Tryd.call37 rfl (row_zero_ok hin) ?_)
  rintro e w7 ⟨_, rfl, ⟨A2, c3, es4, rfl, hr, hl5, hz6⟩, hb⟩
  refine ⟨_, rfl, ?_⟩
  clear henv a; intro a henv
  replace hst := hst.freshRd hb hr hl5 (ap_N hr.2.1 trivial)
  clear hr
  clear hb
  revert a
  refine mA rfl rfl ?_
  refine sA (v := .slice A2 n c3) rfl (fun _ henv => rn_extract henv rfl rfl) ?_
  refine sA (v := .int .i64 0) rfl (fun _ henv => rn_extract henv rfl rfl) ?_
  refine aA rfl rfl ?_
  refine aA rfl rfl ?_
  intro a henv
  refine wpList_nil ?_
  refine th_n ?_
  refine wp_seq ?_
  refine region_seq ?_
  revert a
  refine mA rfl rfl ?_
  refine mA rfl rfl ?_
  intro a henv
  refine seq_step rfl (op_call henv rfl Tryd.call38 rfl (row_unit_ok hin hk) ?_)
  rintro e w14 ⟨_, rfl, ⟨A8, c9, es10, rfl, hr, hl11, hz12⟩, hb⟩
  refine ⟨_, rfl, ?_⟩
  clear henv a; intro a henv
  replace hst := hst.freshRow hb hr (ap_N hr.2.1 ⟨nou_rowS, trivial⟩)
  clear hr
  clear hb
  revert a
  refine mA rfl rfl ?_
  refine sA (v := .slice A8 n c9) rfl (fun _ henv => rn_extract henv rfl rfl) ?_
  refine sA (v := .int .i64 0) rfl (fun _ henv => rn_extract henv rfl rfl) ?_
  refine aA rfl rfl ?_
  refine aA rfl rfl ?_
  intro a henv
  refine wpList_nil ?_
  refine th_n ?_
  refine wp_seq ?_
  refine region_seq ?_
  refine sv (v := .slice A0 n0 c0) henv rfl (rn_move henv rfl) ?_
  clear henv a; intro a henv
  refine seq_step rfl (op_call henv rfl Tryd.call39 rfl (row_of (hst.pat (k := 2) rfl) hI (by omega)) ?_)
  rintro e w20 ⟨_, rfl, ⟨A15, c16, es17, rfl, hr, hl18, hz19⟩, hb⟩
  refine ⟨_, rfl, ?_⟩
  clear henv a; intro a henv
  replace hst := hst.freshRd hb hr hl18 (ap_N hr.2.1 ⟨nou_rowS, trivial⟩)
  clear hr
  clear hb
  refine sv (v := .slice A15 n0 c16) henv rfl (rn_assign henv rfl) ?_
  clear henv a; intro a henv
  refine wpList_nil ?_
  refine th_n ?_
  refine wp_seq ?_
  refine wp_seq ?_
  refine region_seq ?_
  revert a
  refine mA rfl rfl ?_
  refine sA (v := .int .i64 (n0 : Nat)) rfl (fun _ henv => rn_len henv Tryd.underlying30 rfl) ?_
  refine mA rfl rfl ?_
  refine sA (v := .int .i64 (n0 : Nat)) rfl (fun _ henv => rn_len henv Tryd.underlying59 rfl) ?_
  refine sA (v := .bool (((n0 : Nat) : Int) != ((n0 : Nat) : Int))) rfl (fun _ henv => rn_bin henv rfl rfl rfl) ?_
  intro a henv
  rw [show (((n0 : Nat) : Int) != ((n0 : Nat) : Int)) = false from (bne_self_eq_false _)] at henv
  refine wpList_nil ?_
  refine th_n ?_
  refine if_f henv rfl (rfl) ?_
  refine wp_skip ?_
  refine th_n ?_
  refine wp_seq ?_
  refine wp_seq ?_
  refine region_seq ?_
  refine sv (v := .int .i64 0) henv rfl (rn_assign henv rfl) ?_
  clear henv a; intro a henv
  refine wpList_nil ?_
  refine th_n ?_
  refine wp_block ?_
  refine wp_loop_ghost (fun mz a w => ∃ j : Nat, n0 - j = mz ∧ Env 149 a [(0, .int .i64 (n : Nat)), (1, .int .i64 (k : Nat)), (2, .slice A0 n0 c0), (7, .slice A2 n c3), (8, .int .i64 0), (9, .slice A8 n c9), (10, .int .i64 0), (11, .slice A15 n0 c16), (12, .int .i64 (j : Nat))] ∧ St w0 w [rowS notU 36 2 A8 n c9 (fl fN es10)] [pfRow fN FN 2 A15 n0 c16 es17, pfEs FN es10, pfRow fN FN 2 A2 n c3 es4, pfRow fI FI 1 A0 n0 c0 es0] ∧ j ≤ n0) _ ⟨0, rfl, henv.sub ⟨rfl, rfl, rfl, rfl, rfl, rfl, rfl, rfl, rfl, trivial⟩, hst.pick [0] [0, 1, 2, 3] (by decide), (Nat.zero_le _)⟩ ?_
  clear henv hst a
  rintro mz a w21 ⟨j, rfl, henv, hst, hj⟩
  refine wp_seq ?_
  refine wp_seq ?_
  refine region_seq ?_
  revert a
  refine mA rfl rfl ?_
  refine mA rfl rfl ?_
  refine sA (v := .int .i64 (n0 : Nat)) rfl (fun _ henv => rn_len henv Tryd.underlying59 rfl) ?_
  refine sA (v := .bool (decide (((j : Nat) : Int) < ((n0 : Nat) : Int)))) rfl (fun _ henv => rn_bin henv rfl rfl rfl) ?_
  intro a henv
  refine wpList_nil ?_
  refine th_n ?_
  refine if_split henv rfl (fun hc22 => ?_) (fun hc22 => ?_)
  · have hlt : j < n0 := by have := of_decide_eq_true hc22; omega
    obtain ⟨⟨A, c, z⟩, he⟩ : ∃ e, es17[j]? = some e := ⟨_, List.getElem?_eq_getElem (by omega)⟩
    have hx : es0[j]? = some z := elem_map hz19 he
    have hzb := hI.at hx
    replace hst := hst.elem (k := 0) rfl he
    replace hst : St w0 _ [rowS notU 36 2 A8 n c9 (fl fN es10)] [pfZ A c z, pfRow fN FN 2 A15 n0 c16 es17, pfEs FN es10, pfRow fN FN 2 A2 n c3 es4, pfRow fI FI 1 A0 n0 c0 es0] := hst
    refine wp_skip ?_
    refine th_n ?_
    refine wp_seq ?_
    refine wp_block ?_
    refine wp_seq ?_
    refine region_seq ?_
    revert a
    refine mA rfl rfl ?_
    refine mA rfl rfl ?_
    refine sA (v := .pointer (some ⟨ab A15, ao A15 + j * 2, none⟩)) rfl (fun _ henv => rn_idxR (i := j) henv Tryd.underlying30 (ty_anvil_integer_Int.size) rfl rfl (by omega) rfl (show (pfRow fN FN 2 A15 n0 c16 es17).P _ from (hst.pat (k := 1) rfl)).1) ?_
    refine sA (v := .agg #[.bool (neg z), .slice A (zl z) c]) rfl (fun _ henv => rn_loadE (i := j) (e := (A, c, z)) henv ty_anvil_integer_Int rfl rfl fN_len (show (pfRow fN FN 2 A15 n0 c16 es17).P _ from (hst.pat (k := 1) rfl)).1 (by omega) he rfl) ?_
    intro a henv
    refine seq_step rfl (op_call henv rfl Tryd.call40 rfl (small_z (z := z) (show ZIn _ A c z from hst.pat (k := 0) rfl) (by omega) (by omega)) ?_)
    rintro e w23 ⟨rfl, hb⟩
    refine ⟨_, rfl, ?_⟩
    clear henv a; intro a henv
    replace hst := hst.call hb
    clear hb
    revert a
    refine mA rfl rfl ?_
    refine sA (v := .int .i64 z) rfl (fun _ henv => rn_extract henv rfl rfl) ?_
    refine sA (v := .bool true) rfl (fun _ henv => rn_extract henv rfl rfl) ?_
    refine aA rfl rfl ?_
    refine aA rfl rfl ?_
    intro a henv
    refine wpList_nil ?_
    refine th_n ?_
    refine wp_seq ?_
    refine region_seq ?_
    revert a
    refine mA rfl rfl ?_
    refine mA rfl rfl ?_
    refine mA rfl rfl ?_
    refine sA (v := .pointer (some ⟨ab A0, ao A0 + j * 1, none⟩)) rfl (fun _ henv => rn_idxR (i := j) henv Tryd.underlying59 (ty_int64.size) rfl rfl (by omega) rfl (show (pfRow fI FI 1 A0 n0 c0 es0).P _ from (hst.pat (k := 4) rfl)).1) ?_
    refine sA (v := .int .i64 z) rfl (fun _ henv => rn_loadE1 (i := j) (j := 0) (e := z) henv ty_int64 rfl rfl fI_len (by decide) (show (pfRow fI FI 1 A0 n0 c0 es0).P _ from (hst.pat (k := 4) rfl)).1 (by omega) hx rfl) ?_
    refine sA (v := .bool (z != z)) rfl (fun _ henv => rn_bin henv rfl rfl rfl) ?_
    intro a henv
    rw [show (z != z) = false from (bne_self_eq_false _)] at henv
    revert a
    refine mA rfl rfl ?_
    refine gA (v := .bool true) rfl rfl rfl rfl (fun _ henv => rn_move henv rfl) ?_
    refine gA (v := .bool false) rfl rfl rfl rfl (fun _ henv => rn_un henv rfl rfl) ?_
    refine sA (v := .bool false) rfl (fun _ henv => rn_pick henv rfl rfl) ?_
    intro a henv
    refine wpList_nil ?_
    refine th_n ?_
    refine if_f henv rfl (rfl) ?_
    refine wp_skip ?_
    refine bl_n (th_n ?_)
    refine region_seq ?_
    revert a
    refine mA rfl rfl ?_
    refine sA (v := .int .i64 (j + 1 : Nat)) rfl (fun _ henv => rn_add henv rfl rfl (by rw [IntWalk.i64_in _ (by omega)]; omega)) ?_
    refine aA rfl rfl ?_
    intro a henv
    refine wpList_nil ?_
    exact th_n ⟨_, (by omega), ⟨j + 1, rfl, henv.sub ⟨rfl, rfl, rfl, rfl, rfl, rfl, rfl, rfl, rfl, trivial⟩, hst.pick [0] [1, 2, 3, 4] (by decide), (by omega)⟩⟩
  · have hjn : j = n0 := by have := of_decide_eq_false hc22; omega
    refine wp_exit ?_
    refine th_x (th_x (bl_x (th_n ?_)))
    refine wp_seq ?_
    refine wp_seq ?_
    refine region_seq ?_
    revert a
    refine mA rfl rfl ?_
    refine sA (v := .int .i64 (n0 : Nat)) rfl (fun _ henv => rn_len henv Tryd.underlying30 rfl) ?_
    refine mA rfl rfl ?_
    refine sA (v := .int .i64 (n0 : Nat)) rfl (fun _ henv => rn_len henv Tryd.underlying59 rfl) ?_
    refine sA (v := .bool (((n0 : Nat) : Int) != ((n0 : Nat) : Int))) rfl (fun _ henv => rn_bin henv rfl rfl rfl) ?_
    intro a henv
    rw [show (((n0 : Nat) : Int) != ((n0 : Nat) : Int)) = false from (bne_self_eq_false _)] at henv
    refine wpList_nil ?_
    refine th_n ?_
    refine if_f henv rfl (rfl) ?_
    refine wp_skip ?_
    refine th_n ?_
    refine wp_seq ?_
    refine wp_seq ?_
    refine region_seq ?_
    revert a
    refine mA rfl rfl ?_
    refine sA (v := .bool (decide (((n : Nat) : Int) < (0 : Int)))) rfl (fun _ henv => rn_bin henv rfl rfl rfl) ?_
    intro a henv
    rw [show (decide (((n : Nat) : Int) < (0 : Int))) = false from decide_eq_false (by omega)] at henv
    revert a
    refine mA rfl rfl ?_
    refine gA (v := .int .i64 (n : Nat)) rfl rfl rfl rfl (fun _ henv => rn_move henv rfl) ?_
    refine gA (v := .bool (decide (((n : Nat) : Int) > (4096 : Int)))) rfl rfl rfl rfl (fun _ henv => rn_bin henv rfl rfl rfl) ?_
    intro a henv
    rw [show (decide (((n : Nat) : Int) > (4096 : Int))) = false from decide_eq_false (by omega)] at henv
    refine sv (v := .bool false) henv rfl (rn_pick henv rfl rfl) ?_
    clear henv a; intro a henv
    refine wpList_nil ?_
    refine th_n ?_
    refine if_f henv rfl (rfl) ?_
    refine wp_skip ?_
    refine th_n ?_
    refine wp_seq ?_
    refine wp_seq ?_
    refine region_seq ?_
    revert a
    refine mA rfl rfl ?_
    refine sA (v := .int .i64 (n : Nat)) rfl (fun _ henv => rn_len henv Tryd.underlying30 rfl) ?_
    refine mA rfl rfl ?_
    refine sA (v := .bool (((n : Nat) : Int) != ((n : Nat) : Int))) rfl (fun _ henv => rn_bin henv rfl rfl rfl) ?_
    intro a henv
    rw [show (((n : Nat) : Int) != ((n : Nat) : Int)) = false from (bne_self_eq_false _)] at henv
    revert a
    refine mA rfl rfl ?_
    refine gA (v := .int .i64 0) rfl rfl rfl rfl (fun _ henv => rn_move henv rfl) ?_
    refine gA (v := .bool false) rfl rfl rfl rfl (fun _ henv => rn_bin henv rfl rfl rfl) ?_
    refine sA (v := .bool false) rfl (fun _ henv => rn_pick henv rfl rfl) ?_
    refine mA rfl rfl ?_
    refine gA (v := .slice A2 n c3) rfl rfl rfl rfl (fun _ henv => rn_move henv rfl) ?_
    intro a henv
    refine seq_g rfl henv rfl rfl (op_call henv rfl Tryd.call41 rfl (row_iszero (hst.pat (k := 2) rfl)) ?_)
    rintro e w24 ⟨rfl, hb⟩
    refine ⟨_, rfl, ?_⟩
    clear henv a; intro a henv
    replace hst := hst.call hb
    clear hb
    rw [show (allz es4) = true from (allz_rep hz6)] at henv
    revert a
    refine gA (v := .bool false) rfl rfl rfl rfl (fun _ henv => rn_un henv rfl rfl) ?_
    refine sA (v := .bool false) rfl (fun _ henv => rn_pick henv rfl rfl) ?_
    intro a henv
    refine wpList_nil ?_
    refine th_n ?_
    refine if_f henv rfl (rfl) ?_
    refine wp_skip ?_
    refine th_n ?_
    refine wp_seq ?_
    refine wp_seq ?_
    refine region_seq ?_
    revert a
    refine mA rfl rfl ?_
    refine sA (v := .bool (decide (((k : Nat) : Int) < (0 : Int)))) rfl (fun _ henv => rn_bin henv rfl rfl rfl) ?_
    intro a henv
    rw [show (decide (((k : Nat) : Int) < (0 : Int))) = false from decide_eq_false (by omega)] at henv
    revert a
    refine mA rfl rfl ?_
    refine gA (v := .int .i64 (k : Nat)) rfl rfl rfl rfl (fun _ henv => rn_move henv rfl) ?_
    refine gA (v := .int .i64 (n : Nat)) rfl rfl rfl rfl (fun _ henv => rn_move henv rfl) ?_
    refine gA (v := .bool (decide (((k : Nat) : Int) ≥ ((n : Nat) : Int)))) rfl rfl rfl rfl (fun _ henv => rn_bin henv rfl rfl rfl) ?_
    intro a henv
    rw [show (decide (((k : Nat) : Int) ≥ ((n : Nat) : Int))) = false from decide_eq_false (by omega)] at henv
    refine sv (v := .bool false) henv rfl (rn_pick henv rfl rfl) ?_
    clear henv a; intro a henv
    refine wpList_nil ?_
    refine th_n ?_
    refine if_f henv rfl (rfl) ?_
    refine wp_skip ?_
    refine th_n ?_
    refine wp_seq ?_
    refine wp_seq ?_
    obtain ⟨⟨A, c, z⟩, he⟩ : ∃ e, es10[k]? = some e := ⟨_, List.getElem?_eq_getElem (by omega)⟩
    have hz1 : z = 1 := unit_at hz12 hk he
    replace hst := hst.elemE (k := 1) rfl he
    replace hst : St w0 _ [rowS notU 36 2 A8 n c9 (fl fN es10)] [pfZ A c z, pfRow fN FN 2 A15 n0 c16 es17, pfEs FN es10, pfRow fN FN 2 A2 n c3 es4, pfRow fI FI 1 A0 n0 c0 es0] := hst
    refine region_any (n := 21) (Sk [rowS notU 36 2 A8 n c9 (fl fN es10)] [pfZ A c z, pfRow fN FN 2 A15 n0 c16 es17, pfEs FN es10, pfRow fN FN 2 A2 n c3 es4, pfRow fI FI 1 A0 n0 c0 es0] [] []) mixed rfl henv hst ?_
    clear henv hst; intro w25 henv hst
    refine tM (i := 0) [1, 3, 4, 5, 6, 7, 8, 9, 10, 11, 12, 13, 14, 15, 16, 17, 18, 19, 20] rfl (by kernel_rfl) (fun _ _ _ h => h) henv rfl rfl ?_
    clear henv a; intro a henv
    refine tA (i := 1) (rg 3 18) (v := .int .i64 (n : Nat)) rfl (by kernel_rfl) (fun _ _ _ h => h) henv rfl (fun _ => rn_len henv Tryd.underlying30 rfl) ?_
    clear henv a; intro a henv
    refine tM (i := 2) (rg 3 18) rfl (by kernel_rfl) (fun _ _ _ h => h) henv rfl rfl ?_
    clear henv a; intro a henv
    refine tA (i := 3) (rg 4 17) (v := .bool (((n : Nat) : Int) != ((n : Nat) : Int))) rfl (by kernel_rfl) (fun _ _ _ h => h) henv rfl (fun _ => rn_bin henv rfl rfl rfl) ?_
    clear henv a; intro a henv
    rw [show (((n : Nat) : Int) != ((n : Nat) : Int)) = false from (bne_self_eq_false _)] at henv
    refine tM (i := 4) (rg 5 16) rfl (by kernel_rfl) (fun _ _ _ h => h) henv rfl rfl ?_
    clear henv a; intro a henv
    refine tAg (i := 5) (rg 6 15) (v := .int .i64 0) rfl (by kernel_rfl) (fun _ _ _ h => h) henv rfl rfl rfl rfl (fun _ => rn_move henv rfl) ?_
    clear henv a; intro a henv
    refine tAg (i := 6) (rg 7 14) (v := .bool false) rfl (by kernel_rfl) (fun _ _ _ h => h) henv rfl rfl rfl rfl (fun _ => rn_bin henv rfl rfl rfl) ?_
    clear henv a; intro a henv
    refine tA (i := 7) (rg 8 13) (v := .bool false) rfl (by kernel_rfl) (fun _ _ _ h => h) henv rfl (fun _ => rn_pick henv rfl rfl) ?_
    clear henv a; intro a henv
    refine tM (i := 8) (rg 9 12) rfl (by kernel_rfl) (fun _ _ _ h => h) henv rfl rfl ?_
    clear henv a; intro a henv
    refine tAg (i := 9) [11, 12, 14, 15, 16, 17, 18, 19, 20] (v := .slice A8 n c9) rfl (by kernel_rfl) (fun _ _ _ h => h) henv rfl rfl rfl rfl (fun _ => rn_move henv rfl) ?_
    clear henv a; intro a henv
    refine tAg (i := 10) [11, 12, 14, 15, 16, 17, 18, 19, 20] (v := .int .i64 (k : Nat)) rfl (by kernel_rfl) (fun _ _ _ h => h) henv rfl rfl rfl rfl (fun _ => rn_move henv rfl) ?_
    clear henv a; intro a henv
    refine sAny_takeg (i := 11) [12, 14, 15, 16, 17, 18, 19, 20] (fun w' => (rowS notU 36 2 A8 n c9 (fl fN es10)).P w') (v := .pointer (some ⟨ab A8, ao A8 + k * 2, none⟩)) rfl (by kernel_rfl) (fun _ _ _ h => h) (fun _ _ _ hS => hS.1.owns (k := 0) rfl) henv rfl rfl rfl rfl (hst.owns (k := 0) rfl) (fun w' hg => rn_idxR (i := k) henv Tryd.underlying30 (ty_anvil_integer_Int.size) rfl rfl (by omega) rfl (rowS_rd hg)) ?_
    clear henv a; intro a henv
    refine sAny_takeg (i := 12) [14, 15, 16, 17, 18, 19, 20] (fun w' => (rowS notU 36 2 A8 n c9 (fl fN es10)).P w') (v := .agg #[.bool (neg z), .slice A (zl z) c]) rfl (by kernel_rfl) (fun _ _ _ h => h) (fun _ _ _ hS => hS.1.owns (k := 0) rfl) henv rfl rfl rfl rfl (hst.owns (k := 0) rfl) (fun w' hg => rn_loadE (i := k) (e := (A, c, z)) henv ty_anvil_integer_Int rfl rfl fN_len (rowS_rd hg) (by omega) he rfl) ?_
    clear henv a; intro a henv
    refine sAny_oneg (i := 13) (by kernel_rfl) rfl rfl henv rfl rfl rfl (op_call henv rfl Tryd.call43 rfl (of_z (n := (1 : Int)) (by decide) (by decide)) ?_)
    rintro e w29 ⟨_, rfl, ⟨A26, c27, rfl, hz28⟩, hb⟩
    refine ⟨_, rfl, ?_⟩
    clear henv a; intro a henv
    replace hst := (hst.call hb).addZ hz28 ⟨nou_rowS, trivial⟩
    clear hz28
    clear hb
    refine ⟨.inr ⟨hst.kn.pick [0] (rg 1 5), .inr (hst.kn.pick [] [])⟩, ?_⟩
    refine sAny_oneg (i := 14) (by kernel_rfl) rfl rfl henv rfl rfl rfl (op_call henv rfl Tryd.call42 rfl (cmp_z (x := z) (y := 1) (show ZIn _ A c z from hst.pat (k := 1) rfl) (show ZIn _ A26 c27 1 from hst.pat (k := 0) rfl)) ?_)
    rintro e w30 ⟨rfl, hb⟩
    refine ⟨_, rfl, ?_⟩
    clear henv a; intro a henv
    replace hst := hst.call hb
    clear hb
    refine ⟨.inr ⟨hst.kn.pick [0] (rg 1 5), .inr (hst.kn.pick [] [])⟩, ?_⟩
    refine tAg (i := 15) (rg 16 5) (v := .bool ((z - 1).sign != (0 : Int))) rfl (by kernel_rfl) (fun _ _ _ h => h) henv rfl rfl rfl rfl (fun _ => rn_bin henv rfl rfl rfl) ?_
    clear henv a; intro a henv
    rw [show ((z - 1).sign != (0 : Int)) = false from (by rw [hz1]; rfl)] at henv
    refine tA (i := 16) (rg 17 4) (v := .bool false) rfl (by kernel_rfl) (fun _ _ _ h => h) henv rfl (fun _ => rn_pick henv rfl rfl) ?_
    clear henv a; intro a henv
    refine tM (i := 17) [18, 19, 20] rfl (by kernel_rfl) (fun _ _ _ h => h) henv rfl rfl ?_
    clear henv a; intro a henv
    refine tAg (i := 18) [19, 20] (v := .slice A8 n c9) rfl (by kernel_rfl) (fun _ _ _ h => h) henv rfl rfl rfl rfl (fun _ => rn_move henv rfl) ?_
    clear henv a; intro a henv
    refine sAny_oneg (i := 19) (by kernel_rfl) rfl rfl henv rfl rfl rfl (op_call henv rfl Tryd.call41 rfl (row_iszero ⟨rowS_rd (hst.owns (k := 0) rfl), hl11, hst.pat (k := 3) rfl⟩) ?_)
    rintro e w31 ⟨rfl, hb⟩
    refine ⟨_, rfl, ?_⟩
    clear henv a; intro a henv
    replace hst := hst.call hb
    clear hb
    refine ⟨.inr ⟨hst.kn.pick [0] (rg 1 5), .inr (hst.kn.pick [] [])⟩, ?_⟩
    rw [show (allz es10) = false from (allz_unit hz12 hk)] at henv
    refine tA (i := 20) [] (v := .bool false) rfl (by kernel_rfl) (fun _ _ _ h => h) henv rfl (fun _ => rn_pick henv rfl rfl) ?_
    clear henv a; intro a henv
    refine sAny_done (by kernel_rfl) ?_ _
    refine th_n ?_
    refine if_f henv rfl (rfl) ?_
    refine wp_skip ?_
    refine th_n ?_
    refine wp_seq ?_
    refine region_seq ?_
    revert a
    refine mA rfl rfl ?_
    refine mA rfl rfl ?_
    intro a henv
    refine seq_step rfl (op_call henv rfl Tryd.call43 rfl (of_z (n := (0 : Int)) (by decide) (by decide)) ?_)
    rintro e w35 ⟨_, rfl, ⟨A32, c33, rfl, hz34⟩, hb⟩
    refine ⟨_, rfl, ?_⟩
    clear henv a; intro a henv
    replace hst := (hst.call hb).addZ hz34 ⟨nou_rowS, trivial⟩
    clear hz34
    clear hb
    refine sv (v := .pointer (some ⟨ab A8, ao A8 + k * 2, none⟩)) henv rfl (rn_idxR (i := k) henv Tryd.underlying30 (ty_anvil_integer_Int.size) rfl rfl (by omega) rfl (rowS_rd (hst.owns (k := 0) rfl))) ?_
    clear henv a; intro a henv
    refine seq_step rfl (op_storeS (i := k) (e := (A32, c33, 0)) (k := 0) henv hst (ty_anvil_integer_Int.size) rfl rfl rfl rfl fN_len (by omega) hl11 rfl rfl rfl ?_)
    clear henv hst a; intro a w36 henv hst
    replace hst := hst.setEs (e := (A32, c33, 0)) (i := 4) (j := 0) rfl rfl k
    refine wpList_nil ?_
    refine th_n ?_
    refine wp_seq ?_
    refine region_seq ?_
    refine sv (v := .slice A8 n c9) henv rfl (rn_move henv rfl) ?_
    clear henv a; intro a henv
    refine seq_step rfl (op_call henv rfl Tryd.call41 rfl (row_iszero ⟨rowS_rd (hst.owns (k := 0) rfl), (by rw [List.length_set]; exact hl11), hst.pat (k := 0) rfl⟩) ?_)
    rintro e w37 ⟨rfl, hb⟩
    refine ⟨_, rfl, ?_⟩
    clear henv a; intro a henv
    replace hst := hst.call hb
    clear hb
    rw [show (allz (es10.set k (A32, c33, 0))) = true from (allz_back hz12)] at henv
    refine sv (v := .bool true) henv rfl (rn_assign henv rfl) ?_
    clear henv a; intro a henv
    refine wpList_nil ?_
    refine th_n ?_
    refine wp_ret ?_
    refine leave henv (res1 Tryd.results4 (RV.tmp henv rfl)) ?_
    exact ⟨rfl, hst.below⟩
theorem rmakes_law {i k : Int} {A0 : Option Addr} {n0 c0 : Nat} {es0 : List Int} {w0 : World} (h0 : (pfRow fI FI 1 A0 n0 c0 es0).P w0) (hI : I64 es0) :
    Calls Tryd.prog 4 #[.int .i64 i, .int .i64 k, .slice A0 n0 c0] w0 fun e w' => e = .returned (.bool true) ∧ Below w0.heap.size w0 w' := by
  rcases Nat.lt_or_ge 5000 n0 with hl | hs
  · exact rmakes_long h0 hI hl
  rcases Int.lt_or_le i 0 with hi | hi
  · exact rmakes_bneg h0 hI hs hi
  rcases Int.lt_or_le 4096 i with hi2 | hi2
  · exact rmakes_bbig h0 hI hs hi2
  obtain ⟨n, rfl⟩ : ∃ n : Nat, i = n := ⟨i.toNat, by omega⟩
  rcases Int.lt_or_le k 0 with hk | hk
  · exact rmakes_kneg h0 hI hs (by omega) hk
  rcases Int.lt_or_le k n with hk2 | hk2
  · obtain ⟨m, rfl⟩ : ∃ m : Nat, k = m := ⟨k.toNat, by omega⟩
    exact rmakes_ok h0 hI hs (by omega) (by omega)
  · exact rmakes_kbig h0 hI hs (by omega) hk2
end Go.Proofs.YtegglooojlheoaaDoor.W
