/- strings.Join at a blank; row.Text. Printed by pv/gen_rtx2.py. No condition. -/
import Derived.Test.YtegglooojlheoaaDoorM44
import Derived.Test.YtegglooojlheoaaDoorM11
import Derived.Test.YtegglooojlheoaaDoorM45
import Derived.Test.YtegglooojlheoaaDoorM29
import Derived.Test.YtegglooojlheoaaDoorM34
import Derived.Test.YtegglooojlheoaaDoorM40
import Derived.Test.YtegglooojlheoaaDoorM16
import Derived.Test.YtegglooojlheoaaDoorM43

namespace Go.Proofs.YtegglooojlheoaaDoor.W
open Go.RowKit Anv Go.Lib
theorem quo_big {n : Nat} (h : 0 < n) (h2 : n ≤ 1000000) : 2 ≤ 9223372036854775807 / n := by
  rw [Nat.le_div_iff_mul_le h]; omega
def jt (s : List UInt8) (r : List (List UInt8)) (k : Nat) : List UInt8 := s ++ (r.take k).flatMap fun t => 32 :: t
theorem jt_zero (s : List UInt8) (r : List (List UInt8)) : jt s r 0 = s := by simp [jt]
theorem jt_step {s t : List UInt8} {r : List (List UInt8)} {k : Nat} (h : r[k]? = some t) : jt s r (k + 1) = jt s r k ++ 32 :: t := by
  unfold jt
  rw [take_one h, List.flatMap_append]
  simp
theorem jn_all {es : List (List UInt8)} {x : List UInt8} {k : Nat} (h : es[0]? = some x) (hk : es.length ≤ k + 1) : jt x (es.drop 1) k = jn es := by
  cases es with
  | nil => simp at h
  | cons y r =>
    obtain rfl : y = x := by simpa using h
    have hk : r.length ≤ k := by simpa using hk
    simp [jt, jn, List.take_of_length_le hk]
def textRow (zs : List Int) : List UInt8 := 91 :: (jn (zs.map textZ) ++ [93])
theorem step_txt {es : List NE} {os : List (List UInt8)} {j : Nat} {A : Option Addr} {c : Nat} {z : Int} (ho : os = ((es.map zz).take j).map textZ) (he : es[j]? = some (A, c, z)) : os ++ [textZ z] = ((es.map zz).take (j + 1)).map textZ := by
  rw [ho, take_one (x := z) (by rw [List.getElem?_map, he]; rfl), List.map_append]
  rfl
theorem txt_bd {es : List NE} {j : Nat} (hz : ZB 90000 es) : ∀ s ∈ ((es.map zz).take j).map textZ, s.length ≤ 1000000 := by
  intro s hs
  obtain ⟨z, hz1, rfl⟩ := List.mem_map.1 hs
  obtain ⟨e, he, rfl⟩ := List.mem_map.1 (List.mem_of_mem_take hz1)
  have h1 := hz e he
  have h2 := textZ_bd (zz e)
  omega
set_option maxRecDepth 100000 in
set_option maxHeartbeats 4000000 in
theorem join_0 {A0 : Option Addr} {n0 c0 : Nat} {es0 : List (List UInt8)} {w0 : World} (h0 : (pfRow fS FTx 1 A0 n0 c0 es0).P w0) (hb : ∀ s ∈ es0, s.length ≤ 1000000) (hn : n0 = 0) :
    Calls Tryd.prog 114 #[.slice A0 n0 c0, .string ⟨#[32]⟩] w0 fun e w' => e = .returned (.string ⟨(jn es0).toArray⟩) ∧ Below w0.heap.size w0 w' := by
  refine enter Tryd.func114 rfl Tryd.ntmps114 rfl ?_
  intro a henv hst
  have hlen0 := h0.2.1
  have hcap0 := h0.1.cap
  replace hst := hst.argRow h0
  refine wp_seq ?_
  refine region_seq ?_
  refine sv (v := .string ⟨#[]⟩) henv rfl (rn_assign henv rfl) ?_
  clear henv a; intro a henv
  refine wpList_nil ?_
  refine th_n ?_
  refine wp_seq ?_
  refine wp_seq ?_
  refine region_seq ?_
  revert a
  refine mA rfl rfl ?_
  refine sA (v := .int .i64 (n0 : Nat)) rfl (fun _ henv => rn_len henv Tryd.underlying159 rfl) ?_
  intro a henv
  refine wpList_nil ?_
  refine th_n ?_
  refine wp_block ?_
  refine wp_seq ?_
  refine region_seq ?_
  refine sv (v := .bool (((n0 : Nat) : Int) == (0 : Int))) henv rfl (rn_bin henv rfl rfl rfl) ?_
  clear henv a; intro a henv
  rw [show (((n0 : Nat) : Int) == (0 : Int)) = true from (beq_iff_eq.2 (by omega))] at henv
  refine sv (v := .bool true) henv rfl (rn_assign henv rfl) ?_
  clear henv a; intro a henv
  refine wpList_nil ?_
  refine th_n ?_
  refine if_t henv rfl (rfl) ?_
  refine wp_seq ?_
  refine region_seq ?_
  refine sv (v := .string ⟨#[]⟩) henv rfl (rn_assign henv rfl) ?_
  clear henv a; intro a henv
  refine wpList_nil ?_
  refine th_n ?_
  refine wp_ret ?_
  refine bl_r (th_r ?_)
  refine leave henv (res1 Tryd.results114 (RV.tmp henv rfl)) ?_
  obtain rfl : es0 = [] := List.eq_nil_of_length_eq_zero (by omega)
  exact ⟨rfl, hst.below⟩
set_option maxRecDepth 100000 in
set_option maxHeartbeats 4000000 in
theorem join_1 {A0 : Option Addr} {n0 c0 : Nat} {es0 : List (List UInt8)} {w0 : World} (h0 : (pfRow fS FTx 1 A0 n0 c0 es0).P w0) (hb : ∀ s ∈ es0, s.length ≤ 1000000) (hn : n0 = 1) :
    Calls Tryd.prog 114 #[.slice A0 n0 c0, .string ⟨#[32]⟩] w0 fun e w' => e = .returned (.string ⟨(jn es0).toArray⟩) ∧ Below w0.heap.size w0 w' := by
  refine enter Tryd.func114 rfl Tryd.ntmps114 rfl ?_
  intro a henv hst
  have hlen0 := h0.2.1
  have hcap0 := h0.1.cap
  replace hst := hst.argRow h0
  obtain ⟨x0, hx0⟩ : ∃ x, es0[0]? = some x := ⟨_, List.getElem?_eq_getElem (by omega)⟩
  have hlx := hb x0 (List.mem_of_getElem? hx0)
  refine wp_seq ?_
  refine region_seq ?_
  refine sv (v := .string ⟨#[]⟩) henv rfl (rn_assign henv rfl) ?_
  clear henv a; intro a henv
  refine wpList_nil ?_
  refine th_n ?_
  refine wp_seq ?_
  refine wp_seq ?_
  refine region_seq ?_
  revert a
  refine mA rfl rfl ?_
  refine sA (v := .int .i64 (n0 : Nat)) rfl (fun _ henv => rn_len henv Tryd.underlying159 rfl) ?_
  intro a henv
  refine wpList_nil ?_
  refine th_n ?_
  refine wp_block ?_
  refine wp_seq ?_
  refine region_seq ?_
  refine sv (v := .bool (((n0 : Nat) : Int) == (0 : Int))) henv rfl (rn_bin henv rfl rfl rfl) ?_
  clear henv a; intro a henv
  rw [show (((n0 : Nat) : Int) == (0 : Int)) = false from (beq_eq_false_iff_ne.2 (by omega))] at henv
  refine sv (v := .bool false) henv rfl (rn_assign henv rfl) ?_
  clear henv a; intro a henv
  refine wpList_nil ?_
  refine th_n ?_
  refine if_f henv rfl (rfl) ?_
  refine wp_seq ?_
  refine region_seq ?_
  refine sv (v := .bool (((n0 : Nat) : Int) == (1 : Int))) henv rfl (rn_bin henv rfl rfl rfl) ?_
  clear henv a; intro a henv
  rw [show (((n0 : Nat) : Int) == (1 : Int)) = true from (beq_iff_eq.2 (by omega))] at henv
  refine sv (v := .bool true) henv rfl (rn_assign henv rfl) ?_
  clear henv a; intro a henv
  refine wpList_nil ?_
  refine th_n ?_
  refine if_t henv rfl (rfl) ?_
  refine wp_seq ?_
  refine region_seq ?_
  revert a
  refine mA rfl rfl ?_
  refine sA (v := .pointer (some ⟨ab A0, ao A0 + 0 * 1, none⟩)) rfl (fun _ henv => rn_idxR (i := 0) henv Tryd.underlying159 (ty_string.size) rfl rfl (by omega) rfl (show (pfRow fS FTx 1 A0 n0 c0 es0).P _ from (hst.pat (k := 0) rfl)).1) ?_
  refine sA (v := .string ⟨x0.toArray⟩) rfl (fun _ henv => rn_loadE1 (i := 0) (j := 0) (e := x0) henv ty_string rfl rfl fS_len (by decide) (show (pfRow fS FTx 1 A0 n0 c0 es0).P _ from (hst.pat (k := 0) rfl)).1 (by omega) hx0 rfl) ?_
  refine aA rfl rfl ?_
  intro a henv
  refine wpList_nil ?_
  refine th_n ?_
  refine wp_ret ?_
  refine bl_r (th_r ?_)
  refine leave henv (res1 Tryd.results114 (RV.tmp henv rfl)) ?_
  obtain ⟨y, rfl⟩ : ∃ y, es0 = [y] := List.length_eq_one_iff.1 (by omega)
  obtain rfl : y = x0 := by simpa using hx0
  exact ⟨by simp [jn], hst.below⟩
set_option maxRecDepth 100000 in
set_option maxHeartbeats 4000000 in
theorem join_n {A0 : Option Addr} {n0 c0 : Nat} {es0 : List (List UInt8)} {w0 : World} (h0 : (pfRow fS FTx 1 A0 n0 c0 es0).P w0) (hb : ∀ s ∈ es0, s.length ≤ 1000000) (hn : 2 ≤ n0) (hn2 : n0 ≤ 1000000) :
    Calls Tryd.prog 114 #[.slice A0 n0 c0, .string ⟨#[32]⟩] w0 fun e w' => e = .returned (.string ⟨(jn es0).toArray⟩) ∧ Below w0.heap.size w0 w' := by
  refine enter Tryd.func114 rfl Tryd.ntmps114 rfl ?_
  intro a henv hst
  have hlen0 := h0.2.1
  have hcap0 := h0.1.cap
  obtain ⟨b0, o0, rfl, -, -⟩ := h0.1.cells (by omega)
  have hq := quo_big (n := n0 - 1) (by omega) (by omega)
  replace hst := hst.argRow h0
  obtain ⟨x0, hx0⟩ : ∃ x, es0[0]? = some x := ⟨_, List.getElem?_eq_getElem (by omega)⟩
  have hlx := hb x0 (List.mem_of_getElem? hx0)
  refine wp_seq ?_
  refine region_seq ?_
  refine sv (v := .string ⟨#[]⟩) henv rfl (rn_assign henv rfl) ?_
  clear henv a; intro a henv
  refine wpList_nil ?_
  refine th_n ?_
  refine wp_seq ?_
  refine wp_seq ?_
  refine region_seq ?_
  revert a
  refine mA rfl rfl ?_
  refine sA (v := .int .i64 (n0 : Nat)) rfl (fun _ henv => rn_len henv Tryd.underlying159 rfl) ?_
  intro a henv
  refine wpList_nil ?_
  refine th_n ?_
  refine wp_block ?_
  refine wp_seq ?_
  refine region_seq ?_
  refine sv (v := .bool (((n0 : Nat) : Int) == (0 : Int))) henv rfl (rn_bin henv rfl rfl rfl) ?_
  clear henv a; intro a henv
  rw [show (((n0 : Nat) : Int) == (0 : Int)) = false from (beq_eq_false_iff_ne.2 (by omega))] at henv
  refine sv (v := .bool false) henv rfl (rn_assign henv rfl) ?_
  clear henv a; intro a henv
  refine wpList_nil ?_
  refine th_n ?_
  refine if_f henv rfl (rfl) ?_
  refine wp_seq ?_
  refine region_seq ?_
  refine sv (v := .bool (((n0 : Nat) : Int) == (1 : Int))) henv rfl (rn_bin henv rfl rfl rfl) ?_
  clear henv a; intro a henv
  rw [show (((n0 : Nat) : Int) == (1 : Int)) = false from (beq_eq_false_iff_ne.2 (by omega))] at henv
  refine sv (v := .bool false) henv rfl (rn_assign henv rfl) ?_
  clear henv a; intro a henv
  refine wpList_nil ?_
  refine th_n ?_
  refine if_f henv rfl (rfl) ?_
  refine wp_skip ?_
  refine bl_n (th_n ?_)
  refine wp_seq ?_
  refine region_seq ?_
  refine sv (v := .int .i64 0) henv rfl (rn_assign henv rfl) ?_
  clear henv a; intro a henv
  refine wpList_nil ?_
  refine th_n ?_
  refine wp_seq ?_
  refine wp_seq ?_
  refine region_seq ?_
  revert a
  refine mA rfl rfl ?_
  refine sA (v := .int .i64 1) rfl (fun _ henv => rn_slen (s := ⟨#[32]⟩) henv Tryd.underlying9 rfl) ?_
  refine sA (v := .bool true) rfl (fun _ henv => rn_bin henv rfl rfl rfl) ?_
  intro a henv
  refine wpList_nil ?_
  refine th_n ?_
  refine if_t henv rfl (rfl) ?_
  refine wp_seq ?_
  refine wp_seq ?_
  refine region_seq ?_
  revert a
  refine mA rfl rfl ?_
  refine sA (v := .int .i64 1) rfl (fun _ henv => rn_slen (s := ⟨#[32]⟩) henv Tryd.underlying9 rfl) ?_
  refine mA rfl rfl ?_
  refine sA (v := .int .i64 (n0 : Nat)) rfl (fun _ henv => rn_len henv Tryd.underlying159 rfl) ?_
  refine sA (v := .int .i64 (n0 - 1 : Nat)) rfl (fun _ henv => rn_sub henv rfl rfl (by rw [IntWalk.i64_in _ (by omega)]; omega)) ?_
  refine sA (v := .int .i64 (9223372036854775807 / (n0 - 1) : Nat)) rfl (fun _ henv => rn_quo henv rfl rfl (by omega) (quo_i64 (t := 9223372036854775807) (c := n0 - 1) (by omega))) ?_
  refine sA (v := .bool (decide ((1 : Int) ≥ ((9223372036854775807 / (n0 - 1) : Nat) : Int)))) rfl (fun _ henv => rn_bin henv rfl rfl rfl) ?_
  intro a henv
  rw [show (decide ((1 : Int) ≥ ((9223372036854775807 / (n0 - 1) : Nat) : Int))) = false from decide_eq_false (by omega)] at henv
  refine wpList_nil ?_
  refine th_n ?_
  refine if_f henv rfl (rfl) ?_
  refine wp_skip ?_
  refine th_n ?_
  refine region_seq ?_
  revert a
  refine mA rfl rfl ?_
  refine mA rfl rfl ?_
  refine sA (v := .int .i64 1) rfl (fun _ henv => rn_slen (s := ⟨#[32]⟩) henv Tryd.underlying9 rfl) ?_
  refine mA rfl rfl ?_
  refine sA (v := .int .i64 (n0 : Nat)) rfl (fun _ henv => rn_len henv Tryd.underlying159 rfl) ?_
  refine sA (v := .int .i64 (n0 - 1 : Nat)) rfl (fun _ henv => rn_sub henv rfl rfl (by rw [IntWalk.i64_in _ (by omega)]; omega)) ?_
  refine sA (v := .int .i64 (1 * (n0 - 1) : Nat)) rfl (fun _ henv => rn_mul henv rfl rfl (by rw [IntWalk.i64_in _ (by omega)]; omega)) ?_
  refine sA (v := .int .i64 (0 + (1 * (n0 - 1)) : Nat)) rfl (fun _ henv => rn_add henv rfl rfl (by rw [IntWalk.i64_in _ (by omega)]; omega)) ?_
  refine aA rfl rfl ?_
  intro a henv
  refine wpList_nil ?_
  refine th_n ?_
  refine wp_seq ?_
  refine wp_seq ?_
  refine region_seq ?_
  revert a
  refine mA rfl rfl ?_
  refine sA (v := .int .i64 (n0 : Nat)) rfl (fun _ henv => rn_len henv Tryd.underlying159 rfl) ?_
  refine mA rfl rfl ?_
  intro a henv
  refine wpList_nil ?_
  refine th_n ?_
  refine wp_block ?_
  refine wp_loop_ghost (fun mz a w => ∃ j : Nat, ∃ T : Nat, n0 - j = mz ∧ Env 75 a [(0, .slice (some ⟨b0, o0, none⟩) n0 c0), (1, .string ⟨#[32]⟩), (39, .slice (some ⟨b0, o0, none⟩) n0 c0), (40, .int .i64 (n0 : Nat)), (41, .int .i64 (j : Nat)), (5, .int .i64 (T : Nat))] ∧ St w0 w [] [pfRow fS FTx 1 (some ⟨b0, o0, none⟩) n0 c0 es0] ∧ j ≤ n0 ∧ T ≤ n0 + j * 1000000) _ ⟨0, 0 + (1 * (n0 - 1)), rfl, henv.sub ⟨rfl, rfl, rfl, rfl, rfl, rfl, trivial⟩, hst.pick [] [0] (by decide), (Nat.zero_le _), (by omega)⟩ ?_
  clear henv hst a
  rintro mz a w1 ⟨j, T, rfl, henv, hst, hj, hT⟩
  refine wp_seq ?_
  refine region_seq ?_
  refine sv (v := .bool (decide (((j : Nat) : Int) < ((n0 : Nat) : Int)))) henv rfl (rn_bin henv rfl rfl rfl) ?_
  clear henv a; intro a henv
  refine wpList_nil ?_
  refine th_n ?_
  refine wp_seq ?_
  refine if_split henv rfl (fun hc2 => ?_) (fun hc2 => ?_)
  · have hlt : j < n0 := by have := of_decide_eq_true hc2; omega
    obtain ⟨x, hx⟩ : ∃ x, es0[j]? = some x := ⟨_, List.getElem?_eq_getElem (by omega)⟩
    have hl2 := hb x (List.mem_of_getElem? hx)
    refine wp_skip ?_
    refine th_n ?_
    refine wp_seq ?_
    refine wp_block ?_
    refine wp_seq ?_
    refine region_seq ?_
    revert a
    refine sA (v := .pointer (some ⟨ab (some ⟨b0, o0, none⟩), ao (some ⟨b0, o0, none⟩) + j * 1, none⟩)) rfl (fun _ henv => rn_idxR (i := j) henv Tryd.underlying159 (ty_string.size) rfl rfl (by omega) rfl (show (pfRow fS FTx 1 (some ⟨b0, o0, none⟩) n0 c0 es0).P _ from (hst.pat (k := 0) rfl)).1) ?_
    refine sA (v := .string ⟨x.toArray⟩) rfl (fun _ henv => rn_loadE1 (i := j) (j := 0) (e := x) henv ty_string rfl rfl fS_len (by decide) (show (pfRow fS FTx 1 (some ⟨b0, o0, none⟩) n0 c0 es0).P _ from (hst.pat (k := 0) rfl)).1 (by omega) hx rfl) ?_
    refine aA rfl rfl ?_
    intro a henv
    refine wpList_nil ?_
    refine th_n ?_
    refine wp_seq ?_
    refine wp_seq ?_
    refine region_seq ?_
    revert a
    refine mA rfl rfl ?_
    refine sA (v := .int .i64 (x.length : Nat)) rfl (fun _ henv => rn_lenS henv Tryd.underlying9 rfl) ?_
    refine mA rfl rfl ?_
    refine sA (v := .int .i64 (9223372036854775807 - T : Nat)) rfl (fun _ henv => rn_sub henv rfl rfl (by rw [IntWalk.i64_in _ (by omega)]; omega)) ?_
    refine sA (v := .bool (decide (((x.length : Nat) : Int) > ((9223372036854775807 - T : Nat) : Int)))) rfl (fun _ henv => rn_bin henv rfl rfl rfl) ?_
    intro a henv
    rw [show (decide (((x.length : Nat) : Int) > ((9223372036854775807 - T : Nat) : Int))) = false from decide_eq_false (by omega)] at henv
    refine wpList_nil ?_
    refine th_n ?_
    refine if_f henv rfl (rfl) ?_
    refine wp_skip ?_
    refine th_n ?_
    refine region_seq ?_
    revert a
    refine mA rfl rfl ?_
    refine mA rfl rfl ?_
    refine sA (v := .int .i64 (x.length : Nat)) rfl (fun _ henv => rn_lenS henv Tryd.underlying9 rfl) ?_
    refine sA (v := .int .i64 (T + x.length : Nat)) rfl (fun _ henv => rn_add henv rfl rfl (by rw [IntWalk.i64_in _ (by omega)]; omega)) ?_
    refine aA rfl rfl ?_
    intro a henv
    refine wpList_nil ?_
    refine bl_n (th_n ?_)
    refine region_seq ?_
    revert a
    refine sA (v := .int .i64 (j + 1 : Nat)) rfl (fun _ henv => rn_add henv rfl rfl (by rw [IntWalk.i64_in _ (by omega)]; omega)) ?_
    refine mA rfl rfl ?_
    intro a henv
    refine wpList_nil ?_
    exact th_n ⟨_, (by omega), ⟨j + 1, T + x.length, rfl, henv.sub ⟨rfl, rfl, rfl, rfl, rfl, rfl, trivial⟩, hst.pick [] [0] (by decide), (by omega), (by omega)⟩⟩
  · have hjn : j = n0 := by have := of_decide_eq_false hc2; omega
    refine wp_exit ?_
    refine th_x (th_x (bl_x (th_n ?_)))
    refine wp_seq ?_
    refine region_seq ?_
    refine seq_step rfl (op_alloc (c := #[.pointer none, .slice none 0 0]) henv hst rfl zero_strings_Builder rfl ?_)
    clear henv hst a; intro a w4 g3 henv hst
    refine wpList_nil ?_
    refine th_n ?_
    refine wp_seq ?_
    refine region_seq ?_
    refine sv (v := .int .i64 (T : Nat)) henv rfl (rn_move henv rfl) ?_
    clear henv a; intro a henv
    replace hst := hst.bld (k := 0) rfl
    refine seq_step rfl (op_growB (k := 0) (n := T) henv hst rfl rfl rfl rfl (by omega) ?_)
    clear henv hst a; intro a w5 v6 henv hst
    replace hst : St w0 w5 [bldF g3 v6 ([] : List UInt8).length (byteCells ([] : List UInt8))] [pfRow fS FTx 1 (some ⟨b0, o0, none⟩) n0 c0 es0] := hst
    refine wpList_nil ?_
    refine th_n ?_
    refine wp_seq ?_
    refine region_seq ?_
    revert a
    refine mA rfl rfl ?_
    refine sA (v := .pointer (some ⟨ab (some ⟨b0, o0, none⟩), ao (some ⟨b0, o0, none⟩) + 0 * 1, none⟩)) rfl (fun _ henv => rn_idxR (i := 0) henv Tryd.underlying159 (ty_string.size) rfl rfl (by omega) rfl (show (pfRow fS FTx 1 (some ⟨b0, o0, none⟩) n0 c0 es0).P _ from (hst.pat (k := 0) rfl)).1) ?_
    refine sA (v := .string ⟨x0.toArray⟩) rfl (fun _ henv => rn_loadE1 (i := 0) (j := 0) (e := x0) henv ty_string rfl rfl fS_len (by decide) (show (pfRow fS FTx 1 (some ⟨b0, o0, none⟩) n0 c0 es0).P _ from (hst.pat (k := 0) rfl)).1 (by omega) hx0 rfl) ?_
    intro a henv
    refine seq_step rfl (op_write (s := ⟨(x0 : List UInt8).toArray⟩) (k := 0) henv hst rfl rfl rfl rfl (by rw [ba_size]; simp only [List.length_append, List.length_cons, List.length_nil]; omega) ?_)
    clear henv hst a; intro a w7 v8 henv hst
    rw [ba_size, byteCells_app, ← List.length_append] at hst
    rw [List.nil_append] at hst
    refine wpList_nil ?_
    refine th_n ?_
    refine wp_seq ?_
    refine wp_seq ?_
    refine region_seq ?_
    revert a
    refine mA rfl rfl ?_
    refine sA (v := .slice (some ⟨b0, o0 + 1, none⟩) (n0 - 1) (c0 - 1)) rfl (fun _ henv => rn_sliceFrom (m := 1) henv Tryd.underlying159 (ty_string.size) rfl rfl (by omega) (by omega)) ?_
    refine sA (v := .int .i64 ((n0 - 1) : Nat)) rfl (fun _ henv => rn_len henv Tryd.underlying159 rfl) ?_
    refine mA rfl rfl ?_
    intro a henv
    refine wpList_nil ?_
    refine th_n ?_
    refine wp_block ?_
    replace hst := hst.dropRow (i := 0) rfl 1 fS_len (by omega)
    have hlend : (es0.drop 1).length = n0 - 1 := by rw [List.length_drop, hlen0]
    replace hst : St w0 w7 [bldF g3 v8 (jt x0 (es0.drop 1) 0).length (byteCells (jt x0 (es0.drop 1) 0))] [pfRow fS FTx 1 (some ⟨b0, o0 + 1, none⟩) (n0 - 1) (c0 - 1) (es0.drop 1)] := by rw [jt_zero]; exact hst.pick [0] [0] (by decide)
    refine wp_loop_ghost (fun mz a w => ∃ k : Nat, ∃ vb : Value, n0 - 1 - k = mz ∧ Env 75 a [(8, .pointer (some ⟨g3, 0, none⟩)), (1, .string ⟨#[32]⟩), (63, .slice (some ⟨b0, o0 + 1, none⟩) (n0 - 1) (c0 - 1)), (64, .int .i64 (n0 - 1 : Nat)), (65, .int .i64 (k : Nat))] ∧ St w0 w [bldF g3 vb (jt x0 (es0.drop 1) k).length (byteCells (jt x0 (es0.drop 1) k))] [pfRow fS FTx 1 (some ⟨b0, o0 + 1, none⟩) (n0 - 1) (c0 - 1) (es0.drop 1)] ∧ k ≤ n0 - 1 ∧ (jt x0 (es0.drop 1) k).length ≤ (k + 1) * 1000001) _ ⟨0, v8, rfl, henv.sub ⟨rfl, rfl, rfl, rfl, rfl, trivial⟩, hst.pick [0] [0] (by decide), (Nat.zero_le _), (by rw [jt_zero]; omega)⟩ ?_
    clear henv hst a
    rintro mz a w9 ⟨k, vb, rfl, henv, hst, hk, hX⟩
    refine wp_seq ?_
    refine region_seq ?_
    refine sv (v := .bool (decide (((k : Nat) : Int) < ((n0 - 1 : Nat) : Int)))) henv rfl (rn_bin henv rfl rfl rfl) ?_
    clear henv a; intro a henv
    refine wpList_nil ?_
    refine th_n ?_
    refine wp_seq ?_
    refine if_split henv rfl (fun hc10 => ?_) (fun hc10 => ?_)
    · have hlt : k < n0 - 1 := by have := of_decide_eq_true hc10; omega
      obtain ⟨t, ht⟩ : ∃ t, (es0.drop 1)[k]? = some t := ⟨_, List.getElem?_eq_getElem (by omega)⟩
      have hlt2 := hb t (List.mem_of_mem_drop (List.mem_of_getElem? ht))
      refine wp_skip ?_
      refine th_n ?_
      refine wp_seq ?_
      refine wp_block ?_
      refine wp_seq ?_
      refine region_seq ?_
      revert a
      refine sA (v := .pointer (some ⟨ab (some ⟨b0, o0 + 1, none⟩), ao (some ⟨b0, o0 + 1, none⟩) + k * 1, none⟩)) rfl (fun _ henv => rn_idxR (i := k) henv Tryd.underlying159 (ty_string.size) rfl rfl (by omega) rfl (show (pfRow fS FTx 1 (some ⟨b0, o0 + 1, none⟩) (n0 - 1) (c0 - 1) (es0.drop 1)).P _ from (hst.pat (k := 0) rfl)).1) ?_
      refine sA (v := .string ⟨t.toArray⟩) rfl (fun _ henv => rn_loadE1 (i := k) (j := 0) (e := t) henv ty_string rfl rfl fS_len (by decide) (show (pfRow fS FTx 1 (some ⟨b0, o0 + 1, none⟩) (n0 - 1) (c0 - 1) (es0.drop 1)).P _ from (hst.pat (k := 0) rfl)).1 (by omega) ht rfl) ?_
      refine aA rfl rfl ?_
      intro a henv
      refine wpList_nil ?_
      refine th_n ?_
      refine wp_seq ?_
      refine region_seq ?_
      refine sv (v := .string ⟨#[32]⟩) henv rfl (rn_move henv rfl) ?_
      clear henv a; intro a henv
      refine seq_step rfl (op_write (s := ⟨([32] : List UInt8).toArray⟩) (k := 0) henv hst rfl rfl rfl rfl (by rw [ba_size]; simp only [List.length_append, List.length_cons, List.length_nil]; omega) ?_)
      clear henv hst a; intro a w11 v12 henv hst
      rw [ba_size, byteCells_app, ← List.length_append] at hst
      refine wpList_nil ?_
      refine th_n ?_
      refine region_seq ?_
      refine sv (v := .string ⟨t.toArray⟩) henv rfl (rn_move henv rfl) ?_
      clear henv a; intro a henv
      refine seq_step rfl (op_write (s := ⟨(t : List UInt8).toArray⟩) (k := 0) henv hst rfl rfl rfl rfl (by rw [ba_size]; simp only [List.length_append, List.length_cons, List.length_nil]; omega) ?_)
      clear henv hst a; intro a w13 v14 henv hst
      rw [ba_size, byteCells_app, ← List.length_append] at hst
      refine wpList_nil ?_
      refine bl_n (th_n ?_)
      refine region_seq ?_
      revert a
      refine sA (v := .int .i64 (k + 1 : Nat)) rfl (fun _ henv => rn_add henv rfl rfl (by rw [IntWalk.i64_in _ (by omega)]; omega)) ?_
      refine mA rfl rfl ?_
      intro a henv
      refine wpList_nil ?_
      rw [show (jt x0 (es0.drop 1) k ++ [32]) ++ t = jt x0 (es0.drop 1) (k + 1) by rw [jt_step ht]; simp] at hst
      exact th_n ⟨_, (by omega), ⟨k + 1, v14, rfl, henv.sub ⟨rfl, rfl, rfl, rfl, rfl, trivial⟩, hst.pick [0] [0] (by decide), (by omega), (by rw [jt_step ht, List.length_append, List.length_cons]; omega)⟩⟩
    · obtain rfl : k = n0 - 1 := by have := of_decide_eq_false hc10; omega
      refine wp_exit ?_
      refine th_x (th_x (bl_x (th_n ?_)))
      refine wp_seq ?_
      refine region_seq ?_
      refine seq_step rfl (op_bstr (k := 0) henv hst rfl rfl rfl ?_)
      clear henv hst a; intro a w15 henv hst
      refine sv (v := .string ⟨(jt x0 (es0.drop 1) (n0 - 1)).toArray⟩) henv rfl (rn_assign henv rfl) ?_
      clear henv a; intro a henv
      refine wpList_nil ?_
      refine th_n ?_
      refine wp_ret ?_
      refine leave henv (res1 Tryd.results114 (RV.tmp henv rfl)) ?_
      exact ⟨by rw [jn_all hx0 (by omega)], hst.below⟩
theorem str_join {A0 : Option Addr} {n0 c0 : Nat} {es0 : List (List UInt8)} {w0 : World} (h0 : (pfRow fS FTx 1 A0 n0 c0 es0).P w0) (hb : ∀ s ∈ es0, s.length ≤ 1000000) (hn : n0 ≤ 1000000) :
    Calls Tryd.prog 114 #[.slice A0 n0 c0, .string ⟨#[32]⟩] w0 fun e w' => e = .returned (.string ⟨(jn es0).toArray⟩) ∧ Below w0.heap.size w0 w' := by
  rcases (show n0 = 0 ∨ n0 = 1 ∨ 2 ≤ n0 by omega) with h | h | h
  · exact join_0 h0 hb h
  · exact join_1 h0 hb h
  · exact join_n h0 hb h hn
set_option maxRecDepth 100000 in
set_option maxHeartbeats 2000000 in
theorem row_text {A0 : Option Addr} {n0 c0 : Nat} {es0 : List NE} {w0 : World} (h0 : (pfRow fN FN 2 A0 n0 c0 es0).P w0) (hz : ZB 90000 es0) (hn : n0 ≤ 1000000) :
    Calls Tryd.prog 52 #[.slice A0 n0 c0] w0 fun e w' => e = .returned (.string ⟨(textRow (es0.map zz)).toArray⟩) ∧ Below w0.heap.size w0 w' := by
  refine enter Tryd.func52 rfl Tryd.ntmps52 rfl ?_
  intro a henv hst
  have hlen0 := h0.2.1
  have hbig0 := Nat.le_trans h0.1.cap h0.1.big
  unfold maxLen at hbig0
  replace hst := hst.argRow h0
  clear h0
  refine wp_seq ?_
  refine region_seq ?_
  refine sv (v := .string ⟨#[]⟩) henv rfl (rn_assign henv rfl) ?_
  clear henv a; intro a henv
  refine wpList_nil ?_
  refine th_n ?_
  refine wp_seq ?_
  refine region_seq ?_
  refine sv (v := .slice none 0 0) henv rfl (rn_assign henv rfl) ?_
  clear henv a; intro a henv
  refine wpList_nil ?_
  refine th_n ?_
  refine wp_seq ?_
  refine wp_seq ?_
  refine region_seq ?_
  revert a
  refine mA rfl rfl ?_
  refine sA (v := .int .i64 (n0 : Nat)) rfl (fun _ henv => rn_len henv Tryd.underlying30 rfl) ?_
  refine mA rfl rfl ?_
  intro a henv
  refine wpList_nil ?_
  refine th_n ?_
  refine wp_block ?_
  replace hst := hst.addRowS notU 9 1
  replace hst : St w0 _ [rowS notU 9 1 none 0 0 (fl fS ([]))] [pfRow fN FN 2 A0 n0 c0 es0] := hst
  refine wp_loop_ghost (fun mz a w => ∃ j : Nat, ∃ B : Option Addr, ∃ d : Nat, ∃ os : List (List UInt8), n0 - j = mz ∧ Env 22 a [(6, .slice A0 n0 c0), (7, .int .i64 (n0 : Nat)), (8, .int .i64 (j : Nat)), (3, .slice B j d)] ∧ St w0 w [rowS notU 9 1 B j d (fl fS os)] [pfRow fN FN 2 A0 n0 c0 es0] ∧ j ≤ n0 ∧ os = ((es0.map zz).take j).map textZ) _ ⟨0, none, 0, [], rfl, henv.sub ⟨rfl, rfl, rfl, rfl, trivial⟩, hst.pick [0] [0] (by decide), (Nat.zero_le _), rfl⟩ ?_
  clear henv hst a
  rintro mz a w1 ⟨j, B, d, os, rfl, henv, hst, hj, ho⟩
  refine wp_seq ?_
  refine region_seq ?_
  refine sv (v := .bool (decide (((j : Nat) : Int) < ((n0 : Nat) : Int)))) henv rfl (rn_bin henv rfl rfl rfl) ?_
  clear henv a; intro a henv
  refine wpList_nil ?_
  refine th_n ?_
  refine wp_seq ?_
  refine if_split henv rfl (fun hc2 => ?_) (fun hc2 => ?_)
  · have hlt : j < n0 := by have := of_decide_eq_true hc2; omega
    obtain ⟨⟨A, c, z⟩, he0⟩ : ∃ e, es0[j]? = some e := ⟨_, List.getElem?_eq_getElem (by omega)⟩
    replace hst := hst.elem (k := 0) rfl he0
    replace hst : St w0 _ [rowS notU 9 1 B j d (fl fS os)] [pfZ A c z, pfRow fN FN 2 A0 n0 c0 es0] := hst
    have hzb := hz.at he0
    refine wp_skip ?_
    refine th_n ?_
    refine wp_seq ?_
    refine wp_block ?_
    refine wp_seq ?_
    refine region_seq ?_
    revert a
    refine sA (v := .pointer (some ⟨ab A0, ao A0 + j * 2, none⟩)) rfl (fun _ henv => rn_idxR (i := j) henv Tryd.underlying30 (ty_anvil_integer_Int.size) rfl rfl (by omega) rfl (show (pfRow fN FN 2 A0 n0 c0 es0).P _ from (hst.pat (k := 1) rfl)).1) ?_
    refine sA (v := .agg #[.bool (neg z), .slice A (zl z) c]) rfl (fun _ henv => rn_loadE (i := j) (e := (A, c, z)) henv ty_anvil_integer_Int rfl rfl fN_len (show (pfRow fN FN 2 A0 n0 c0 es0).P _ from (hst.pat (k := 1) rfl)).1 (by omega) he0 rfl) ?_
    intro a henv
    refine seq_step rfl (op_alloc (c := #[.bool (neg 0), .slice none (zl 0) 0]) henv hst rfl zero_anvil_integer_Int zcells ?_)
    clear henv hst a; intro a w4 g3 henv hst
    refine seq_step rfl (op_store (k := 0) (c' := #[.bool (neg z), .slice A (zl z) c]) henv hst (ty_anvil_integer_Int.size) rfl rfl rfl rfl (by simp) rfl rfl ?_)
    clear henv hst a; intro a w5 henv hst
    refine wpList_nil ?_
    refine th_n ?_
    refine region_seq ?_
    revert a
    refine mA rfl rfl ?_
    refine sA (v := .agg #[.bool (neg z), .slice A (zl z) c]) rfl (fun _ henv => rn_load0 henv ty_anvil_integer_Int rfl (hst.oat (k := 0) rfl) rfl) ?_
    intro a henv
    refine seq_step rfl (op_call henv rfl Tryd.call72 rfl (text_z (z := z) (show ZIn _ A c z from hst.pat (k := 0) rfl) (by omega)) ?_)
    rintro e w6 ⟨rfl, hb⟩
    refine ⟨_, rfl, ?_⟩
    clear henv a; intro a henv
    replace hst := hst.call hb
    clear hb
    refine seq_step rfl (op_buildSlice (z := 1) (pv := #[(0, .string ⟨(textZ z).toArray⟩)]) (c := #[.string ⟨(textZ z).toArray⟩]) henv hst rfl Tryd.underlying159 (ty_string.size) zero_string (by decide) (by decide) rfl (by kernel_rfl) ?_)
    clear henv hst a; intro a w8 g7 henv hst
    refine seq_step rfl (op_appendS (k := 2) (j := 0) henv hst rfl Tryd.underlying159 inf_string rfl rfl rfl rfl rfl rfl rfl rfl rfl rfl rfl (by unfold maxLen; omega) (by omega) ?_)
    clear henv hst a; intro a w11 g9 c10 henv hst
    rw [show fl fS os ++ (#[.string ⟨(textZ z).toArray⟩] : Array Value).toList = fl fS (os ++ [(textZ z)]) from fl_snoc (f := fS) os (textZ z)] at hst
    refine sv (v := .slice (some ⟨g9, 0, none⟩) (j + 1) c10) henv rfl (rn_assign henv rfl) ?_
    clear henv a; intro a henv
    refine wpList_nil ?_
    refine bl_n (th_n ?_)
    refine region_seq ?_
    revert a
    refine sA (v := .int .i64 (j + 1 : Nat)) rfl (fun _ henv => rn_add henv rfl rfl (by rw [IntWalk.i64_in _ (by omega)]; omega)) ?_
    refine mA rfl rfl ?_
    intro a henv
    refine wpList_nil ?_
    exact th_n ⟨_, (by omega), ⟨j + 1, (some ⟨g9, 0, none⟩), c10, (os ++ [(textZ z)]), rfl, henv.sub ⟨rfl, rfl, rfl, rfl, trivial⟩, hst.pick [2] [1] (by decide), (by omega), (step_txt ho he0)⟩⟩
  · obtain rfl : j = n0 := by have := of_decide_eq_false hc2; omega
    refine wp_exit ?_
    refine th_x (th_x (bl_x (th_n ?_)))
    refine wp_seq ?_
    refine region_seq ?_
    refine sv (v := .slice B j d) henv rfl (rn_move henv rfl) ?_
    clear henv a; intro a henv
    have hol : os.length = j := by rw [ho, List.length_map, List.length_take, List.length_map]; omega
    have hob : ∀ s ∈ os, s.length ≤ 1000000 := by rw [ho]; exact txt_bd hz
    have hjl := jn_len hob
    replace hst := (hst.addT0s FTx (fun _ => rfl) os).giveRow (k := 0) (j := 0) rfl rfl hol
    refine seq_step rfl (op_call henv rfl Tryd.call114 rfl (str_join (hst.pat (k := 0) rfl) hob (by omega)) ?_)
    rintro e w12 ⟨rfl, hb⟩
    refine ⟨_, rfl, ?_⟩
    clear henv a; intro a henv
    replace hst := hst.call hb
    clear hb
    revert a
    refine sA (v := .string ⟨(([91]) ++ (jn os)).toArray⟩) rfl (fun _ henv => rn_catS (s := [91]) (t := (jn os)) henv rfl rfl (by simp only [List.length_append, List.length_cons, List.length_nil]; omega)) ?_
    refine sA (v := .string ⟨((([91]) ++ (jn os)) ++ ([93])).toArray⟩) rfl (fun _ henv => rn_catS (s := (([91]) ++ (jn os))) (t := [93]) henv rfl rfl (by simp only [List.length_append, List.length_cons, List.length_nil]; omega)) ?_
    refine aA rfl rfl ?_
    intro a henv
    refine wpList_nil ?_
    refine th_n ?_
    refine wp_ret ?_
    refine leave henv (res1 Tryd.results52 (RV.tmp henv rfl)) ?_
    exact ⟨by rw [ho, List.take_of_length_le (by rw [List.length_map]; omega)]; simp [textRow], hst.below⟩
end Go.Proofs.YtegglooojlheoaaDoor.W

/- Plain laws of the texts of rows: what a text is read as, or where it goes wrong. No program. No condition. -/
namespace Go.Proofs.YtegglooojlheoaaDoor.W
open Anv
def stp (c : UInt8) : Prop := c.toNat = 32 ∨ c.toNat = 93
def ndg (c : UInt8) : Prop := c.toNat = 45 ∨ (48 ≤ c.toNat ∧ c.toNat ≤ 57)
def Rz (t : List UInt8) (z : Int) : Prop := (∃ d, t = 45 :: d ∧ Ok 1 d ∧ z = sg true (numOf d)) ∨ ((t.getD 0 0).toNat ≠ 45 ∧ Ok 0 t ∧ z = sg false (numOf t))
def Rb (t : List UInt8) (b : Nat) : Prop := (∃ d b', t = 45 :: d ∧ Fb 1 d b' ∧ b = b' + 1) ∨ ((t.getD 0 0).toNat ≠ 45 ∧ Fb 0 t b)
theorem word_cases (t : List UInt8) : (∃ z, Rz t z) ∨ ∃ b, Rb t b := by
  rcases sign_cases t with h | ⟨d, rfl⟩
  · rcases read_cases 0 t with ⟨b, hb⟩ | ho
    · exact .inr ⟨b, .inr ⟨h, hb⟩⟩
    · exact .inl ⟨_, .inr ⟨h, ho, rfl⟩⟩
  · rcases read_cases 1 d with ⟨b, hb⟩ | ho
    · exact .inr ⟨b + 1, .inl ⟨d, b, rfl, hb, rfl⟩⟩
    · exact .inl ⟨_, .inl ⟨d, rfl, ho, rfl⟩⟩
theorem ok_not_fb {f b : Nat} {d : List UInt8} (h : Ok f d) (k : Fb f d b) : False := by
  rcases k.1 with ⟨h1, h2⟩ | ⟨_, h2⟩
  · exact h.2 b h1 h2
  · have := h.1; omega
theorem fb_eq {f b c : Nat} {d : List UInt8} (h : Fb f d b) (k : Fb f d c) : b = c := by
  rcases Nat.lt_trichotomy b c with hlt | e | hlt
  · rcases h.1 with ⟨_, h2⟩ | ⟨_, h2⟩
    · exact absurd h2 (k.2 b hlt)
    · rcases k.1 with ⟨h3, _⟩ | ⟨h3, _⟩ <;> omega
  · exact e
  · rcases k.1 with ⟨_, h2⟩ | ⟨_, h2⟩
    · exact absurd h2 (h.2 c hlt)
    · rcases h.1 with ⟨h3, _⟩ | ⟨h3, _⟩ <;> omega
theorem head45 {t d : List UInt8} (h : t = 45 :: d) (k : (t.getD 0 0).toNat ≠ 45) : False := k (by rw [h]; rfl)
theorem rz_not_rb {t : List UInt8} {z : Int} {b : Nat} (h : Rz t z) (k : Rb t b) : False := by
  rcases h with ⟨d, h1, h2, _⟩ | ⟨h1, h2, _⟩ <;> rcases k with ⟨e, b', k1, k2, _⟩ | ⟨k1, k2⟩
  · rw [h1] at k1; cases k1; exact ok_not_fb h2 k2
  · exact head45 h1 k1
  · exact head45 k1 h1
  · exact ok_not_fb h2 k2
theorem rz_eq {t : List UInt8} {z y : Int} (h : Rz t z) (k : Rz t y) : z = y := by
  rcases h with ⟨d, h1, _, h3⟩ | ⟨h1, _, h3⟩ <;> rcases k with ⟨e, k1, _, k3⟩ | ⟨k1, _, k3⟩
  · rw [h1] at k1; cases k1; rw [h3, k3]
  · exact (head45 h1 k1).elim
  · exact (head45 k1 h1).elim
  · rw [h3, k3]
theorem rb_eq {t : List UInt8} {b c : Nat} (h : Rb t b) (k : Rb t c) : b = c := by
  rcases h with ⟨d, b', h1, h2, h3⟩ | ⟨h1, h2⟩ <;> rcases k with ⟨e, c', k1, k2, k3⟩ | ⟨k1, k2⟩
  · rw [h1] at k1; cases k1; rw [h3, k3, fb_eq h2 k2]
  · exact (head45 h1 k1).elim
  · exact (head45 k1 h1).elim
  · exact fb_eq h2 k2
theorem getD_app_lt {l r : List UInt8} {i : Nat} (h : i < l.length) : (l ++ r).getD i 0 = l.getD i 0 := by
  simp only [List.getD_eq_getElem?_getD, List.getElem?_append_left h]
theorem getD_app_at (l : List UInt8) (c : UInt8) (r : List UInt8) : (l ++ c :: r).getD l.length 0 = c := by
  simp [List.getD_eq_getElem?_getD]
theorem badD_app {f b : Nat} {d r : List UInt8} (hb : b < d.length) : BadD f (d ++ r) b ↔ BadD f d b := by
  have h0 : (d ++ r).getD 0 0 = d.getD 0 0 := getD_app_lt (by omega)
  unfold BadD
  rw [getD_app_lt hb, h0]
theorem fb_app {f b : Nat} {d : List UInt8} {c : UInt8} {r : List UInt8} (hc : ¬ ndg c) (h : Fb f d b) : Fb f (d ++ c :: r) b := by
  rcases h.1 with ⟨h1, h2⟩ | ⟨rfl, h2⟩
  · exact ⟨.inl ⟨by rw [List.length_append]; omega, (badD_app h1).2 h2⟩, fun q hq hb => h.2 q hq ((badD_app (by omega)).1 hb)⟩
  · obtain rfl : d = [] := List.eq_nil_of_length_eq_zero h2
    refine ⟨.inl ⟨by simp, .inl ?_⟩, fun q hq => absurd hq (Nat.not_lt_zero _)⟩
    show c.toNat < 48 ∨ 57 < c.toNat
    unfold ndg at hc
    omega
theorem ok_app {f : Nat} {d : List UInt8} {c : UInt8} {r : List UInt8} (hc : ¬ ndg c) (h : Ok f d) : Fb f (d ++ c :: r) d.length := by
  refine ⟨.inl ⟨by rw [List.length_append, List.length_cons]; omega, .inl ?_⟩, fun q hq hb => h.2 q hq ((badD_app hq).1 hb)⟩
  rw [getD_app_at]
  unfold ndg at hc
  omega
theorem rb_app {t : List UInt8} {b : Nat} {c : UInt8} {r : List UInt8} (hc : ¬ ndg c) (h : Rb t b) : Rb (t ++ c :: r) b := by
  rcases h with ⟨d, b', rfl, h2, h3⟩ | ⟨h1, h2⟩
  · exact .inl ⟨d ++ c :: r, b', rfl, fb_app hc h2, h3⟩
  · refine .inr ⟨?_, fb_app hc h2⟩
    cases t with
    | nil => show c.toNat ≠ 45; intro e; exact hc (.inl e)
    | cons x t => exact h1
theorem rz_app {t : List UInt8} {z : Int} {c : UInt8} {r : List UInt8} (hc : ¬ ndg c) (h : Rz t z) : Rb (t ++ c :: r) t.length := by
  rcases h with ⟨d, rfl, h2, _⟩ | ⟨h1, h2, _⟩
  · exact .inl ⟨d ++ c :: r, d.length, rfl, ok_app hc h2, by rw [List.length_cons]⟩
  · refine .inr ⟨?_, ok_app hc h2⟩
    cases t with
    | nil => exact absurd h2.1 (by simp)
    | cons x t => exact h1
def cutw (s : List UInt8) (p q : Nat) : List UInt8 := (s.drop p).take (q - p)
theorem cutw_len {s : List UInt8} {p q : Nat} (h1 : p ≤ q) (h2 : q ≤ s.length) : (cutw s p q).length = q - p := by
  unfold cutw
  rw [List.length_take, List.length_drop]
  omega
theorem cutw_app {s : List UInt8} {p q m : Nat} (h1 : p ≤ q) (h2 : q < m) (h3 : m ≤ s.length) : ∃ r, cutw s p m = cutw s p q ++ s.getD q 0 :: r := by
  refine ⟨(s.drop (q + 1)).take (m - (q + 1)), ?_⟩
  unfold cutw
  rw [show m - p = (q - p) + (m - q) by omega, List.take_add, List.drop_drop, show p + (q - p) = q by omega]
  congr 1
  have hq : q < s.length := by omega
  rw [List.drop_eq_getElem_cons hq, show m - q = (m - (q + 1)) + 1 by omega, List.take_succ_cons]
  congr 1
  simp [List.getD_eq_getElem?_getD, hq]
def Seg (s : List UInt8) (p q : Nat) : Prop := p ≤ q ∧ q ≤ s.length ∧ (∀ i, p ≤ i → i < q → ¬ stp (s.getD i 0)) ∧ (q < s.length → stp (s.getD q 0))
def Sen (s : List UInt8) (p q : Nat) : Prop := p ≤ q ∧ q ≤ s.length ∧ (∀ i, p ≤ i → i < q → ndg (s.getD i 0)) ∧ (q < s.length → ¬ ndg (s.getD q 0))
theorem ndg_not_stp {c : UInt8} (h : ndg c) : ¬ stp c := by unfold ndg at h; unfold stp; omega
theorem seg_eq {s : List UInt8} {p q r : Nat} (h : Seg s p q) (k : Seg s p r) : q = r := by
  rcases Nat.lt_trichotomy q r with hlt | e | hlt
  · exact absurd (h.2.2.2 (by have := k.2.1; omega)) (k.2.2.1 q h.1 hlt)
  · exact e
  · exact absurd (k.2.2.2 (by have := h.2.1; omega)) (h.2.2.1 r k.1 hlt)
theorem seg_ex {s : List UInt8} : ∀ (n p : Nat), s.length - p = n → p ≤ s.length → ∃ q, Seg s p q
  | 0, p, h, hp => ⟨p, Nat.le_refl _, hp, fun i h1 h2 => by omega, fun h1 => by omega⟩
  | n + 1, p, h, hp => by
    by_cases hs : stp (s.getD p 0)
    · exact ⟨p, Nat.le_refl _, hp, fun i h1 h2 => by omega, fun _ => hs⟩
    · obtain ⟨q, h1, h2, h3, h4⟩ := seg_ex (s := s) n (p + 1) (by omega) (by omega)
      refine ⟨q, by omega, h2, fun i hi hq => ?_, h4⟩
      rcases Nat.eq_or_lt_of_le hi with rfl | hi
      · exact hs
      · exact h3 i hi hq
inductive Go (s : List UInt8) : Nat → List Int → List Int ⊕ Nat → Prop
  | bad {p q b : Nat} {zs : List Int} (h : Seg s p q) (hb : Rb (cutw s p q) b) : Go s p zs (.inr (p + b))
  | fin {p : Nat} {zs : List Int} {z : Int} (h : Seg s p s.length) (hz : Rz (cutw s p s.length) z) : Go s p zs (.inr s.length)
  | more {p q : Nat} {zs : List Int} {z : Int} (h : Seg s p q) (hz : Rz (cutw s p q) z) (hc : (s.getD q 0).toNat = 93) (hq : q + 1 < s.length) : Go s p zs (.inr (q + 1))
  | done {p q : Nat} {zs : List Int} {z : Int} (h : Seg s p q) (hz : Rz (cutw s p q) z) (hc : (s.getD q 0).toNat = 93) (hq : q + 1 = s.length) : Go s p zs (.inl (zs ++ [z]))
  | next {p q : Nat} {zs : List Int} {z : Int} {r : List Int ⊕ Nat} (h : Seg s p q) (hz : Rz (cutw s p q) z) (hq : q < s.length) (hc : (s.getD q 0).toNat = 32) (hr : Go s (q + 1) (zs ++ [z]) r) : Go s p zs r
theorem go_det {s : List UInt8} {p : Nat} {zs : List Int} {r : List Int ⊕ Nat} (h : Go s p zs r) : ∀ {r'}, Go s p zs r' → r = r' := by
  induction h with
  | bad h hb =>
    intro r' k
    cases k with
    | bad k kb => obtain rfl := seg_eq h k; rw [rb_eq hb kb]
    | fin k kz => obtain rfl := seg_eq h k; exact (rz_not_rb kz hb).elim
    | more k kz => obtain rfl := seg_eq h k; exact (rz_not_rb kz hb).elim
    | done k kz => obtain rfl := seg_eq h k; exact (rz_not_rb kz hb).elim
    | next k kz => obtain rfl := seg_eq h k; exact (rz_not_rb kz hb).elim
  | fin h hz =>
    intro r' k
    cases k with
    | bad k kb => obtain rfl := seg_eq h k; exact (rz_not_rb hz kb).elim
    | fin k kz => rfl
    | more k kz kc kq => have := seg_eq h k; omega
    | done k kz kc kq => have := seg_eq h k; omega
    | next k kz kq => have := seg_eq h k; omega
  | more h hz hc hq =>
    intro r' k
    cases k with
    | bad k kb => obtain rfl := seg_eq h k; exact (rz_not_rb hz kb).elim
    | fin k kz => have := seg_eq h k; omega
    | more k kz kc kq => obtain rfl := seg_eq h k; rfl
    | done k kz kc kq => have := seg_eq h k; omega
    | next k kz kq kc => obtain rfl := seg_eq h k; omega
  | done h hz hc hq =>
    intro r' k
    cases k with
    | bad k kb => obtain rfl := seg_eq h k; exact (rz_not_rb hz kb).elim
    | fin k kz => have := seg_eq h k; omega
    | more k kz kc kq => have := seg_eq h k; omega
    | done k kz kc kq => obtain rfl := seg_eq h k; rw [rz_eq hz kz]
    | next k kz kq kc => obtain rfl := seg_eq h k; omega
  | next h hz hq hc hr ih =>
    intro r' k
    cases k with
    | bad k kb => obtain rfl := seg_eq h k; exact (rz_not_rb hz kb).elim
    | fin k kz => have := seg_eq h k; omega
    | more k kz kc kq => obtain rfl := seg_eq h k; omega
    | done k kz kc kq => obtain rfl := seg_eq h k; omega
    | next k kz kq kc kr => obtain rfl := seg_eq h k; obtain rfl := rz_eq hz kz; exact ih kr
theorem sen_seg {s : List UInt8} {p q : Nat} (h : Sen s p q) : (Seg s p q) ∨ (q < s.length ∧ ¬ stp (s.getD q 0) ∧ ∃ m, q < m ∧ Seg s p m) := by
  rcases Nat.lt_or_ge q s.length with hlt | hge
  · by_cases hs : stp (s.getD q 0)
    · exact .inl ⟨h.1, h.2.1, fun i h1 h2 => ndg_not_stp (h.2.2.1 i h1 h2), fun _ => hs⟩
    · obtain ⟨m, h1, h2, h3, h4⟩ := seg_ex (s := s) _ q rfl (by omega)
      have hm : q < m := by
        rcases Nat.eq_or_lt_of_le h1 with rfl | h1
        · exact absurd (h4 hlt) hs
        · exact h1
      refine .inr ⟨hlt, hs, m, hm, by have := h.1; omega, h2, fun i hi hq => ?_, h4⟩
      rcases Nat.lt_or_ge i q with h5 | h5
      · exact ndg_not_stp (h.2.2.1 i hi h5)
      · exact h3 i h5 hq
  · exact .inl ⟨h.1, h.2.1, fun i h1 h2 => ndg_not_stp (h.2.2.1 i h1 h2), fun h1 => by omega⟩
theorem go_bad {s : List UInt8} {p q b : Nat} {zs : List Int} (h : Sen s p q) (hb : Rb (cutw s p q) b) : Go s p zs (.inr (p + b)) := by
  rcases sen_seg h with k | ⟨h1, h2, m, h3, k⟩
  · exact .bad k hb
  · obtain ⟨r, hr⟩ := cutw_app h.1 h3 k.2.1
    exact .bad k (by rw [hr]; exact rb_app (h.2.2.2 h1) hb)
theorem go_odd {s : List UInt8} {p q : Nat} {z : Int} {zs : List Int} (h : Sen s p q) (hz : Rz (cutw s p q) z) (hq : q < s.length) (hc : ¬ stp (s.getD q 0)) : Go s p zs (.inr q) := by
  rcases sen_seg h with k | ⟨h1, h2, m, h3, k⟩
  · exact absurd (k.2.2.2 hq) hc
  · obtain ⟨r, hr⟩ := cutw_app h.1 h3 k.2.1
    have h5 := rz_app (r := r) (h.2.2.2 h1) hz
    rw [← hr, cutw_len h.1 h.2.1] at h5
    have h6 := Go.bad (zs := zs) k h5
    rwa [show p + (q - p) = q by have := h.1; omega] at h6
theorem sen_stp {s : List UInt8} {p q : Nat} (h : Sen s p q) (hc : q < s.length → stp (s.getD q 0)) : Seg s p q := ⟨h.1, h.2.1, fun i h1 h2 => ndg_not_stp (h.2.2.1 i h1 h2), hc⟩
inductive Rd0 (s : List UInt8) : List Int ⊕ Nat → Prop
  | no (h : s = [] ∨ (s.getD 0 0).toNat ≠ 91) : Rd0 s (.inr 0)
  | void (h : (s.getD 0 0).toNat = 91) (h1 : (s.getD 1 0).toNat = 93) (h2 : s.length = 2) : Rd0 s (.inl [])
  | tail (h : (s.getD 0 0).toNat = 91) (h1 : (s.getD 1 0).toNat = 93) (h2 : 2 < s.length) : Rd0 s (.inr 2)
  | go (h : (s.getD 0 0).toNat = 91) (h0 : s ≠ []) (h1 : ¬ (1 < s.length ∧ (s.getD 1 0).toNat = 93)) {r : List Int ⊕ Nat} (hr : Go s 1 [] r) : Rd0 s r
theorem getD1_len {s : List UInt8} (h : (s.getD 1 0).toNat = 93) : 1 < s.length := by
  rcases Nat.lt_or_ge 1 s.length with h1 | h1
  · exact h1
  · rw [List.getD_eq_getElem?_getD, List.getElem?_eq_none h1] at h
    exact absurd h (by decide)
theorem rd0_det {s : List UInt8} {r r' : List Int ⊕ Nat} (h : Rd0 s r) (k : Rd0 s r') : r = r' := by
  cases h with
  | no h =>
    cases k with
    | no k => rfl
    | void k => rcases h with rfl | h; exact absurd k (by decide); exact absurd k h
    | tail k => rcases h with rfl | h; exact absurd k (by decide); exact absurd k h
    | go k => rcases h with rfl | h; exact absurd k (by decide); exact absurd k h
  | void h h1 h2 =>
    cases k with
    | no k => rcases k with rfl | k; exact absurd h (by decide); exact absurd h k
    | void => rfl
    | tail _ _ k2 => omega
    | go _ _ k1 => exact absurd ⟨by omega, h1⟩ k1
  | tail h h1 h2 =>
    cases k with
    | no k => rcases k with rfl | k; exact absurd h (by decide); exact absurd h k
    | void _ _ k2 => omega
    | tail => rfl
    | go _ _ k1 => exact absurd ⟨by omega, h1⟩ k1
  | go h h0 h1 hr =>
    cases k with
    | no k => rcases k with rfl | k; exact absurd rfl h0; exact absurd h k
    | void _ k1 => exact absurd ⟨getD1_len k1, k1⟩ h1
    | tail _ k1 => exact absurd ⟨getD1_len k1, k1⟩ h1
    | go _ _ _ kr => exact go_det hr kr
end Go.Proofs.YtegglooojlheoaaDoor.W

/- Texts of rows: told and read back; the readers of words, by what the plain laws say of a word. No condition. -/
namespace Go.Proofs.YtegglooojlheoaaDoor.W
open Go.RowKit Anv Go.Lib
theorem rz_text (z : Int) : Rz (textZ z) z := by
  rcases textZ_cases z with ⟨_, h0, ht, hs⟩ | ⟨_, ht, hs⟩
  · exact .inl ⟨_, ht, ok_textN _ 1 fun _ => h0, by rw [numOf_textN, hs]⟩
  · have h2 := ok_textN z.natAbs 0 (fun e => by cases e)
    have h3 := ok_first h2
    refine .inr ⟨by rw [ht]; omega, by rw [ht]; exact h2, by rw [ht, numOf_textN, hs]⟩
theorem rz_back {t : List UInt8} {z : Int} (h : Rz t z) : textZ z = t := by
  rcases h with ⟨d, rfl, h2, rfl⟩ | ⟨_, h2, rfl⟩
  · exact textZ_back1 h2
  · exact textZ_back0 h2
theorem rz_zl {t : List UInt8} {z : Int} (h : Rz t z) : zl z ≤ t.length + 1 := by
  rcases h with ⟨d, rfl, h2, rfl⟩ | ⟨_, h2, rfl⟩
  · have := zl_num1 (digits_of h2.ok); rw [List.length_cons]; omega
  · exact zl_num0 (digits_of h2.ok)
theorem rz_pos {t : List UInt8} {z : Int} (h : Rz t z) : 0 < t.length := by
  rcases h with ⟨d, rfl, h2, _⟩ | ⟨_, h2, _⟩
  · simp
  · exact h2.1
theorem jn_cons2 (t u : List UInt8) (l : List (List UInt8)) : jn (t :: u :: l) = t ++ 32 :: jn (u :: l) := by simp [jn]
theorem drop_cut {s : List UInt8} {p q : Nat} (h1 : p ≤ q) (h2 : q < s.length) : s.drop p = cutw s p q ++ s.getD q 0 :: s.drop (q + 1) := by
  unfold cutw
  have e : s.drop p = (s.drop p).take (q - p) ++ (s.drop p).drop (q - p) := (List.take_append_drop ..).symm
  rw [List.drop_drop, show p + (q - p) = q by omega, List.drop_eq_getElem_cons h2] at e
  rw [show s.getD q 0 = s[q] by simp [List.getD_eq_getElem?_getD, h2]]
  exact e
theorem byte_eq {c : UInt8} {n : Nat} (h : c.toNat = n) (d : UInt8) (hd : d.toNat = n) : c = d := UInt8.toNat_inj.1 (h.trans hd.symm)
theorem go_back {s : List UInt8} {p : Nat} {acc : List Int} {r : List Int ⊕ Nat} (h : Go s p acc r) : ∀ res, r = .inl res → ∃ z zs, res = acc ++ z :: zs ∧ s.drop p = jn ((z :: zs).map textZ) ++ [93] := by
  induction h with
  | bad => intro res e; cases e
  | fin => intro res e; cases e
  | more => intro res e; cases e
  | @done p q acc z h hz hc hq =>
    intro res e
    cases e
    refine ⟨z, [], rfl, ?_⟩
    rw [drop_cut h.1 (by omega), ← rz_back hz, byte_eq hc 93 rfl, List.drop_eq_nil_of_le (by omega)]
    simp [jn]
  | @next p q acc z r h hz hq hc hr ih =>
    intro res e
    obtain ⟨y, ys, h1, h2⟩ := ih res e
    refine ⟨z, y :: ys, by rw [h1]; simp, ?_⟩
    rw [drop_cut h.1 hq, h2, ← rz_back hz, byte_eq hc 32 rfl, List.map_cons (l := y :: ys), List.map_cons, jn_cons2, ← List.map_cons]
    simp
theorem rd_back {s : List UInt8} {zs : List Int} (h : Rd0 s (.inl zs)) : textRow zs = s := by
  cases h with
  | void h h1 h2 =>
    match s, h2 with
    | [a, b], _ => rw [byte_eq (c := a) h 91 rfl, byte_eq (c := b) h1 93 rfl]; rfl
  | go h h0 h1 hr =>
    obtain ⟨z, ys, h2, h3⟩ := go_back hr _ rfl
    cases s with
    | nil => exact absurd rfl h0
    | cons a s =>
      rw [byte_eq (c := a) h 91 rfl, h2]
      rw [List.drop_succ_cons, List.drop_zero] at h3
      rw [h3]
      simp [textRow]
theorem iread_rz {t : List UInt8} {z : Int} {w0 : World} (h : Rz t z) (hl : t.length ≤ 65536) :
    Calls Tryd.prog 113 #[.string ⟨t.toArray⟩] w0 fun e w' => ∃ v, e = .returned (.tuple #[v, .agg #[.int .i64 0, .int .i64 0]]) ∧ ZAt w' v z ∧ Below w0.heap.size w0 w' := by
  rcases h with ⟨d, rfl, h2, rfl⟩ | ⟨h1, h2, rfl⟩
  · rw [List.length_cons] at hl
    exact iread_ok1 (by omega) h2
  · exact iread_ok0 h1 (by omega) h2
theorem iread_rb {t : List UInt8} {b : Nat} {w0 : World} (h : Rb t b) (hl : t.length ≤ 65536) :
    Calls Tryd.prog 113 #[.string ⟨t.toArray⟩] w0 fun e w' => e = .returned (.tuple #[.agg #[.bool (neg 0), .slice none (zl 0) 0], .agg #[.int .i64 6, .int .i64 (b : Nat)]]) ∧ Below w0.heap.size w0 w' := by
  rcases h with ⟨d, b', rfl, h2, rfl⟩ | ⟨h1, h2⟩
  · rw [List.length_cons] at hl
    exact iread_fb1 (by omega) h2
  · exact iread_fb0 h1 (by omega) h2
theorem rread_rz {t : List UInt8} {z : Int} {w0 : World} (h : Rz t z) (hl : t.length ≤ 65536) :
    Calls Tryd.prog 115 #[.string ⟨t.toArray⟩] w0 fun e w' => ∃ v, e = .returned (.tuple #[v, .int .i64 (-1)]) ∧ RAt w' v z ∧ Below w0.heap.size w0 w' := by
  rcases h with ⟨d, rfl, h2, rfl⟩ | ⟨h1, h2, rfl⟩
  · rw [List.length_cons] at hl
    exact rread_ok1 h2 (by omega)
  · exact rread_ok0 h1 h2 (by omega)
theorem rread_rb {t : List UInt8} {b : Nat} {w0 : World} (h : Rb t b) (hl : t.length ≤ 65536) :
    Calls Tryd.prog 115 #[.string ⟨t.toArray⟩] w0 fun e w' => e = .returned (.tuple #[.agg #[.bool (neg 0), .slice none (dl 0) 0], .int .i64 (b : Nat)]) ∧ Below w0.heap.size w0 w' := by
  rcases h with ⟨d, b', rfl, h2, rfl⟩ | ⟨h1, h2⟩
  · rw [List.length_cons] at hl
    exact rread_fb1 (by omega) h2
  · exact rread_fb0 h1 (by omega) h2
end Go.Proofs.YtegglooojlheoaaDoor.W

/- row.Zero, Unit, IsZero; the laws' live; RowMakes. Printed by pv/gen_row2.py. No condition. -/
namespace Go.Proofs.YtegglooojlheoaaDoor.W
open Go.RowKit Anv Go.Lib
def allz (es : List NE) : Bool := es.all fun e => decide (zz e = 0)
theorem zb_of {es : List NE} {zs : List Int} {k : Nat} (h : es.map zz = zs) (hb : ∀ z ∈ zs, z.natAbs < 4294967296 ^ 1) : ZB (k + 1) es := fun e he => by
  have h1 := hb (zz e) (h ▸ List.mem_map_of_mem he)
  have h2 := nl_le_of_lt h1
  exact Nat.le_trans h2 (by omega)
theorem live_zs {a b : List NE} (h : a.map zz = [1, 2]) (k : b.map zz = [3, -4]) : List.zipWith (· + ·) (a.map zz) (b.map zz) = [4, -2] := by rw [h, k]; rfl
theorem zb_live {es : List NE} (h : es.map zz = [4, -2]) : ZB 90000 es := zb_of (k := 89999) h (by decide)
theorem live_text {a b c : List NE} (h : a.map zz = [1, 2]) (k : b.map zz = [3, -4]) (m : c.map zz = List.zipWith (· + ·) (a.map zz) (b.map zz)) : textRow (c.map zz) = [91, 52, 32, 45, 50, 93] := by
  rw [m, live_zs h k]
  decide +kernel
set_option maxRecDepth 100000 in
set_option maxHeartbeats 2000000 in
theorem row_live {w0 : World} :
    Calls Tryd.prog 16 #[] w0 fun e w' => e = .returned (.bool true) ∧ Below w0.heap.size w0 w' := by
  refine enter Tryd.func16 rfl Tryd.ntmps16 rfl ?_
  intro a henv hst
  refine wp_seq ?_
  refine region_seq ?_
  refine sv (v := .bool false) henv rfl (rn_assign henv rfl) ?_
  clear henv a; intro a henv
  refine wpList_nil ?_
  refine th_n ?_
  refine wp_seq ?_
  refine region_seq ?_
  refine seq_step rfl (op_buildSlice (z := 1) (pv := #[(0, .int .i64 1), (1, .int .i64 2)]) (c := #[.int .i64 1, .int .i64 2]) henv hst rfl Tryd.underlying59 (ty_int64.size) zero_int64 (by decide) (by decide) rfl (by kernel_rfl) ?_)
  clear henv hst a; intro a w2 g1 henv hst
  replace hst := hst.giveBk (f := fI) (F := FI) (k := 0) (n := 2) (es := [1, 2]) rfl rfl fI_len rfl (by decide) (esT_P (fun _ => rfl) _ _) (fun _ _ _ _ => esT_foot (fun _ => rfl))
  refine seq_step rfl (op_call henv rfl Tryd.call39 rfl (row_of (hst.pat (k := 0) rfl) (by intro x hx; simp at hx; omega) (by decide)) ?_)
  rintro e w8 ⟨_, rfl, ⟨A3, c4, es5, rfl, hr, hl6, hz7⟩, hb⟩
  refine ⟨_, rfl, ?_⟩
  clear henv a; intro a henv
  replace hst := hst.freshRd hb hr hl6 (ap_N hr.2.1 trivial)
  clear hr
  clear hb
  refine seq_step rfl (op_buildSlice (z := 1) (pv := #[(0, .int .i64 3), (1, .int .i64 (-4))]) (c := #[.int .i64 3, .int .i64 (-4)]) henv hst rfl Tryd.underlying59 (ty_int64.size) zero_int64 (by decide) (by decide) rfl (by kernel_rfl) ?_)
  clear henv hst a; intro a w10 g9 henv hst
  replace hst := hst.giveBk (f := fI) (F := FI) (k := 0) (n := 2) (es := [3, (-4)]) rfl rfl fI_len rfl (by decide) (esT_P (fun _ => rfl) _ _) (fun _ _ _ _ => esT_foot (fun _ => rfl))
  refine seq_step rfl (op_call henv rfl Tryd.call39 rfl (row_of (hst.pat (k := 0) rfl) (by intro x hx; simp at hx; omega) (by decide)) ?_)
  rintro e w16 ⟨_, rfl, ⟨A11, c12, es13, rfl, hr, hl14, hz15⟩, hb⟩
  refine ⟨_, rfl, ?_⟩
  clear henv a; intro a henv
  replace hst := hst.freshRd hb hr hl14 (ap_N hr.2.1 trivial)
  clear hr
  clear hb
  refine seq_step rfl (op_call henv rfl Tryd.call21 rfl (row_add (hst.pat (k := 3) rfl) (hst.pat (k := 0) rfl) (zb_of hz7 (by decide)) (zb_of hz15 (by decide)) (by decide)) ?_)
  rintro e w22 ⟨_, rfl, ⟨A17, c18, es19, rfl, hr, hl20, hz21⟩, hb⟩
  refine ⟨_, rfl, ?_⟩
  clear henv a; intro a henv
  replace hst := hst.freshRd hb hr hl20 (ap_N hr.2.1 trivial)
  clear hr
  clear hb
  revert a
  refine mA rfl rfl ?_
  refine sA (v := .slice A17 2 c18) rfl (fun _ henv => rn_extract henv rfl rfl) ?_
  refine sA (v := .int .i64 0) rfl (fun _ henv => rn_extract henv rfl rfl) ?_
  refine aA rfl rfl ?_
  refine aA rfl rfl ?_
  intro a henv
  refine wpList_nil ?_
  refine th_n ?_
  refine wp_seq ?_
  refine region_seq ?_
  revert a
  refine mA rfl rfl ?_
  refine sA (v := .bool true) rfl (fun _ henv => rn_bin henv rfl rfl rfl) ?_
  refine mA rfl rfl ?_
  refine gA (v := .slice A17 2 c18) rfl rfl rfl rfl (fun _ henv => rn_move henv rfl) ?_
  intro a henv
  refine seq_g rfl henv rfl rfl (op_call henv rfl Tryd.call52 rfl (row_text (hst.pat (k := 0) rfl) (zb_live (by rw [hz21]; exact live_zs hz7 hz15)) (by decide)) ?_)
  rintro e w23 ⟨rfl, hb⟩
  refine ⟨_, rfl, ?_⟩
  clear henv a; intro a henv
  replace hst := hst.call hb
  clear hb
  refine seq_g rfl henv rfl rfl (op_val (v := .bool (decide ((textRow (es19.map zz)) = [91, 52, 32, 45, 50, 93]))) henv rfl (rn_eqls (s := (textRow (es19.map zz))) (t := [91, 52, 32, 45, 50, 93]) henv rfl rfl) ?_)
  clear henv a; intro a henv
  rw [show (decide ((textRow (es19.map zz)) = [91, 52, 32, 45, 50, 93])) = true from decide_eq_true (live_text hz7 hz15 hz21)] at henv
  revert a
  refine sA (v := .bool true) rfl (fun _ henv => rn_pick henv rfl rfl) ?_
  refine aA rfl rfl ?_
  intro a henv
  refine wpList_nil ?_
  refine th_n ?_
  refine wp_ret ?_
  refine leave henv (res1 Tryd.results16 (RV.tmp henv rfl)) ?_
  exact ⟨rfl, hst.below⟩
end Go.Proofs.YtegglooojlheoaaDoor.W

/- RowMakes: the law's walk. Printed by pv/gen_row3.py. No condition. -/
namespace Go.Proofs.YtegglooojlheoaaDoor.W
open Go.RowKit Anv Go.Lib
end Go.Proofs.YtegglooojlheoaaDoor.W
