/- The laws' long. Printed by pv/gen_row4.py. No condition. -/
import Derived.Test.YtegglooojlheoaaDoorM47
import Derived.Test.YtegglooojlheoaaDoorM15
import Derived.Test.YtegglooojlheoaaDoorM37
import Derived.Test.YtegglooojlheoaaDoorM45

namespace Go.Proofs.YtegglooojlheoaaDoor.W
open Go.RowKit Anv Go.Lib
abbrev VE := Option Addr × Nat × Nat × List UE
def fV (v : VE) : List Value := [.slice v.1 v.2.1 v.2.2.1]
def FV (v : VE) : PF := pfRow fU FU 2 v.1 v.2.1 v.2.2.1 v.2.2.2
theorem fV_len (v : VE) : (fV v).length = 1 := rfl
def tl (us : List UE) : Nat := (us.map fun e => e.2.2.1).sum
def tv (vs : List VE) : Nat := (vs.map fun v => v.2.1 + tl v.2.2.2).sum
theorem sum_step (l : List Nat) : ∀ (k : Nat) (x : Nat), l[k]? = some x → (l.take (k + 1)).sum = (l.take k).sum + x := by
  induction l with
  | nil => intro k x h; cases h
  | cons y l ih =>
    intro k x h
    cases k with
    | zero =>
      rw [List.getElem?_cons_zero] at h
      cases h
      simp
    | succ k =>
      rw [List.getElem?_cons_succ] at h
      rw [List.take_succ_cons, List.take_succ_cons, List.sum_cons, List.sum_cons, ih k x h]
      omega
theorem tl_step {us : List UE} {k : Nat} {e : UE} (h : us[k]? = some e) : tl (us.take (k + 1)) = tl (us.take k) + e.2.2.1 := by
  unfold tl
  rw [List.map_take, List.map_take]
  exact sum_step _ k _ (by rw [List.getElem?_map, h]; rfl)
theorem tv_step {vs : List VE} {k : Nat} {A : Option Addr} {n c : Nat} {us : List UE} (h : vs[k]? = some (A, n, c, us)) : tv (vs.take (k + 1)) = tv (vs.take k) + (n + tl us) := by
  unfold tv
  rw [List.map_take, List.map_take]
  exact sum_step _ k _ (by rw [List.getElem?_map, h]; rfl)
def vz (e : UE) : Int := sg e.1 (val 4294967296 e.2.2.2.2)
theorem make_zv {b : Bool} {A : Option Addr} {n c : Nat} {xs : List Nat} {z : Int} {w : World} (h : U32 w A n c xs) (hz : sg b (val 4294967296 xs) = z) (hn : n ≤ 1000000) :
    Calls Tryd.prog 19 #[.bool b, .slice A n c] w fun e w' => ∃ v, e = .returned v ∧ ZAt w' v z ∧ Below w.heap.size w w' := by
  subst hz
  exact make_z ⟨xs, h, rfl⟩ (Nat.le_trans (nl_len ⟨xs, h, rfl⟩) hn)
theorem make_rv {b : Bool} {A : Option Addr} {n c : Nat} {xs : List Nat} {z : Int} {w : World} (h : U32 w A n c xs) (hz : sg b (val 4294967296 xs) = z) (hn : n ≤ 1000000) :
    Calls Tryd.prog 20 #[.bool b, .slice A n c] w fun e w' => ∃ v, e = .returned v ∧ RAt w' v z ∧ Below w.heap.size w w' := by
  subst hz
  exact make_r h hn
theorem same_rb4 {A B : Option Addr} {c d : Nat} {x y : Int} {w : World} (hx : RIn w A c x) (hy : RIn w B d y) :
    Calls Tryd.prog 107 #[.agg #[.bool (neg x), .slice A (dl x) c], .agg #[.bool (neg y), .slice B (dl y) d]] w fun e w' => e = .returned (.bool (decide (x = y))) ∧ Below w.heap.size w w' := by
  have h := same_r hx hy
  rw [show ((x - y).sign == 0) = decide (x = y) from ?_] at h
  · exact h
  · by_cases e : x = y
    · rw [e, Int.sub_self]; simp
    · rw [decide_eq_false e]
      exact beq_eq_false_iff_ne.2 fun h => e (by have := Int.sign_eq_zero_iff_zero.1 h; omega)
theorem step_num {us : List UE} {os : List NE} {j : Nat} {b : Bool} {A B : Option Addr} {q d c : Nat} {xs : List Nat} {z : Int} (ho : os.map zz = (us.map vz).take j) (he : us[j]? = some (b, A, q, d, xs)) (hz : sg b (val 4294967296 xs) = z) : (os ++ [(B, c, z)]).map zz = (us.map vz).take (j + 1) := by
  rw [List.map_append, ho, take_one (x := z) (by rw [List.getElem?_map, he, ← hz]; rfl)]
  rfl
set_option maxRecDepth 100000 in
set_option maxHeartbeats 2000000 in
theorem row_long {A0 : Option Addr} {n0 c0 : Nat} {es0 : List VE} {w0 : World} (h0 : (pfRow fV FV 1 A0 n0 c0 es0).P w0) (hS : ∀ v ∈ es0, v.2.1 ≤ 35184372088832 ∧ Sz v.2.2.2) :
    Calls Tryd.prog 17 #[.slice A0 n0 c0] w0 fun e w' => ∃ b, e = .returned (.bool b) ∧ (b = false → tv es0 ≤ 300) ∧ Below w0.heap.size w0 w' := by
  refine enter Tryd.func17 rfl Tryd.ntmps17 rfl ?_
  intro a henv hst
  have hlen0 := h0.2.1
  have hbig0 := Nat.le_trans h0.1.cap h0.1.big
  unfold maxLen at hbig0
  replace hst := hst.argRow h0
  clear h0
  refine wp_seq ?_
  refine region_seq ?_
  refine sv (v := .bool false) henv rfl (rn_assign henv rfl) ?_
  clear henv a; intro a henv
  refine wpList_nil ?_
  refine th_n ?_
  refine wp_seq ?_
  refine region_seq ?_
  refine sv (v := .int .i64 0) henv rfl (rn_assign henv rfl) ?_
  clear henv a; intro a henv
  refine wpList_nil ?_
  refine th_n ?_
  refine wp_seq ?_
  refine wp_seq ?_
  refine region_seq ?_
  refine sv (v := .int .i64 0) henv rfl (rn_assign henv rfl) ?_
  clear henv a; intro a henv
  refine wpList_nil ?_
  refine th_n ?_
  refine wp_block ?_
  refine wp_loop_ghost (fun mz a w => ∃ j : Nat, ∃ m : Nat, n0 - j = mz ∧ Env 43 a [(0, .slice A0 n0 c0), (2, .bool false), (3, .int .i64 (m : Nat)), (4, .int .i64 (j : Nat))] ∧ St w0 w [] [pfRow fV FV 1 A0 n0 c0 es0] ∧ j ≤ n0 ∧ m ≤ 300 ∧ m = tv (es0.take j)) _ ⟨0, 0, rfl, henv.sub ⟨rfl, rfl, rfl, rfl, trivial⟩, hst.pick [] [0] (by decide), (Nat.zero_le _), (by decide), rfl⟩ ?_
  clear henv hst a
  rintro mz a w1 ⟨j, m, rfl, henv, hst, hj, hm, hv⟩
  refine wp_seq ?_
  refine wp_seq ?_
  refine region_seq ?_
  revert a
  refine mA rfl rfl ?_
  refine mA rfl rfl ?_
  refine sA (v := .int .i64 (n0 : Nat)) rfl (fun _ henv => rn_len henv Tryd.underlying139 rfl) ?_
  refine sA (v := .bool (decide (((j : Nat) : Int) < ((n0 : Nat) : Int)))) rfl (fun _ henv => rn_bin henv rfl rfl rfl) ?_
  intro a henv
  refine wpList_nil ?_
  refine th_n ?_
  refine if_split henv rfl (fun hc2 => ?_) (fun hc2 => ?_)
  · have hlt : j < n0 := by have := of_decide_eq_true hc2; omega
    obtain ⟨⟨A, n, c, us⟩, he0⟩ : ∃ e, es0[j]? = some e := ⟨_, List.getElem?_eq_getElem (by omega)⟩
    obtain ⟨hn, hsz⟩ := hS _ (List.mem_of_getElem? he0)
    replace hn : n ≤ 35184372088832 := hn
    replace hsz : Sz us := hsz
    replace hst := hst.elem (k := 0) rfl he0
    replace hst : St w0 _ [] [pfRow fU FU 2 A n c us, pfRow fV FV 1 A0 n0 c0 es0] := hst
    have hlu : us.length = n := (hst.pat (k := 0) rfl).2.1
    refine wp_skip ?_
    refine th_n ?_
    refine wp_seq ?_
    refine wp_block ?_
    refine wp_seq ?_
    refine region_seq ?_
    revert a
    refine mA rfl rfl ?_
    refine mA rfl rfl ?_
    refine mA rfl rfl ?_
    refine sA (v := .pointer (some ⟨ab A0, ao A0 + j * 1, none⟩)) rfl (fun _ henv => rn_idxR (i := j) henv Tryd.underlying139 (ty__anvillaw04_Num.size) rfl rfl (by omega) rfl (show (pfRow fV FV 1 A0 n0 c0 es0).P _ from (hst.pat (k := 1) rfl)).1) ?_
    refine sA (v := .slice A n c) rfl (fun _ henv => rn_loadE1 (i := j) (j := 0) (e := (A, n, c, us)) henv ty__anvillaw04_Num rfl rfl fV_len (by decide) (show (pfRow fV FV 1 A0 n0 c0 es0).P _ from (hst.pat (k := 1) rfl)).1 (by omega) he0 rfl) ?_
    refine sA (v := .int .i64 (n : Nat)) rfl (fun _ henv => rn_len henv Tryd.underlying22 rfl) ?_
    refine sA (v := .int .i64 (m + n : Nat)) rfl (fun _ henv => rn_add henv rfl rfl (by rw [IntWalk.i64_in _ (by omega)]; omega)) ?_
    refine aA rfl rfl ?_
    intro a henv
    refine wpList_nil ?_
    refine th_n ?_
    refine wp_seq ?_
    refine wp_seq ?_
    refine region_seq ?_
    revert a
    refine mA rfl rfl ?_
    refine sA (v := .bool (decide (((m + n : Nat) : Int) > (300 : Int)))) rfl (fun _ henv => rn_bin henv rfl rfl rfl) ?_
    intro a henv
    refine wpList_nil ?_
    refine th_n ?_
    refine if_split henv rfl (fun hc3 => ?_) (fun hc3 => ?_)
    · have hcmp := of_decide_eq_true hc3
      refine wp_seq ?_
      refine region_seq ?_
      refine sv (v := .bool true) henv rfl (rn_assign henv rfl) ?_
      clear henv a; intro a henv
      refine wpList_nil ?_
      refine th_n ?_
      refine wp_ret ?_
      refine th_r (bl_r (th_r (th_r (bl_r (th_r ?_)))))
      refine leave henv (res1 Tryd.results17 (RV.tmp henv rfl)) ?_
      exact ⟨true, rfl, (fun h => by cases h), hst.below⟩
    · have hcmp := of_decide_eq_false hc3
      refine wp_skip ?_
      refine th_n ?_
      refine wp_seq ?_
      refine region_seq ?_
      refine sv (v := .int .i64 0) henv rfl (rn_assign henv rfl) ?_
      clear henv a; intro a henv
      refine wpList_nil ?_
      refine th_n ?_
      refine wp_block ?_
      refine wp_loop_ghost (fun mz a w => ∃ k : Nat, ∃ m2 : Nat, n - k = mz ∧ Env 43 a [(0, .slice A0 n0 c0), (2, .bool false), (3, .int .i64 (m2 : Nat)), (4, .int .i64 (j : Nat)), (5, .int .i64 (k : Nat))] ∧ St w0 w [] [pfRow fU FU 2 A n c us, pfRow fV FV 1 A0 n0 c0 es0] ∧ k ≤ n ∧ m2 ≤ 300 ∧ m2 = m + n + tl (us.take k)) _ ⟨0, (m + n), rfl, henv.sub ⟨rfl, rfl, rfl, rfl, rfl, trivial⟩, hst.pick [] [0, 1] (by decide), (Nat.zero_le _), (by omega), rfl⟩ ?_
      clear henv hst a
      rintro mz a w4 ⟨k, m2, rfl, henv, hst, hk, hm2, hv2⟩
      refine wp_seq ?_
      refine wp_seq ?_
      refine region_seq ?_
      revert a
      refine mA rfl rfl ?_
      refine mA rfl rfl ?_
      refine mA rfl rfl ?_
      refine sA (v := .pointer (some ⟨ab A0, ao A0 + j * 1, none⟩)) rfl (fun _ henv => rn_idxR (i := j) henv Tryd.underlying139 (ty__anvillaw04_Num.size) rfl rfl (by omega) rfl (show (pfRow fV FV 1 A0 n0 c0 es0).P _ from (hst.pat (k := 1) rfl)).1) ?_
      refine sA (v := .slice A n c) rfl (fun _ henv => rn_loadE1 (i := j) (j := 0) (e := (A, n, c, us)) henv ty__anvillaw04_Num rfl rfl fV_len (by decide) (show (pfRow fV FV 1 A0 n0 c0 es0).P _ from (hst.pat (k := 1) rfl)).1 (by omega) he0 rfl) ?_
      refine sA (v := .int .i64 (n : Nat)) rfl (fun _ henv => rn_len henv Tryd.underlying22 rfl) ?_
      refine sA (v := .bool (decide (((k : Nat) : Int) < ((n : Nat) : Int)))) rfl (fun _ henv => rn_bin henv rfl rfl rfl) ?_
      intro a henv
      refine wpList_nil ?_
      refine th_n ?_
      refine if_split henv rfl (fun hc5 => ?_) (fun hc5 => ?_)
      · have hlt2 : k < n := by have := of_decide_eq_true hc5; omega
        obtain ⟨⟨b, B, q, d, xs⟩, he1⟩ : ∃ e, us[k]? = some e := ⟨_, List.getElem?_eq_getElem (by omega)⟩
        have hq : q ≤ 35184372088832 := hsz.at he1
        refine wp_skip ?_
        refine th_n ?_
        refine wp_seq ?_
        refine wp_block ?_
        refine wp_seq ?_
        refine region_seq ?_
        revert a
        refine mA rfl rfl ?_
        refine mA rfl rfl ?_
        refine mA rfl rfl ?_
        refine sA (v := .pointer (some ⟨ab A0, ao A0 + j * 1, none⟩)) rfl (fun _ henv => rn_idxR (i := j) henv Tryd.underlying139 (ty__anvillaw04_Num.size) rfl rfl (by omega) rfl (show (pfRow fV FV 1 A0 n0 c0 es0).P _ from (hst.pat (k := 1) rfl)).1) ?_
        refine sA (v := .slice A n c) rfl (fun _ henv => rn_loadE1 (i := j) (j := 0) (e := (A, n, c, us)) henv ty__anvillaw04_Num rfl rfl fV_len (by decide) (show (pfRow fV FV 1 A0 n0 c0 es0).P _ from (hst.pat (k := 1) rfl)).1 (by omega) he0 rfl) ?_
        refine mA rfl rfl ?_
        refine sA (v := .pointer (some ⟨ab A, ao A + k * 2, none⟩)) rfl (fun _ henv => rn_idxR (i := k) henv Tryd.underlying22 (ty_anvil_anvillaw04_Num.size) rfl rfl (by omega) rfl (show (pfRow fU FU 2 A n c us).P _ from (hst.pat (k := 0) rfl)).1) ?_
        refine sA (v := .pointer (some ⟨ab A, ao A + k * 2 + 1, none⟩)) rfl (fun _ henv => rn_fieldAddr henv fd_anvil_anvillaw04_Num_1 (ty__uint32.size) (by decide) rfl) ?_
        refine sA (v := .slice B q d) rfl (fun _ henv => rn_loadE1 (i := k) (j := 1) (e := (b, B, q, d, xs)) henv ty__uint32 rfl rfl fU_len (by decide) (show (pfRow fU FU 2 A n c us).P _ from (hst.pat (k := 0) rfl)).1 (by omega) he1 rfl) ?_
        refine sA (v := .int .i64 (q : Nat)) rfl (fun _ henv => rn_len henv Tryd.underlying23 rfl) ?_
        refine sA (v := .int .i64 (m2 + q : Nat)) rfl (fun _ henv => rn_add henv rfl rfl (by rw [IntWalk.i64_in _ (by omega)]; omega)) ?_
        refine aA rfl rfl ?_
        intro a henv
        refine wpList_nil ?_
        refine th_n ?_
        refine wp_seq ?_
        refine region_seq ?_
        revert a
        refine mA rfl rfl ?_
        refine sA (v := .bool (decide (((m2 + q : Nat) : Int) > (300 : Int)))) rfl (fun _ henv => rn_bin henv rfl rfl rfl) ?_
        intro a henv
        refine wpList_nil ?_
        refine th_n ?_
        refine if_split henv rfl (fun hc6 => ?_) (fun hc6 => ?_)
        · have hcmp := of_decide_eq_true hc6
          refine wp_seq ?_
          refine region_seq ?_
          refine sv (v := .bool true) henv rfl (rn_assign henv rfl) ?_
          clear henv a; intro a henv
          refine wpList_nil ?_
          refine th_n ?_
          refine wp_ret ?_
          refine bl_r (th_r (th_r (bl_r (bl_r (th_r (th_r (bl_r (th_r ?_))))))))
          refine leave henv (res1 Tryd.results17 (RV.tmp henv rfl)) ?_
          exact ⟨true, rfl, (fun h => by cases h), hst.below⟩
        · have hcmp := of_decide_eq_false hc6
          refine wp_skip ?_
          refine bl_n (th_n ?_)
          refine region_seq ?_
          revert a
          refine mA rfl rfl ?_
          refine sA (v := .int .i64 (k + 1 : Nat)) rfl (fun _ henv => rn_add henv rfl rfl (by rw [IntWalk.i64_in _ (by omega)]; omega)) ?_
          refine aA rfl rfl ?_
          intro a henv
          refine wpList_nil ?_
          exact th_n ⟨_, (by omega), ⟨k + 1, (m2 + q), rfl, henv.sub ⟨rfl, rfl, rfl, rfl, rfl, trivial⟩, hst.pick [] [0, 1] (by decide), (by omega), (by omega), (by rw [tl_step he1]; show _ = m + n + (tl (us.take k) + q); omega)⟩⟩
      · have hkn : k = n := by have := of_decide_eq_false hc5; omega
        have hlast : m2 = m + n + tl us := by rw [hv2, hkn, ← hlu, List.take_length]
        refine wp_exit ?_
        refine th_x (th_x (bl_x (bl_n (th_n ?_))))
        refine region_seq ?_
        revert a
        refine mA rfl rfl ?_
        refine sA (v := .int .i64 (j + 1 : Nat)) rfl (fun _ henv => rn_add henv rfl rfl (by rw [IntWalk.i64_in _ (by omega)]; omega)) ?_
        refine aA rfl rfl ?_
        intro a henv
        refine wpList_nil ?_
        exact th_n ⟨_, (by omega), ⟨j + 1, m2, rfl, henv.sub ⟨rfl, rfl, rfl, rfl, trivial⟩, hst.pick [] [1] (by decide), (by omega), (by omega), (by rw [tv_step he0]; omega)⟩⟩
  · have hjn : j = n0 := by have := of_decide_eq_false hc2; omega
    refine wp_exit ?_
    refine th_x (th_x (bl_x (th_n ?_)))
    refine wp_seq ?_
    refine region_seq ?_
    refine sv (v := .bool false) henv rfl (rn_assign henv rfl) ?_
    clear henv a; intro a henv
    refine wpList_nil ?_
    refine th_n ?_
    refine wp_ret ?_
    refine leave henv (res1 Tryd.results17 (RV.tmp henv rfl)) ?_
    exact ⟨false, rfl, (fun _ => by rw [hjn, ← hlen0, List.take_length] at hv; omega), hst.below⟩
set_option maxRecDepth 100000 in
set_option maxHeartbeats 2000000 in
theorem row_of2 {A0 : Option Addr} {n0 c0 : Nat} {es0 : List UE} {w0 : World} (h0 : (pfRow fU FU 2 A0 n0 c0 es0).P w0) (hsm : ∀ e ∈ es0, e.2.2.1 ≤ 1000000) (hn : n0 ≤ 1000000) :
    Calls Tryd.prog 18 #[.slice A0 n0 c0] w0 fun e w' => ∃ v u, e = .returned (.tuple #[v, u]) ∧ ZRow w0.heap.size w' v n0 (es0.map vz) ∧ MRow w0.heap.size w' u n0 (es0.map vz) ∧ Below w0.heap.size w0 w' := by
  refine enter Tryd.func18 rfl Tryd.ntmps18 rfl ?_
  intro a henv hst
  have hlen0 := h0.2.1
  have hbig0 := Nat.le_trans h0.1.cap h0.1.big
  unfold maxLen at hbig0
  replace hst := hst.argRow h0
  clear h0
  refine wp_seq ?_
  refine region_seq ?_
  revert a
  refine aA rfl rfl ?_
  refine aA rfl rfl ?_
  intro a henv
  refine wpList_nil ?_
  refine th_n ?_
  refine wp_seq ?_
  refine region_seq ?_
  refine sv (v := .slice none 0 0) henv rfl (rn_assign henv rfl) ?_
  clear henv a; intro a henv
  refine wpList_nil ?_
  refine th_n ?_
  refine wp_seq ?_
  refine region_seq ?_
  refine sv (v := .slice none 0 0) henv rfl (rn_assign henv rfl) ?_
  clear henv a; intro a henv
  refine wpList_nil ?_
  refine th_n ?_
  refine wp_seq ?_
  refine wp_seq ?_
  refine region_seq ?_
  refine sv (v := .int .i64 0) henv rfl (rn_assign henv rfl) ?_
  clear henv a; intro a henv
  refine wpList_nil ?_
  refine th_n ?_
  refine wp_block ?_
  replace hst := (hst.addRowS notU 36 2).nilEs FN
  replace hst : St w0 _ [rowS notU 36 2 none 0 0 (fl fN ([]))] [pfEs FN ([]), pfRow fU FU 2 A0 n0 c0 es0] := hst
  replace hst := (hst.addRowS notU 39 2).nilEs FM
  replace hst : St w0 _ [rowS notU 39 2 none 0 0 (fl fM ([])), rowS notU 36 2 none 0 0 (fl fN ([]))] [pfEs FM ([]), pfEs FN ([]), pfRow fU FU 2 A0 n0 c0 es0] := hst
  refine wp_loop_ghost (fun mz a w => ∃ j : Nat, ∃ B1 : Option Addr, ∃ d1 : Nat, ∃ os : List NE, ∃ B2 : Option Addr, ∃ d2 : Nat, ∃ ps : List NE, n0 - j = mz ∧ Env 43 a [(0, .slice A0 n0 c0), (2, .slice none 0 0), (3, .slice none 0 0), (4, .slice B1 j d1), (5, .slice B2 j d2), (6, .int .i64 (j : Nat))] ∧ St w0 w [rowS notU 39 2 B2 j d2 (fl fM ps), rowS notU 36 2 B1 j d1 (fl fN os)] [pfEs FM ps, pfEs FN os, pfRow fU FU 2 A0 n0 c0 es0] ∧ j ≤ n0 ∧ os.map zz = (es0.map vz).take j ∧ ps.map zz = (es0.map vz).take j) _ ⟨0, none, 0, [], none, 0, [], rfl, henv.sub ⟨rfl, rfl, rfl, rfl, rfl, rfl, trivial⟩, hst.pick [0, 1] [0, 1, 2] (by decide), (Nat.zero_le _), rfl, rfl⟩ ?_
  clear henv hst a
  rintro mz a w1 ⟨j, B1, d1, os, B2, d2, ps, rfl, henv, hst, hj, ho, hp⟩
  refine wp_seq ?_
  refine wp_seq ?_
  refine region_seq ?_
  revert a
  refine mA rfl rfl ?_
  refine mA rfl rfl ?_
  refine sA (v := .int .i64 (n0 : Nat)) rfl (fun _ henv => rn_len henv Tryd.underlying22 rfl) ?_
  refine sA (v := .bool (decide (((j : Nat) : Int) < ((n0 : Nat) : Int)))) rfl (fun _ henv => rn_bin henv rfl rfl rfl) ?_
  intro a henv
  refine wpList_nil ?_
  refine th_n ?_
  refine if_split henv rfl (fun hc2 => ?_) (fun hc2 => ?_)
  · have hlt : j < n0 := by have := of_decide_eq_true hc2; omega
    obtain ⟨⟨b, B, q, d, xs⟩, he0⟩ : ∃ e, es0[j]? = some e := ⟨_, List.getElem?_eq_getElem (by omega)⟩
    have hq1 : q ≤ 1000000 := hsm _ (List.mem_of_getElem? he0)
    obtain ⟨z, hzv⟩ : ∃ z, sg b (val 4294967296 xs) = z := ⟨_, rfl⟩
    replace hst := hst.elem (k := 2) rfl he0
    replace hst : St w0 _ [rowS notU 39 2 B2 j d2 (fl fM ps), rowS notU 36 2 B1 j d1 (fl fN os)] [pfU B q d xs, pfEs FM ps, pfEs FN os, pfRow fU FU 2 A0 n0 c0 es0] := hst
    refine wp_skip ?_
    refine th_n ?_
    refine wp_seq ?_
    refine wp_block ?_
    refine wp_seq ?_
    refine region_any (n := 15) (Sk [rowS notU 39 2 B2 j d2 (fl fM ps)] [pfU B q d xs, pfEs FM ps, pfEs FN os, pfRow fU FU 2 A0 n0 c0 es0] [] []) mixed rfl henv hst ?_
    clear henv hst; intro w3 henv hst
    refine tM (i := 0) [13, 14] rfl (by kernel_rfl) (fun _ _ _ h => h) henv rfl rfl ?_
    clear henv a; intro a henv
    refine tM (i := 1) [3, 4, 5, 11, 12, 13, 14] rfl (by kernel_rfl) (fun _ _ _ h => h) henv rfl rfl ?_
    clear henv a; intro a henv
    refine tM (i := 2) [3, 4, 5, 11, 12, 13, 14] rfl (by kernel_rfl) (fun _ _ _ h => h) henv rfl rfl ?_
    clear henv a; intro a henv
    refine sAny_take (i := 3) [4, 5, 11, 12, 13, 14] (fun w' => (pfRow fU FU 2 A0 n0 c0 es0).P w') (v := .pointer (some ⟨ab A0, ao A0 + j * 2, none⟩)) rfl (by kernel_rfl) (fun _ _ _ h => h) (fun _ _ _ hS => hS.1.pat (k := 3) rfl) henv rfl (hst.pat (k := 3) rfl) (fun w' hg => rn_idxR (i := j) henv Tryd.underlying22 (ty_anvil_anvillaw04_Num.size) rfl rfl (by omega) rfl (show (pfRow fU FU 2 A0 n0 c0 es0).P _ from hg).1) ?_
    clear henv a; intro a henv
    refine tA (i := 4) [5, 11, 12, 13, 14] (v := .pointer (some ⟨ab A0, ao A0 + j * 2 + 0, none⟩)) rfl (by kernel_rfl) (fun _ _ _ h => h) henv rfl (fun _ => rn_fieldAddr henv fd_anvil_anvillaw04_Num_0 (ty_bool.size) (by decide) rfl) ?_
    clear henv a; intro a henv
    refine sAny_take (i := 5) [11, 12, 13, 14] (fun w' => (pfRow fU FU 2 A0 n0 c0 es0).P w') (v := .bool b) rfl (by kernel_rfl) (fun _ _ _ h => h) (fun _ _ _ hS => hS.1.pat (k := 3) rfl) henv rfl (hst.pat (k := 3) rfl) (fun w' hg => rn_loadE1 (i := j) (j := 0) (e := (b, B, q, d, xs)) henv ty_bool rfl rfl fU_len (by decide) (show (pfRow fU FU 2 A0 n0 c0 es0).P _ from hg).1 (by omega) he0 rfl) ?_
    clear henv a; intro a henv
    refine tM (i := 6) (rg 8 7) rfl (by kernel_rfl) (fun _ _ _ h => h) henv rfl rfl ?_
    clear henv a; intro a henv
    refine tM (i := 7) (rg 8 7) rfl (by kernel_rfl) (fun _ _ _ h => h) henv rfl rfl ?_
    clear henv a; intro a henv
    refine sAny_take (i := 8) [9, 10, 11, 12, 13, 14] (fun w' => (pfRow fU FU 2 A0 n0 c0 es0).P w') (v := .pointer (some ⟨ab A0, ao A0 + j * 2, none⟩)) rfl (by kernel_rfl) (fun _ _ _ h => h) (fun _ _ _ hS => hS.1.pat (k := 3) rfl) henv rfl (hst.pat (k := 3) rfl) (fun w' hg => rn_idxR (i := j) henv Tryd.underlying22 (ty_anvil_anvillaw04_Num.size) rfl rfl (by omega) rfl (show (pfRow fU FU 2 A0 n0 c0 es0).P _ from hg).1) ?_
    clear henv a; intro a henv
    refine tA (i := 9) (rg 10 5) (v := .pointer (some ⟨ab A0, ao A0 + j * 2 + 1, none⟩)) rfl (by kernel_rfl) (fun _ _ _ h => h) henv rfl (fun _ => rn_fieldAddr henv fd_anvil_anvillaw04_Num_1 (ty__uint32.size) (by decide) rfl) ?_
    clear henv a; intro a henv
    refine sAny_take (i := 10) [11, 12, 13, 14] (fun w' => (pfRow fU FU 2 A0 n0 c0 es0).P w') (v := .slice B q d) rfl (by kernel_rfl) (fun _ _ _ h => h) (fun _ _ _ hS => hS.1.pat (k := 3) rfl) henv rfl (hst.pat (k := 3) rfl) (fun w' hg => rn_loadE1 (i := j) (j := 1) (e := (b, B, q, d, xs)) henv ty__uint32 rfl rfl fU_len (by decide) (show (pfRow fU FU 2 A0 n0 c0 es0).P _ from hg).1 (by omega) he0 rfl) ?_
    clear henv a; intro a henv
    refine sAny_one (i := 11) (by kernel_rfl) rfl rfl (op_call henv rfl Tryd.call19 rfl (make_zv (show U32 _ B q d xs from hst.pat (k := 0) rfl) hzv hq1) ?_)
    rintro e w7 ⟨_, rfl, ⟨A4, c5, rfl, hz6⟩, hb⟩
    refine ⟨_, rfl, ?_⟩
    clear henv a; intro a henv
    replace hst := (hst.call hb).addZ hz6 ⟨nou_rowS, nou_rowS, trivial⟩
    clear hz6
    clear hb
    refine ⟨.inr ⟨hst.kn.pick [0] (rg 1 4), .inr (hst.kn.pick [] [])⟩, ?_⟩
    refine sAny_one (i := 12) (by kernel_rfl) rfl rfl (op_buildSlice (z := 2) (pv := #[(0, .agg #[.bool (neg z), .slice A4 (zl z) c5])]) (c := #[.bool (neg z), .slice A4 (zl z) c5]) henv hst rfl Tryd.underlying30 (ty_anvil_integer_Int.size) zero_anvil_integer_Int (by decide) (by decide) rfl (by kernel_rfl) ?_)
    clear henv hst a; intro a w9 g8 henv hst
    refine ⟨.inr ⟨hst.kn.pick [1] (rg 1 4), .inr (hst.kn.pick [] [])⟩, ?_⟩
    refine sAny_one (i := 13) (by kernel_rfl) rfl rfl (op_appendS (k := 2) (j := 0) henv hst rfl Tryd.underlying30 inf_anvil_integer_Int rfl rfl rfl rfl rfl rfl rfl rfl rfl rfl rfl (by unfold maxLen; omega) (by omega) ?_)
    clear henv hst a; intro a w12 g10 c11 henv hst
    rw [show fl fN os ++ (#[.bool (neg z), .slice A4 (zl z) c5] : Array Value).toList = fl fN (os ++ [(A4, c5, z)]) from fl_snoc (f := fN) os (A4, c5, z)] at hst
    replace hst := hst.snocEs (e := (A4, c5, z)) (i := 3) (j := 0) rfl rfl
    refine ⟨.inr ⟨hst.kn.pick [1] (rg 2 4), .inr (hst.kn.pick [] [])⟩, ?_⟩
    refine tA (i := 14) [] (v := .slice (some ⟨g10, 0, none⟩) (j + 1) c11) rfl (by kernel_rfl) (fun _ _ _ h => h) henv rfl (fun _ => rn_assign henv rfl) ?_
    clear henv a; intro a henv
    refine sAny_done (by kernel_rfl) ?_ _
    refine th_n ?_
    refine region_any (n := 15) (Sk [bk g8 #[.bool (neg z), .slice A4 (zl z) c5] 36, rowS notU 36 2 (some ⟨g10, 0, none⟩) (j + 1) c11 (fl fN (os ++ [(A4, c5, z)]))] [pfEs FN (os ++ [(A4, c5, z)]), pfZ A4 c5 z, pfU B q d xs, pfEs FM ps, pfEs FN os, pfRow fU FU 2 A0 n0 c0 es0] [] []) mixed rfl henv hst ?_
    clear henv hst; intro w13 henv hst
    refine tM (i := 0) [13, 14] rfl (by kernel_rfl) (fun _ _ _ h => h) henv rfl rfl ?_
    clear henv a; intro a henv
    refine tM (i := 1) [3, 4, 5, 11, 12, 13, 14] rfl (by kernel_rfl) (fun _ _ _ h => h) henv rfl rfl ?_
    clear henv a; intro a henv
    refine tM (i := 2) [3, 4, 5, 11, 12, 13, 14] rfl (by kernel_rfl) (fun _ _ _ h => h) henv rfl rfl ?_
    clear henv a; intro a henv
    refine sAny_take (i := 3) [4, 5, 11, 12, 13, 14] (fun w' => (pfRow fU FU 2 A0 n0 c0 es0).P w') (v := .pointer (some ⟨ab A0, ao A0 + j * 2, none⟩)) rfl (by kernel_rfl) (fun _ _ _ h => h) (fun _ _ _ hS => hS.1.pat (k := 5) rfl) henv rfl (hst.pat (k := 5) rfl) (fun w' hg => rn_idxR (i := j) henv Tryd.underlying22 (ty_anvil_anvillaw04_Num.size) rfl rfl (by omega) rfl (show (pfRow fU FU 2 A0 n0 c0 es0).P _ from hg).1) ?_
    clear henv a; intro a henv
    refine tA (i := 4) [5, 11, 12, 13, 14] (v := .pointer (some ⟨ab A0, ao A0 + j * 2 + 0, none⟩)) rfl (by kernel_rfl) (fun _ _ _ h => h) henv rfl (fun _ => rn_fieldAddr henv fd_anvil_anvillaw04_Num_0 (ty_bool.size) (by decide) rfl) ?_
    clear henv a; intro a henv
    refine sAny_take (i := 5) [11, 12, 13, 14] (fun w' => (pfRow fU FU 2 A0 n0 c0 es0).P w') (v := .bool b) rfl (by kernel_rfl) (fun _ _ _ h => h) (fun _ _ _ hS => hS.1.pat (k := 5) rfl) henv rfl (hst.pat (k := 5) rfl) (fun w' hg => rn_loadE1 (i := j) (j := 0) (e := (b, B, q, d, xs)) henv ty_bool rfl rfl fU_len (by decide) (show (pfRow fU FU 2 A0 n0 c0 es0).P _ from hg).1 (by omega) he0 rfl) ?_
    clear henv a; intro a henv
    refine tM (i := 6) (rg 8 7) rfl (by kernel_rfl) (fun _ _ _ h => h) henv rfl rfl ?_
    clear henv a; intro a henv
    refine tM (i := 7) (rg 8 7) rfl (by kernel_rfl) (fun _ _ _ h => h) henv rfl rfl ?_
    clear henv a; intro a henv
    refine sAny_take (i := 8) [9, 10, 11, 12, 13, 14] (fun w' => (pfRow fU FU 2 A0 n0 c0 es0).P w') (v := .pointer (some ⟨ab A0, ao A0 + j * 2, none⟩)) rfl (by kernel_rfl) (fun _ _ _ h => h) (fun _ _ _ hS => hS.1.pat (k := 5) rfl) henv rfl (hst.pat (k := 5) rfl) (fun w' hg => rn_idxR (i := j) henv Tryd.underlying22 (ty_anvil_anvillaw04_Num.size) rfl rfl (by omega) rfl (show (pfRow fU FU 2 A0 n0 c0 es0).P _ from hg).1) ?_
    clear henv a; intro a henv
    refine tA (i := 9) (rg 10 5) (v := .pointer (some ⟨ab A0, ao A0 + j * 2 + 1, none⟩)) rfl (by kernel_rfl) (fun _ _ _ h => h) henv rfl (fun _ => rn_fieldAddr henv fd_anvil_anvillaw04_Num_1 (ty__uint32.size) (by decide) rfl) ?_
    clear henv a; intro a henv
    refine sAny_take (i := 10) [11, 12, 13, 14] (fun w' => (pfRow fU FU 2 A0 n0 c0 es0).P w') (v := .slice B q d) rfl (by kernel_rfl) (fun _ _ _ h => h) (fun _ _ _ hS => hS.1.pat (k := 5) rfl) henv rfl (hst.pat (k := 5) rfl) (fun w' hg => rn_loadE1 (i := j) (j := 1) (e := (b, B, q, d, xs)) henv ty__uint32 rfl rfl fU_len (by decide) (show (pfRow fU FU 2 A0 n0 c0 es0).P _ from hg).1 (by omega) he0 rfl) ?_
    clear henv a; intro a henv
    refine sAny_one (i := 11) (by kernel_rfl) rfl rfl (op_call henv rfl Tryd.call20 rfl (make_rv (show U32 _ B q d xs from hst.pat (k := 2) rfl) hzv hq1) ?_)
    rintro e w17 ⟨_, rfl, ⟨A14, c15, rfl, hz16⟩, hb⟩
    refine ⟨_, rfl, ?_⟩
    clear henv a; intro a henv
    replace hst := (hst.call hb).addR hz16 ⟨nou_bk rfl, nou_rowS, nou_rowS, trivial⟩
    clear hz16
    clear hb
    refine ⟨.inr ⟨hst.kn.pick [0, 2] (rg 1 6), .inr (hst.kn.pick [] [])⟩, ?_⟩
    refine sAny_one (i := 12) (by kernel_rfl) rfl rfl (op_buildSlice (z := 2) (pv := #[(0, .agg #[.bool (neg z), .slice A14 (dl z) c15])]) (c := #[.bool (neg z), .slice A14 (dl z) c15]) henv hst rfl Tryd.underlying32 (ty_anvil_anvilref02_Int.size) zero_anvil_anvilref02_Int (by decide) (by decide) rfl (by kernel_rfl) ?_)
    clear henv hst a; intro a w19 g18 henv hst
    refine ⟨.inr ⟨hst.kn.pick [1, 3] (rg 1 6), .inr (hst.kn.pick [] [])⟩, ?_⟩
    refine sAny_one (i := 13) (by kernel_rfl) rfl rfl (op_appendS (k := 2) (j := 0) henv hst rfl Tryd.underlying32 inf_anvil_anvilref02_Int rfl rfl rfl rfl rfl rfl rfl rfl rfl rfl rfl (by unfold maxLen; omega) (by omega) ?_)
    clear henv hst a; intro a w22 g20 c21 henv hst
    rw [show fl fM ps ++ (#[.bool (neg z), .slice A14 (dl z) c15] : Array Value).toList = fl fM (ps ++ [(A14, c15, z)]) from fl_snoc (f := fM) ps (A14, c15, z)] at hst
    replace hst := hst.snocEs (e := (A14, c15, z)) (i := 4) (j := 0) rfl rfl
    refine ⟨.inr ⟨hst.kn.pick [1, 3] (rg 2 6), .inr (hst.kn.pick [] [])⟩, ?_⟩
    refine tA (i := 14) [] (v := .slice (some ⟨g20, 0, none⟩) (j + 1) c21) rfl (by kernel_rfl) (fun _ _ _ h => h) henv rfl (fun _ => rn_assign henv rfl) ?_
    clear henv a; intro a henv
    refine sAny_done (by kernel_rfl) ?_ _
    refine bl_n (th_n ?_)
    refine region_seq ?_
    revert a
    refine mA rfl rfl ?_
    refine sA (v := .int .i64 (j + 1 : Nat)) rfl (fun _ henv => rn_add henv rfl rfl (by rw [IntWalk.i64_in _ (by omega)]; omega)) ?_
    refine aA rfl rfl ?_
    intro a henv
    refine wpList_nil ?_
    exact th_n ⟨_, (by omega), ⟨j + 1, (some ⟨g10, 0, none⟩), c11, (os ++ [(A4, c5, z)]), (some ⟨g20, 0, none⟩), c21, (ps ++ [(A14, c15, z)]), rfl, henv.sub ⟨rfl, rfl, rfl, rfl, rfl, rfl, trivial⟩, hst.pick [2, 3] [0, 2, 7] (by decide), (by omega), (step_num ho he0 hzv), (step_num hp he0 hzv)⟩⟩
  · have hjn : j = n0 := by have := of_decide_eq_false hc2; omega
    refine wp_exit ?_
    refine th_x (th_x (bl_x (th_n ?_)))
    refine wp_seq ?_
    refine region_seq ?_
    revert a
    refine mA rfl rfl ?_
    refine mA rfl rfl ?_
    refine aA rfl rfl ?_
    refine aA rfl rfl ?_
    intro a henv
    refine wpList_nil ?_
    refine th_n ?_
    refine wp_ret ?_
    refine leave henv (res2 Tryd.results18 (RV.tmp henv rfl) (RV.tmp henv rfl)) ?_
    have hfull : (es0.map vz).take j = es0.map vz := List.take_of_length_le (by rw [List.length_map]; omega)
    rw [hfull] at ho hp
    exact ⟨_, _, rfl, ⟨_, _, os, congrArg (fun k => Value.slice _ k _) hjn, (hjn ▸ hst.newRow (k := 1) (j := 1) rfl rfl), map_len ho (by rw [List.length_map]; omega), ho⟩, ⟨_, _, ps, congrArg (fun k => Value.slice _ k _) hjn, (hjn ▸ hst.newRow (k := 0) (j := 0) rfl rfl), map_len hp (by rw [List.length_map]; omega), hp⟩, hst.below⟩
set_option maxRecDepth 100000 in
set_option maxHeartbeats 2000000 in
theorem num_one {A B : Option Addr} {c d : Nat} {z : Int} {w0 : World} (hx : ZIn w0 A c z) (hy : RIn w0 B d z) (hn : zl z ≤ 100000) :
    Calls Tryd.prog 35 #[.agg #[.bool (neg z), .slice A (zl z) c], .agg #[.bool (neg z), .slice B (dl z) d]] w0 fun e w' => e = .returned (.bool true) ∧ Below w0.heap.size w0 w' := by
  refine enter Tryd.func35 rfl Tryd.ntmps35 rfl ?_
  intro a henv hst
  have hdl : dl z ≤ 2 * zl z := dl_zl z
  replace hst := (hst.addZ hx trivial).addR hy trivial
  clear hx hy
  refine wp_seq ?_
  refine region_seq ?_
  refine seq_step rfl (op_box (c := #[.bool (neg z), .slice A (zl z) c]) henv hst rfl rfl rfl ?_)
  clear henv hst a; intro a w2 g1 henv hst
  refine seq_step rfl (op_box (c := #[.bool (neg z), .slice B (dl z) d]) henv hst rfl rfl rfl ?_)
  clear henv hst a; intro a w4 g3 henv hst
  refine sv (v := .bool false) henv rfl (rn_assign henv rfl) ?_
  clear henv a; intro a henv
  refine wpList_nil ?_
  refine th_n ?_
  refine wp_seq ?_
  refine region_seq ?_
  refine sv (v := .agg #[.bool (neg z), .slice A (zl z) c]) henv rfl (rn_load0 henv ty_anvil_integer_Int rfl (hst.oat (k := 1) rfl) rfl) ?_
  clear henv a; intro a henv
  refine seq_step rfl (op_call henv rfl Tryd.call106 rfl (limbs_z (z := z) (show ZIn _ A c z from hst.pat (k := 1) rfl) (by omega)) ?_)
  rintro e w8 ⟨A5, c6, rfl, hz7, -, hb⟩
  refine ⟨_, rfl, ?_⟩
  clear henv a; intro a henv
  replace hst := (hst.call hb).addZ hz7 ⟨nou_bk rfl, nou_bk rfl, trivial⟩
  clear hz7
  clear hb
  revert a
  refine mA rfl rfl ?_
  refine sA (v := .bool (neg z)) rfl (fun _ henv => rn_extract henv rfl rfl) ?_
  refine sA (v := .slice A5 (zl z) c6) rfl (fun _ henv => rn_extract henv rfl rfl) ?_
  refine aA rfl rfl ?_
  refine aA rfl rfl ?_
  intro a henv
  refine wpList_nil ?_
  refine th_n ?_
  refine wp_seq ?_
  refine region_any (n := 13) (Sk [bk g3 #[.bool (neg z), .slice B (dl z) d] 39, bk g1 #[.bool (neg z), .slice A (zl z) c] 36] [pfZ A5 c6 z, pfR B d z, pfZ A c z] [] []) mixed rfl henv hst ?_
  clear henv hst; intro w9 henv hst
  refine tM (i := 0) [2, 4, 5, 6, 7, 8, 9, 10, 11, 12] rfl (by kernel_rfl) (fun _ _ _ h => h) henv rfl rfl ?_
  clear henv a; intro a henv
  refine tM (i := 1) [2, 4, 5, 6, 7, 8, 9, 10, 11, 12] rfl (by kernel_rfl) (fun _ _ _ h => h) henv rfl rfl ?_
  clear henv a; intro a henv
  refine tL (i := 3) 0 0 (rg 4 9) rfl (by kernel_rfl) (fun _ _ _ h => h) henv rfl ty_anvil_anvilref02_Int rfl hst rfl rfl rfl ?_
  clear henv a; intro a henv
  refine sAny_one (i := 2) (by kernel_rfl) rfl rfl (op_call henv rfl Tryd.call20 rfl (make_rz (z := z) (show ZIn _ A5 c6 z from hst.pat (k := 0) rfl) (by omega)) ?_)
  rintro e w13 ⟨_, rfl, ⟨A10, c11, rfl, hz12⟩, hb⟩
  refine ⟨_, rfl, ?_⟩
  clear henv a; intro a henv
  replace hst := (hst.call hb).addR hz12 ⟨nou_bk rfl, nou_bk rfl, trivial⟩
  clear hz12
  clear hb
  refine ⟨.inr ⟨hst.kn.pick [0, 1] [1, 2, 3], .inr (hst.kn.pick [] [])⟩, ?_⟩
  refine sAny_one (i := 4) (by kernel_rfl) rfl rfl (op_call henv rfl Tryd.call107 rfl (same_rb4 (x := z) (y := z) (show RIn _ A10 c11 z from hst.pat (k := 0) rfl) (show RIn _ B d z from hst.pat (k := 2) rfl)) ?_)
  rintro e w14 ⟨rfl, hb⟩
  refine ⟨_, rfl, ?_⟩
  clear henv a; intro a henv
  replace hst := hst.call hb
  clear hb
  refine ⟨.inr ⟨hst.kn.pick [0, 1] [1, 2, 3], .inr (hst.kn.pick [] [])⟩, ?_⟩
  rw [show (decide (z = z)) = true from (decide_eq_true rfl)] at henv
  refine tM (i := 5) (rg 6 7) rfl (by kernel_rfl) (fun _ _ _ h => h) henv rfl rfl ?_
  clear henv a; intro a henv
  refine tLg (i := 6) 1 1 [7, 9, 10, 11, 12] rfl (by kernel_rfl) (fun _ _ _ h => h) henv rfl rfl rfl rfl ty_anvil_integer_Int rfl hst rfl rfl rfl ?_
  clear henv a; intro a henv
  refine tLg (i := 8) 0 0 (rg 9 4) rfl (by kernel_rfl) (fun _ _ _ h => h) henv rfl rfl rfl rfl ty_anvil_anvilref02_Int rfl hst rfl rfl rfl ?_
  clear henv a; intro a henv
  refine sAny_oneg (i := 7) (by kernel_rfl) rfl rfl henv rfl rfl rfl (op_call henv rfl Tryd.call31 rfl (sign_z (z := z)) ?_)
  rintro e w15 ⟨rfl, hb⟩
  refine ⟨_, rfl, ?_⟩
  clear henv a; intro a henv
  replace hst := hst.call hb
  clear hb
  refine ⟨.inr ⟨hst.kn.pick [0, 1] [1, 2, 3], .inr (hst.kn.pick [] [])⟩, ?_⟩
  refine sAny_oneg (i := 9) (by kernel_rfl) rfl rfl henv rfl rfl rfl (op_call henv rfl Tryd.call82 rfl (sign_r (z := z)) ?_)
  rintro e w16 ⟨rfl, hb⟩
  refine ⟨_, rfl, ?_⟩
  clear henv a; intro a henv
  replace hst := hst.call hb
  clear hb
  refine ⟨.inr ⟨hst.kn.pick [0, 1] [1, 2, 3], .inr (hst.kn.pick [] [])⟩, ?_⟩
  refine tAg (i := 10) [11, 12] (v := .bool (z.sign == z.sign)) rfl (by kernel_rfl) (fun _ _ _ h => h) henv rfl rfl rfl rfl (fun _ => rn_bin henv rfl rfl rfl) ?_
  clear henv a; intro a henv
  rw [show (z.sign == z.sign) = true from (beq_self_eq_true _)] at henv
  refine tA (i := 11) [12] (v := .bool true) rfl (by kernel_rfl) (fun _ _ _ h => h) henv rfl (fun _ => rn_pick henv rfl rfl) ?_
  clear henv a; intro a henv
  refine tA (i := 12) [] (v := .bool true) rfl (by kernel_rfl) (fun _ _ _ h => h) henv rfl (fun _ => rn_assign henv rfl) ?_
  clear henv a; intro a henv
  refine sAny_done (by kernel_rfl) ?_ _
  refine th_n ?_
  refine wp_ret ?_
  refine leave henv (res1 Tryd.results35 (RV.tmp henv rfl)) ?_
  exact ⟨rfl, hst.below⟩
end Go.Proofs.YtegglooojlheoaaDoor.W

/- row.Cmp, Same; the reference's Cmp, Same, IsZero. Printed by pv/gen_row5.py. No condition. -/
namespace Go.Proofs.YtegglooojlheoaaDoor.W
open Go.RowKit Anv Go.Lib
def lexc : List Int → List Int → Int
  | x :: xs, y :: ys => if (x - y).sign = 0 then lexc xs ys else (x - y).sign
  | _, _ => 0
def cmpR (xs ys : List Int) : Int := if xs.length < ys.length then -1 else if ys.length < xs.length then 1 else lexc xs ys
end Go.Proofs.YtegglooojlheoaaDoor.W

/- row.Widest, anvilref04.Widest. Printed by pv/gen_row6.py. No condition. -/
namespace Go.Proofs.YtegglooojlheoaaDoor.W
open Go.RowKit Anv Go.Lib
def wid (zs : List Int) : Int := zs.foldl (fun w z => if w < (z.natAbs : Int) then (z.natAbs : Int) else w) 0
end Go.Proofs.YtegglooojlheoaaDoor.W

/- What the law RowHolds needs, with no program in sight but the shape of the memory. No condition. -/
namespace Go.Proofs.YtegglooojlheoaaDoor.W
open Go.RowKit Anv Go.Lib
theorem St.fresh2 {α β : Type} {f : α → List Value} {F : α → PF} {f' : β → List Value} {F' : β → PF} {es : List α} {es' : List β} {q q' : Value → Bool} {E E' z z' n n' c c' : Nat} {A A' : Option Addr} {w0 w w' : World} {own ps : List PF} (h : St w0 w own ps) (hb : Below w.heap.size w w')
    (hr : NewRow q E z f F w.heap.size w' A n c es) (hl : es.length = n) (hE : ∀ o ∈ own, ∀ b, o.foot b → o.P w' → ¬ (pfEs F es).foot b)
    (hr' : NewRow q' E' z' f' F' w.heap.size w' A' n' c' es') (hl' : es'.length = n') (hE' : ∀ o ∈ own, ∀ b, o.foot b → o.P w' → ¬ (pfEs F' es').foot b) :
    St w0 w' own (pfRow f' F' z' A' n' c' es' :: pfRow f F z A n c es :: ps) :=
  (h.freshRd hb hr hl hE).addP _ ((h.freshRd hb hr' hl' hE').pat (k := 0) rfl) fun o ho b h1 h2 => (h.freshRd hb hr' hl' hE').apart _ (List.mem_cons_self ..) o ho b h1 h2
theorem tl_mem {us : List UE} {e : UE} (h : e ∈ us) : e.2.2.1 ≤ tl us := by
  induction us with
  | nil => cases h
  | cons x us ih =>
    unfold tl at *
    rw [List.map_cons, List.sum_cons]
    rcases List.mem_cons.1 h with rfl | h
    · omega
    · have := ih h; omega
end Go.Proofs.YtegglooojlheoaaDoor.W

/- What the laws of rows need of the memory: rows of rows written out, numbers written out, sizes. No program but the shape of the memory. No condition. -/
namespace Go.Proofs.YtegglooojlheoaaDoor.W
open Go.RowKit Anv Go.Lib
theorem pv3 {w : World} {g : Nat} {v0 v1 v2 : VE} {t : TypeId} (h : w.heap[g]? = some (.cells #[.slice v0.1 v0.2.1 v0.2.2.1, .slice v1.1 v1.2.1 v1.2.2.1, .slice v2.1 v2.2.1 v2.2.2.1] t (0, 0))) (h0 : (FV v0).P w) (h1 : (FV v1).P w) (h2 : (FV v2).P w) : (pfRow fV FV 1 (some ⟨g, 0, none⟩) 3 3 [v0, v1, v2]).P w := by
  refine ⟨⟨rfl, Nat.le_refl _, by decide, fun _ => ⟨g, 0, rfl, lt_of_block h, fun i _ => by rw [Nat.zero_add, cell_of_row w g i _ t (0, 0) h, ← Array.getElem?_toList]; rfl⟩⟩, rfl, fun e he => ?_⟩
  rcases List.mem_cons.1 he with rfl | he
  · exact h0
  rcases List.mem_cons.1 he with rfl | he
  · exact h1
  · rw [List.mem_singleton.1 he]; exact h2
theorem pu2 {w : World} {g : Nat} {e0 e1 : UE} {t : TypeId} (h : w.heap[g]? = some (.cells #[.bool e0.1, .slice e0.2.1 e0.2.2.1 e0.2.2.2.1, .bool e1.1, .slice e1.2.1 e1.2.2.1 e1.2.2.2.1] t (0, 0))) (h0 : (FU e0).P w) (h1 : (FU e1).P w) : (pfRow fU FU 2 (some ⟨g, 0, none⟩) 2 2 [e0, e1]).P w := by
  refine ⟨⟨rfl, Nat.le_refl _, by decide, fun _ => ⟨g, 0, rfl, lt_of_block h, fun i _ => by rw [Nat.zero_add, cell_of_row w g i _ t (0, 0) h, ← Array.getElem?_toList]; rfl⟩⟩, rfl, fun e he => ?_⟩
  rcases List.mem_cons.1 he with rfl | he
  · exact h0
  · rw [List.mem_singleton.1 he]; exact h1
theorem sz_nil : Sz [] := fun _ h => by cases h
theorem sz_cons {e : UE} {es : List UE} (h : e.2.2.1 ≤ 35184372088832) (k : Sz es) : Sz (e :: es) := fun x hx => by
  rcases List.mem_cons.1 hx with rfl | hx
  · exact h
  · exact k x hx
theorem lg_nil : ∀ v ∈ ([] : List VE), v.2.1 ≤ 35184372088832 ∧ Sz v.2.2.2 := fun _ h => by cases h
theorem lg_cons {v : VE} {l : List VE} (h : v.2.1 ≤ 35184372088832) (hs : Sz v.2.2.2) (k : ∀ v ∈ l, v.2.1 ≤ 35184372088832 ∧ Sz v.2.2.2) : ∀ x ∈ v :: l, x.2.1 ≤ 35184372088832 ∧ Sz x.2.2.2 := fun x hx => by
  rcases List.mem_cons.1 hx with rfl | hx
  · exact ⟨h, hs⟩
  · exact k x hx
theorem tv_three {A B : Option Addr} {n m c d : Nat} {us ws : List UE} {C : Option Addr} {k e : Nat} {e2 e3 : UE} (h : tv [(A, n, c, us), (B, m, d, ws), (C, k, e, [e2, e3])] ≤ 300) : n ≤ 300 ∧ m ≤ 300 ∧ tl us ≤ 300 ∧ tl ws ≤ 300 ∧ e2.2.2.1 ≤ 300 ∧ e3.2.2.1 ≤ 300 := by
  simp [tv, tl] at h
  unfold tl
  omega
theorem zl_vze {w : World} {b : Bool} {A : Option Addr} {n c k : Nat} {xs : List Nat} (h : U32 w A n c xs) (hn : n ≤ k) : zl (sg b (val 4294967296 xs)) ≤ k := by
  have h2 := nl_val h
  have e : zl (sg b (val 4294967296 xs)) = nl (val 4294967296 xs) := by
    unfold sg zl
    split
    · rw [Int.natAbs_neg, Int.natAbs_natCast]
    · rw [Int.natAbs_natCast]
  omega
def Zk (k : Nat) (zs : List Int) : Prop := ∀ z ∈ zs, zl z ≤ k
theorem Zk.es {k : Nat} {es : List NE} {zs : List Int} (h : Zk k zs) (e : es.map zz = zs) : ZB k es := fun x hx => h (zz x) (e ▸ List.mem_map_of_mem hx)
theorem Zk.mono {k m : Nat} {zs : List Int} (h : Zk k zs) (hm : k ≤ m) : Zk m zs := fun z hz => Nat.le_trans (h z hz) hm
theorem Zk.map {k m : Nat} {zs : List Int} {f : Int → Int} (h : Zk k zs) (hf : ∀ z, zl z ≤ k → zl (f z) ≤ m) : Zk m (zs.map f) := fun x hx => by
  obtain ⟨z, hz, rfl⟩ := List.mem_map.1 hx
  exact hf z (h z hz)
theorem mem_zipWith {f : Int → Int → Int} {x : Int} : ∀ {xs ys : List Int}, x ∈ List.zipWith f xs ys → ∃ a ∈ xs, ∃ b ∈ ys, x = f a b
  | [], _, h => by simp at h
  | _ :: _, [], h => by simp at h
  | a :: xs, b :: ys, h => by
    rw [List.zipWith_cons_cons] at h
    rcases List.mem_cons.1 h with rfl | h
    · exact ⟨a, List.mem_cons_self .., b, List.mem_cons_self .., rfl⟩
    · obtain ⟨a, ha, b, hb, e⟩ := mem_zipWith h
      exact ⟨a, List.mem_cons_of_mem _ ha, b, List.mem_cons_of_mem _ hb, e⟩
theorem Zk.zip {k j m : Nat} {xs ys : List Int} {f : Int → Int → Int} (h : Zk k xs) (g : Zk j ys) (hf : ∀ x y, zl x ≤ k → zl y ≤ j → zl (f x y) ≤ m) : Zk m (List.zipWith f xs ys) := fun x hx => by
  obtain ⟨a, ha, b, hb, rfl⟩ := mem_zipWith hx
  exact hf a b (h a ha) (g b hb)
theorem Zk.vz {es : List UE} {k : Nat} {w : World} (h : (pfEs FU es).P w) (ht : tl es ≤ k) : Zk k (es.map vz) := by
  intro z hz
  obtain ⟨e, he, rfl⟩ := List.mem_map.1 hz
  have h1 : U32 w e.2.1 e.2.2.1 e.2.2.2.1 e.2.2.2.2 := h e he
  exact zl_vze h1 (Nat.le_trans (tl_mem he) ht)
theorem zl_sum {k : Nat} : ∀ {zs : List Int}, Zk k zs → zl (sumL zs) ≤ (zs.length) * (k + 1)
  | [], _ => by show zl 0 ≤ _; rw [zl_zero]; omega
  | z :: zs, h => by
    rw [sumL_cons]
    have h1 := zl_sum (zs := zs) fun x hx => h x (List.mem_cons_of_mem _ hx)
    have h2 := zl_add z (sumL zs)
    have h3 := h z (List.mem_cons_self ..)
    rw [List.length_cons, Nat.succ_mul]
    omega
theorem Zk.prim {k : Nat} {zs : List Int} (h : Zk k zs) : Zk k (prim zs) := h.map fun _ hz => Nat.le_trans (zl_ediv _ _) hz
theorem Zk.take {k : Nat} {zs : List Int} (h : Zk k zs) (j : Nat) : Zk k (zs.take j) := fun z hz => h z (List.mem_of_mem_take hz)
end Go.Proofs.YtegglooojlheoaaDoor.W

/- row.Neg, Scale, Combine, Dot, integer.Sum; the reference's Combine, Add, Sub, Scale, Dot; the laws' is, own. Printed by pv/gen_row8.py. No condition. -/
namespace Go.Proofs.YtegglooojlheoaaDoor.W
open Go.RowKit Anv Go.Lib
theorem ztake_snoc {es : List NE} {xs : List Int} {j : Nat} {A : Option Addr} {c : Nat} {z : Int} (hz : es.map zz = xs) (he : es[j]? = some (A, c, z)) : xs.take (j + 1) = xs.take j ++ [z] :=
  take_one (by rw [← hz, List.getElem?_map, he]; rfl)
theorem sumL_step {es : List NE} {xs : List Int} {j : Nat} {A : Option Addr} {c : Nat} {m z : Int} (hz : es.map zz = xs) (hm : m = sumL (xs.take j)) (he : es[j]? = some (A, c, z)) : m + z = sumL (xs.take (j + 1)) := by
  rw [ztake_snoc hz he, sumL_snoc, hm]
theorem sum_sz {xs : List Int} {j n : Nat} {m : Int} (hk : Zk 2000 xs) (hn : n ≤ 300) (hj : j ≤ n) (hm : m = sumL (xs.take j)) : zl m ≤ 700000 := by
  have h1 := zl_sum (hk.take j)
  rw [← hm] at h1
  have h2 : (xs.take j).length * (2000 + 1) ≤ 300 * (2000 + 1) := Nat.mul_le_mul_right _ (Nat.le_trans (List.length_take_le ..) (by omega))
  omega
theorem dot_step {es fs : List NE} {xs ys : List Int} {j : Nat} {A B : Option Addr} {c d : Nat} {m x y : Int} (hz : es.map zz = xs) (hy : fs.map zz = ys) (hm : m = dotL (xs.take j) (ys.take j)) (he : es[j]? = some (A, c, x)) (hf : fs[j]? = some (B, d, y)) : m + x * y = dotL (xs.take (j + 1)) (ys.take (j + 1)) := by
  unfold dotL at *
  rw [← List.take_zipWith, take_one (x := x * y) (by rw [List.getElem?_zipWith, ← hz, ← hy, List.getElem?_map, List.getElem?_map, he, hf]; rfl), sumL_snoc, List.take_zipWith, ← hm]
theorem dot_sz {xs ys : List Int} {j n : Nat} {m : Int} (hk0 : Zk 600 xs) (hk1 : Zk 600 ys) (hn : n ≤ 300) (hj : j ≤ n) (hm : m = dotL (xs.take j) (ys.take j)) : zl m ≤ 370000 := by
  have hz : Zk 1200 (List.zipWith (· * ·) (xs.take j) (ys.take j)) := (hk0.take j).zip (hk1.take j) fun x y h1 h2 => Nat.le_trans (zl_mul x y) (by omega)
  have h1 := zl_sum hz
  have e : sumL (List.zipWith (· * ·) (xs.take j) (ys.take j)) = m := hm.symm
  rw [e] at h1
  have h2 : (List.zipWith (· * ·) (xs.take j) (ys.take j)).length * (1200 + 1) ≤ 300 * (1200 + 1) := Nat.mul_le_mul_right _ (by rw [List.length_zipWith, List.length_take]; omega)
  omega
theorem zl_small {z : Int} {k : Nat} (h : z.natAbs < 4294967296 ^ 1) : zl z ≤ k + 1 := Nat.le_trans (nl_le_of_lt h) (by omega)
theorem zip_one : ∀ (xs ys : List Int), List.zipWith (fun x y => (1 : Int) * x + (1 : Int) * y) xs ys = List.zipWith (· + ·) xs ys := fun xs ys => by
  congr 1; funext x y; rw [Int.one_mul, Int.one_mul]
theorem zip_sub : ∀ (xs ys : List Int), List.zipWith (fun x y => (1 : Int) * x + (-1 : Int) * y) xs ys = List.zipWith (· - ·) xs ys := fun xs ys => by
  congr 1; funext x y; omega
theorem zip_scale (m : Int) : ∀ (xs : List Int), List.zipWith (fun x y => m * x + (0 : Int) * y) xs xs = xs.map (m * ·)
  | [] => rfl
  | x :: xs => by rw [List.zipWith_cons_cons, zip_scale m xs, List.map_cons, Int.zero_mul, Int.add_zero]
theorem same_at {es fs : List NE} {xs : List Int} {j : Nat} {A B : Option Addr} {c d : Nat} {x y : Int} (h : es.map zz = xs) (k : fs.map zz = xs) (he : es[j]? = some (A, c, x)) (hf : fs[j]? = some (B, d, y)) : x = y := by
  have h1 : xs[j]? = some x := by rw [← h, List.getElem?_map, he]; rfl
  have h2 : xs[j]? = some y := by rw [← k, List.getElem?_map, hf]; rfl
  rw [h1] at h2
  exact Option.some.inj h2
set_option maxRecDepth 100000 in
set_option maxHeartbeats 2000000 in
theorem row_neg {A0 : Option Addr} {n0 c0 : Nat} {es0 : List NE} {xs : List Int} {w0 : World} (h0 : (pfRow fN FN 2 A0 n0 c0 es0).P w0) (hz0 : es0.map zz = xs) (hn : n0 ≤ 100000000) :
    Calls Tryd.prog 25 #[.slice A0 n0 c0] w0 fun e w' => ∃ v, e = .returned v ∧ ZRow w0.heap.size w' v n0 (xs.map (- ·)) ∧ Below w0.heap.size w0 w' := by
  subst hz0
  refine enter Tryd.func25 rfl Tryd.ntmps25 rfl ?_
  intro a henv hst
  have hlen0 := h0.2.1
  have hbig0 := Nat.le_trans h0.1.cap h0.1.big
  unfold maxLen at hbig0
  replace hst := hst.argRow h0
  clear h0
  refine wp_seq ?_
  refine region_seq ?_
  refine sv (v := .slice none 0 0) henv rfl (rn_assign henv rfl) ?_
  clear henv a; intro a henv
  refine wpList_nil ?_
  refine th_n ?_
  refine wp_seq ?_
  refine region_seq ?_
  refine sv (v := .slice A0 n0 c0) henv rfl (rn_move henv rfl) ?_
  clear henv a; intro a henv
  refine seq_step rfl (op_call henv rfl Tryd.call102 rfl (row_each (E := pfT0) (g := (- ·)) (first := #[]) (caps := #[]) (hst.pat (k := 0) rfl) trivial Tryd.call103 (fun _ _ _ _ _ _ _ hx => calls_app (by simp) (neg_z hx)) hn) ?_)
  rintro e w57 ⟨_, rfl, ⟨A51, c52, es53, rfl, hr, hl54, hz55⟩, hb⟩
  refine ⟨_, rfl, ?_⟩
  clear henv a; intro a henv
  replace hst := hst.freshRow hb hr (ap_N hr.2.1 ⟨nou_rowS, trivial⟩)
  clear hr
  clear hb
  refine sv (v := .slice A51 n0 c52) henv rfl (rn_assign henv rfl) ?_
  clear henv a; intro a henv
  refine wpList_nil ?_
  refine th_n ?_
  refine wp_ret ?_
  refine leave henv (res1 Tryd.results25 (RV.tmp henv rfl)) ?_
  exact ⟨_, rfl, ⟨_, _, _, rfl, hst.newRow (k := 0) (j := 0) rfl rfl, hl54, hz55⟩, hst.below⟩
set_option maxRecDepth 100000 in
set_option maxHeartbeats 2000000 in
theorem row_scale {A0 : Option Addr} {n0 c0 : Nat} {es0 : List NE} {xs : List Int} {M : Option Addr} {d : Nat} {m : Int} {w0 : World} (h0 : (pfRow fN FN 2 A0 n0 c0 es0).P w0) (hz0 : es0.map zz = xs) (hM : ZIn w0 M d m) (hm : zl m ≤ 10000) (hk : Zk 10000 xs) (hn : n0 ≤ 100000000) :
    Calls Tryd.prog 26 #[.slice A0 n0 c0, .agg #[.bool (neg m), .slice M (zl m) d]] w0 fun e w' => ∃ v, e = .returned v ∧ ZRow w0.heap.size w' v n0 (xs.map (m * ·)) ∧ Below w0.heap.size w0 w' := by
  have hzb := hk.es hz0
  subst hz0
  refine enter Tryd.func26 rfl Tryd.ntmps26 rfl ?_
  intro a henv hst
  replace hst := hst.addZ hM trivial
  have hlen0 := h0.2.1
  have hbig0 := Nat.le_trans h0.1.cap h0.1.big
  unfold maxLen at hbig0
  replace hst := hst.argRow h0
  clear h0
  refine wp_seq ?_
  refine region_seq ?_
  refine seq_step rfl (op_box (c := #[.bool (neg m), .slice M (zl m) d]) henv hst rfl rfl rfl ?_)
  clear henv hst a; intro a w52 g51 henv hst
  refine sv (v := .slice none 0 0) henv rfl (rn_assign henv rfl) ?_
  clear henv a; intro a henv
  refine wpList_nil ?_
  refine th_n ?_
  refine wp_seq ?_
  refine region_seq ?_
  revert a
  refine mA rfl rfl ?_
  refine sA (v := .agg #[.bool (neg m), .slice M (zl m) d]) rfl (fun _ henv => rn_load0 henv ty_anvil_integer_Int rfl (hst.oat (k := 0) rfl) rfl) ?_
  refine sA (v := .func (.func 84) #[.agg #[.bool (neg m), .slice M (zl m) d]] #[]) rfl (fun _ henv => rn_makeFuncB (us := #[.agg #[.bool (neg m), .slice M (zl m) d]]) (vs := #[]) henv rfl rfl) ?_
  intro a henv
  refine seq_step rfl (op_call henv rfl Tryd.call102 rfl (row_each (E := (pfZ M d m)) (g := (m * ·)) (first := #[.agg #[.bool (neg m), .slice M (zl m) d]]) (caps := #[]) (hst.pat (k := 0) rfl) (hst.pat (k := 1) rfl) Tryd.call84 (fun _ _ _ _ _ q1 q2 hx => calls_app (by simp) (mul_z (show ZIn _ M d m from q2) hx (by omega) (by have := hzb.at q1; omega))) hn) ?_)
  rintro e w59 ⟨_, rfl, ⟨A53, c54, es55, rfl, hr, hl56, hz57⟩, hb⟩
  refine ⟨_, rfl, ?_⟩
  clear henv a; intro a henv
  replace hst := hst.freshRow hb hr (ap_N hr.2.1 ⟨nou_rowS, ⟨nou_bk rfl, trivial⟩⟩)
  clear hr
  clear hb
  refine sv (v := .slice A53 n0 c54) henv rfl (rn_assign henv rfl) ?_
  clear henv a; intro a henv
  refine wpList_nil ?_
  refine th_n ?_
  refine wp_ret ?_
  refine leave henv (res1 Tryd.results26 (RV.tmp henv rfl)) ?_
  exact ⟨_, rfl, ⟨_, _, _, rfl, hst.newRow (k := 0) (j := 0) rfl rfl, hl56, hz57⟩, hst.below⟩
set_option maxRecDepth 100000 in
set_option maxHeartbeats 2000000 in
theorem row_comb1 {g1 g2 : Nat} {A B M L : Option Addr} {c d e f : Nat} {x y m l : Int} {w0 : World} (hE : (pfAnd (pfAnd (bk g1 #[.bool (neg m), .slice M (zl m) d] 36) (bk g2 #[.bool (neg l), .slice L (zl l) f] 36)) (pfAnd (pfZ M d m) (pfZ L f l))).P w0) (hx : ZIn w0 A c x) (hy : ZIn w0 B e y) (hm : zl m ≤ 10000) (hl : zl l ≤ 10000) (hx1 : zl x ≤ 10000) (hy1 : zl y ≤ 10000) :
    Calls Tryd.prog 100 #[.agg #[.bool (neg x), .slice A (zl x) c], .agg #[.bool (neg y), .slice B (zl y) e], .pointer (some ⟨g1, 0, none⟩), .pointer (some ⟨g2, 0, none⟩)] w0 fun e w' => ∃ v, e = .returned v ∧ ZAt w' v (m * x + l * y) ∧ Below w0.heap.size w0 w' := by
  refine enter Tryd.func100 rfl Tryd.ntmps100 rfl ?_
  intro a henv hst
  obtain ⟨⟨hb1, hb2⟩, hM, hL⟩ := hE
  replace hst := hst.argP (bk g1 #[.bool (neg m), .slice M (zl m) d] 36) hb1
  replace hst := hst.argP (bk g2 #[.bool (neg l), .slice L (zl l) f] 36) hb2
  replace hst := hst.addZ hM trivial
  replace hst := hst.addZ hL trivial
  replace hst := hst.addZ hx trivial
  replace hst := hst.addZ hy trivial
  replace hst : St w0 _ [] [pfZ B e y, pfZ A c x, pfZ L f l, pfZ M d m, bk g2 #[.bool (neg l), .slice L (zl l) f] 36, bk g1 #[.bool (neg m), .slice M (zl m) d] 36] := hst
  refine wp_seq ?_
  refine region_seq ?_
  refine seq_step rfl (op_box (c := #[.bool (neg x), .slice A (zl x) c]) henv hst rfl rfl rfl ?_)
  clear henv hst a; intro a w52 g51 henv hst
  refine seq_step rfl (op_box (c := #[.bool (neg y), .slice B (zl y) e]) henv hst rfl rfl rfl ?_)
  clear henv hst a; intro a w54 g53 henv hst
  refine seq_step rfl (op_alloc (c := #[.bool (neg 0), .slice none (zl 0) 0]) henv hst rfl zero_anvil_integer_Int zcells ?_)
  clear henv hst a; intro a w56 g55 henv hst
  refine wpList_nil ?_
  refine th_n ?_
  refine wp_seq ?_
  refine region_any (n := 8) (Sk [bk g53 #[.bool (neg y), .slice B (zl y) e] 36, bk g51 #[.bool (neg x), .slice A (zl x) c] 36] [pfZ B e y, pfZ A c x, pfZ L f l, pfZ M d m, bk g2 #[.bool (neg l), .slice L (zl l) f] 36, bk g1 #[.bool (neg m), .slice M (zl m) d] 36] [7] []) mixed rfl henv hst ?_
  clear henv hst; intro w57 henv hst
  refine sAny_take (i := 0) [2, 5, 6, 7] (fun w' => (bk g1 #[.bool (neg m), .slice M (zl m) d] 36).P w') (v := .agg #[.bool (neg m), .slice M (zl m) d]) rfl (by kernel_rfl) (fun _ _ _ h => h) (fun _ _ _ hS => hS.1.pat (k := 5) rfl) henv rfl (hst.pat (k := 5) rfl) (fun w' hg => rn_load0 henv ty_anvil_integer_Int rfl (bkP hg) rfl) ?_
  clear henv a; intro a henv
  refine tL (i := 1) 1 2 [2, 5, 6, 7] rfl (by kernel_rfl) (fun _ _ _ h => h) henv rfl ty_anvil_integer_Int rfl hst rfl rfl rfl ?_
  clear henv a; intro a henv
  refine sAny_take (i := 3) [5, 6, 7] (fun w' => (bk g2 #[.bool (neg l), .slice L (zl l) f] 36).P w') (v := .agg #[.bool (neg l), .slice L (zl l) f]) rfl (by kernel_rfl) (fun _ _ _ h => h) (fun _ _ _ hS => hS.1.pat (k := 4) rfl) henv rfl (hst.pat (k := 4) rfl) (fun w' hg => rn_load0 henv ty_anvil_integer_Int rfl (bkP hg) rfl) ?_
  clear henv a; intro a henv
  refine tL (i := 4) 0 1 [5, 6, 7] rfl (by kernel_rfl) (fun _ _ _ h => h) henv rfl ty_anvil_integer_Int rfl hst rfl rfl rfl ?_
  clear henv a; intro a henv
  have hs58 := zl_mul m x
  refine sAny_one (i := 2) (by kernel_rfl) rfl rfl (op_call henv rfl Tryd.call84 rfl (mul_z (x := m) (y := x) (show ZIn _ M d m from hst.pat (k := 3) rfl) (show ZIn _ A c x from hst.pat (k := 1) rfl) (by omega) (by omega)) ?_)
  rintro e w62 ⟨_, rfl, ⟨A59, c60, rfl, hz61⟩, hb⟩
  refine ⟨_, rfl, ?_⟩
  clear henv a; intro a henv
  replace hst := (hst.call hb).addZ hz61 ⟨nou_bk rfl, nou_bk rfl, nou_bk rfl, trivial⟩
  clear hz61
  clear hb
  refine ⟨.inr ⟨hst.kn.pick [1, 2] (rg 1 6), .inr (hst.kn.pick [] [])⟩, ?_⟩
  have hs63 := zl_mul l y
  refine sAny_one (i := 5) (by kernel_rfl) rfl rfl (op_call henv rfl Tryd.call84 rfl (mul_z (x := l) (y := y) (show ZIn _ L f l from hst.pat (k := 3) rfl) (show ZIn _ B e y from hst.pat (k := 1) rfl) (by omega) (by omega)) ?_)
  rintro e w67 ⟨_, rfl, ⟨A64, c65, rfl, hz66⟩, hb⟩
  refine ⟨_, rfl, ?_⟩
  clear henv a; intro a henv
  replace hst := (hst.call hb).addZ hz66 ⟨nou_bk rfl, nou_bk rfl, nou_bk rfl, trivial⟩
  clear hz66
  clear hb
  refine ⟨.inr ⟨hst.kn.pick [1, 2] (rg 2 6), .inr (hst.kn.pick [] [])⟩, ?_⟩
  have hs68 := zl_add (m * x) (l * y)
  refine sAny_one (i := 6) (by kernel_rfl) rfl rfl (op_call henv rfl Tryd.call85 rfl (add_z (x := m * x) (y := l * y) (show ZIn _ A59 c60 (m * x) from hst.pat (k := 1) rfl) (show ZIn _ A64 c65 (l * y) from hst.pat (k := 0) rfl) (by omega) (by omega)) ?_)
  rintro e w72 ⟨_, rfl, ⟨A69, c70, rfl, hz71⟩, hb⟩
  refine ⟨_, rfl, ?_⟩
  clear henv a; intro a henv
  replace hst := (hst.call hb).addZ hz71 ⟨nou_bk rfl, nou_bk rfl, nou_bk rfl, trivial⟩
  clear hz71
  clear hb
  refine ⟨.inr ⟨hst.kn.pick [1, 2] (rg 3 6), .inr (hst.kn.pick [] [])⟩, ?_⟩
  refine sAny_one (i := 7) (by kernel_rfl) rfl rfl (op_store (k := 0) (c' := #[.bool (neg ((m * x) + (l * y))), .slice A69 (zl ((m * x) + (l * y))) c70]) henv hst (ty_anvil_integer_Int.size) rfl rfl rfl rfl (by simp) rfl rfl ?_)
  clear henv hst a; intro a w73 henv hst
  refine ⟨.inr ⟨hst.kn.pick [1, 2] (rg 3 6), .inl rfl⟩, ?_⟩
  refine sAny_done (by kernel_rfl) ?_ _
  refine th_n ?_
  refine wp_ret ?_
  refine leave henv (res1 Tryd.results100 (RV.cell henv ty_anvil_integer_Int rfl (hst.oat (k := 0) rfl) rfl)) ?_
  exact ⟨_, rfl, ⟨_, _, rfl, hst.pat (k := 0) rfl⟩, hst.below⟩
set_option maxRecDepth 100000 in
set_option maxHeartbeats 2000000 in
theorem row_combine {A0 A1 M L : Option Addr} {n0 c0 c1 d f : Nat} {es0 es1 : List NE} {xs ys : List Int} {m l : Int} {w0 : World} (h0 : (pfRow fN FN 2 A0 n0 c0 es0).P w0) (hz0 : es0.map zz = xs) (h1 : (pfRow fN FN 2 A1 n0 c1 es1).P w0) (hz1 : es1.map zz = ys) (hM : ZIn w0 M d m) (hL : ZIn w0 L f l) (hm : zl m ≤ 10000) (hl : zl l ≤ 10000) (hk0 : Zk 10000 xs) (hk1 : Zk 10000 ys) (hn : n0 ≤ 100000000) :
    Calls Tryd.prog 23 #[.agg #[.bool (neg m), .slice M (zl m) d], .slice A0 n0 c0, .agg #[.bool (neg l), .slice L (zl l) f], .slice A1 n0 c1] w0 fun e w' => ∃ v, e = .returned (.tuple #[v, .int .i64 0]) ∧ ZRow w0.heap.size w' v n0 (List.zipWith (fun x y => m * x + l * y) xs ys) ∧ Below w0.heap.size w0 w' := by
  have hb0 := hk0.es hz0
  have hb1 := hk1.es hz1
  subst hz0 hz1
  refine enter Tryd.func23 rfl Tryd.ntmps23 rfl ?_
  intro a henv hst
  replace hst := hst.addZ hL trivial
  replace hst := hst.addZ hM trivial
  replace hst := (hst.argRow h1).argRow h0
  refine wp_seq ?_
  refine region_seq ?_
  refine seq_step rfl (op_box (c := #[.bool (neg m), .slice M (zl m) d]) henv hst rfl rfl rfl ?_)
  clear henv hst a; intro a w52 g51 henv hst
  refine seq_step rfl (op_box (c := #[.bool (neg l), .slice L (zl l) f]) henv hst rfl rfl rfl ?_)
  clear henv hst a; intro a w54 g53 henv hst
  revert a
  refine aA rfl rfl ?_
  refine aA rfl rfl ?_
  intro a henv
  refine wpList_nil ?_
  refine th_n ?_
  refine wp_seq ?_
  replace hst := hst.giveB (k := 0) rfl
  replace hst : St w0 _ [bk g51 #[.bool (neg m), .slice M (zl m) d] 36] [bk g53 #[.bool (neg l), .slice L (zl l) f] 36, pfRow fN FN 2 A0 n0 c0 es0, pfRow fN FN 2 A1 n0 c1 es1, pfZ M d m, pfZ L f l] := hst
  replace hst := hst.giveB (k := 0) rfl
  replace hst : St w0 _ [] [bk g51 #[.bool (neg m), .slice M (zl m) d] 36, bk g53 #[.bool (neg l), .slice L (zl l) f] 36, pfRow fN FN 2 A0 n0 c0 es0, pfRow fN FN 2 A1 n0 c1 es1, pfZ M d m, pfZ L f l] := hst
  refine region_seq ?_
  revert a
  refine mA rfl rfl ?_
  refine mA rfl rfl ?_
  refine sA (v := .func (.func 100) #[] #[.pointer (some ⟨g51, 0, none⟩), .pointer (some ⟨g53, 0, none⟩)]) rfl (fun _ henv => rn_makeFuncB (us := #[]) (vs := #[.pointer (some ⟨g51, 0, none⟩), .pointer (some ⟨g53, 0, none⟩)]) henv rfl rfl) ?_
  intro a henv
  refine seq_step rfl (op_call henv rfl Tryd.call98 rfl (row_both_eq (E := (pfAnd (pfAnd (bk g51 #[.bool (neg m), .slice M (zl m) d] 36) (bk g53 #[.bool (neg l), .slice L (zl l) f] 36)) (pfAnd (pfZ M d m) (pfZ L f l)))) (g := (fun x y => m * x + l * y)) (first := #[]) (caps := #[.pointer (some ⟨g51, 0, none⟩), .pointer (some ⟨g53, 0, none⟩)]) (hst.pat (k := 2) rfl) (hst.pat (k := 3) rfl) ⟨⟨hst.pat (k := 0) rfl, hst.pat (k := 1) rfl⟩, hst.pat (k := 4) rfl, hst.pat (k := 5) rfl⟩ Tryd.call100 (fun _ _ _ _ _ _ _ _ q1 q2 q3 hx hy => calls_app (by simp) (row_comb1 q3 hx hy hm hl (by have := hb0.at q1; omega) (by have := hb1.at q2; omega))) hn) ?_)
  rintro e w61 ⟨_, rfl, ⟨A55, c56, es57, rfl, hr, hl58, hz59⟩, hb⟩
  refine ⟨_, rfl, ?_⟩
  clear henv a; intro a henv
  replace hst := hst.freshRow hb hr (ap_N hr.2.1 ⟨nou_rowS, trivial⟩)
  clear hr
  clear hb
  revert a
  refine sA (v := .slice A55 n0 c56) rfl (fun _ henv => rn_extract henv rfl rfl) ?_
  refine sA (v := .int .i64 0) rfl (fun _ henv => rn_extract henv rfl rfl) ?_
  refine aA rfl rfl ?_
  refine aA rfl rfl ?_
  intro a henv
  refine wpList_nil ?_
  refine th_n ?_
  refine wp_ret ?_
  refine leave henv (res2 Tryd.results23 (RV.tmp henv rfl) (RV.tmp henv rfl)) ?_
  exact ⟨_, rfl, ⟨_, _, _, rfl, hst.newRow (k := 0) (j := 0) rfl rfl, hl58, hz59⟩, hst.below⟩
set_option maxRecDepth 100000 in
set_option maxHeartbeats 2000000 in
theorem row_combine_ne {A0 A1 M L : Option Addr} {n0 n1 c0 c1 d f : Nat} {m l : Int} {w0 : World} (hne : n0 ≠ n1) :
    Calls Tryd.prog 23 #[.agg #[.bool (neg m), .slice M (zl m) d], .slice A0 n0 c0, .agg #[.bool (neg l), .slice L (zl l) f], .slice A1 n1 c1] w0 fun e w' => e = .returned (.tuple #[.slice none 0 0, .int .i64 5]) ∧ Below w0.heap.size w0 w' := by
  refine enter Tryd.func23 rfl Tryd.ntmps23 rfl ?_
  intro a henv hst
  refine wp_seq ?_
  refine region_seq ?_
  refine seq_step rfl (op_box (c := #[.bool (neg m), .slice M (zl m) d]) henv hst rfl rfl rfl ?_)
  clear henv hst a; intro a w52 g51 henv hst
  refine seq_step rfl (op_box (c := #[.bool (neg l), .slice L (zl l) f]) henv hst rfl rfl rfl ?_)
  clear henv hst a; intro a w54 g53 henv hst
  revert a
  refine aA rfl rfl ?_
  refine aA rfl rfl ?_
  intro a henv
  refine wpList_nil ?_
  refine th_n ?_
  refine wp_seq ?_
  refine region_seq ?_
  revert a
  refine mA rfl rfl ?_
  refine mA rfl rfl ?_
  refine sA (v := .func (.func 100) #[] #[.pointer (some ⟨g51, 0, none⟩), .pointer (some ⟨g53, 0, none⟩)]) rfl (fun _ henv => rn_makeFuncB (us := #[]) (vs := #[.pointer (some ⟨g51, 0, none⟩), .pointer (some ⟨g53, 0, none⟩)]) henv rfl rfl) ?_
  intro a henv
  refine seq_step rfl (op_call henv rfl Tryd.call98 rfl (row_both_ne hne) ?_)
  rintro e w55 ⟨rfl, hb⟩
  refine ⟨_, rfl, ?_⟩
  clear henv a; intro a henv
  replace hst := hst.call hb
  clear hb
  revert a
  refine sA (v := .slice none 0 0) rfl (fun _ henv => rn_extract henv rfl rfl) ?_
  refine sA (v := .int .i64 5) rfl (fun _ henv => rn_extract henv rfl rfl) ?_
  refine aA rfl rfl ?_
  refine aA rfl rfl ?_
  intro a henv
  refine wpList_nil ?_
  refine th_n ?_
  refine wp_ret ?_
  refine leave henv (res2 Tryd.results23 (RV.tmp henv rfl) (RV.tmp henv rfl)) ?_
  exact ⟨rfl, hst.below⟩
set_option maxRecDepth 100000 in
set_option maxHeartbeats 2000000 in
theorem row_sum {A0 : Option Addr} {n0 c0 : Nat} {es0 : List NE} {xs : List Int} {w0 : World} (h0 : (pfRow fN FN 2 A0 n0 c0 es0).P w0) (hz0 : es0.map zz = xs) (hk : Zk 2000 xs) (hn : n0 ≤ 300) :
    Calls Tryd.prog 101 #[.slice A0 n0 c0] w0 fun e w' => ∃ v, e = .returned v ∧ ZAt w' v (sumL xs) ∧ Below w0.heap.size w0 w' := by
  have hzb := hk.es hz0
  refine enter Tryd.func101 rfl Tryd.ntmps101 rfl ?_
  intro a henv hst
  have hlen0 := h0.2.1
  have hbig0 := Nat.le_trans h0.1.cap h0.1.big
  unfold maxLen at hbig0
  replace hst := hst.argRow h0
  clear h0
  refine wp_seq ?_
  refine region_seq ?_
  refine seq_step rfl (op_alloc (c := #[.bool (neg 0), .slice none (zl 0) 0]) henv hst rfl zero_anvil_integer_Int zcells ?_)
  clear henv hst a; intro a w52 g51 henv hst
  refine wpList_nil ?_
  refine th_n ?_
  refine wp_seq ?_
  refine region_seq ?_
  refine seq_step rfl (op_alloc (c := #[.bool (neg 0), .slice none (zl 0) 0]) henv hst rfl zero_anvil_integer_Int zcells ?_)
  clear henv hst a; intro a w54 g53 henv hst
  refine wpList_nil ?_
  refine th_n ?_
  refine wp_seq ?_
  refine wp_seq ?_
  refine region_seq ?_
  revert a
  refine mA rfl rfl ?_
  refine sA (v := .int .i64 (n0 : Nat)) rfl (fun _ henv => rn_len henv Tryd.underlying30 rfl) ?_
  refine mA rfl rfl ?_
  intro a henv
  refine wpList_nil ?_
  refine th_n ?_
  refine wp_block ?_
  replace hst := hst.addZ (zin_none _) ⟨nou_bk rfl, nou_bk rfl, trivial⟩
  refine wp_loop_ghost (fun mz a w => ∃ j : Nat, ∃ m : Int, ∃ B : Option Addr, ∃ d : Nat, n0 - j = mz ∧ Env 17 a [(2, .pointer (some ⟨g51, 0, none⟩)), (3, .pointer (some ⟨g53, 0, none⟩)), (6, .slice A0 n0 c0), (7, .int .i64 (n0 : Nat)), (8, .int .i64 (j : Nat))] ∧ St w0 w [bk g53 #[.bool (neg m), .slice B (zl m) d] 36, bk g51 #[.bool (neg 0), .slice none (zl 0) 0] 36] [pfZ B d m, pfRow fN FN 2 A0 n0 c0 es0] ∧ j ≤ n0 ∧ m = sumL (xs.take j)) _ ⟨0, 0, none, 0, rfl, henv.sub ⟨rfl, rfl, rfl, rfl, rfl, trivial⟩, hst.pick [0, 1] [0, 1] (by decide), (Nat.zero_le _), rfl⟩ ?_
  clear henv hst a
  rintro mz a w55 ⟨j, m, B, d, rfl, henv, hst, hj, hm⟩
  have hms := sum_sz hk hn hj hm
  refine wp_seq ?_
  refine region_seq ?_
  refine sv (v := .bool (decide (((j : Nat) : Int) < ((n0 : Nat) : Int)))) henv rfl (rn_bin henv rfl rfl rfl) ?_
  clear henv a; intro a henv
  refine wpList_nil ?_
  refine th_n ?_
  refine wp_seq ?_
  refine if_split henv rfl (fun hc56 => ?_) (fun hc56 => ?_)
  · have hlt : j < n0 := by have := of_decide_eq_true hc56; omega
    obtain ⟨⟨A, c, z⟩, he0⟩ : ∃ e, es0[j]? = some e := ⟨_, List.getElem?_eq_getElem (by omega)⟩
    replace hst := hst.elem (k := 1) rfl he0
    replace hst : St w0 _ [bk g53 #[.bool (neg m), .slice B (zl m) d] 36, bk g51 #[.bool (neg 0), .slice none (zl 0) 0] 36] [pfZ A c z, pfZ B d m, pfRow fN FN 2 A0 n0 c0 es0] := hst
    have hzs := hzb.at he0
    refine wp_skip ?_
    refine th_n ?_
    refine wp_seq ?_
    refine wp_block ?_
    refine wp_seq ?_
    refine region_seq ?_
    revert a
    refine sA (v := .pointer (some ⟨ab A0, ao A0 + j * 2, none⟩)) rfl (fun _ henv => rn_idxR (i := j) henv Tryd.underlying30 (ty_anvil_integer_Int.size) rfl rfl (by omega) rfl (show (pfRow fN FN 2 A0 n0 c0 es0).P _ from (hst.pat (k := 2) rfl)).1) ?_
    refine sA (v := .agg #[.bool (neg z), .slice A (zl z) c]) rfl (fun _ henv => rn_loadE (i := j) (e := (A, c, z)) henv ty_anvil_integer_Int rfl rfl fN_len (show (pfRow fN FN 2 A0 n0 c0 es0).P _ from (hst.pat (k := 2) rfl)).1 (by omega) he0 rfl) ?_
    intro a henv
    refine seq_step rfl (op_alloc (c := #[.bool (neg 0), .slice none (zl 0) 0]) henv hst rfl zero_anvil_integer_Int zcells ?_)
    clear henv hst a; intro a w58 g57 henv hst
    refine seq_step rfl (op_store (k := 0) (c' := #[.bool (neg z), .slice A (zl z) c]) henv hst (ty_anvil_integer_Int.size) rfl rfl rfl rfl (by simp) rfl rfl ?_)
    clear henv hst a; intro a w59 henv hst
    refine wpList_nil ?_
    refine th_n ?_
    refine region_seq ?_
    revert a
    refine sA (v := .agg #[.bool (neg m), .slice B (zl m) d]) rfl (fun _ henv => rn_load0 henv ty_anvil_integer_Int rfl (hst.oat (k := 1) rfl) rfl) ?_
    refine sA (v := .agg #[.bool (neg z), .slice A (zl z) c]) rfl (fun _ henv => rn_load0 henv ty_anvil_integer_Int rfl (hst.oat (k := 0) rfl) rfl) ?_
    intro a henv
    have hs60 := zl_add m z
    refine seq_step rfl (op_call henv rfl Tryd.call85 rfl (add_z (x := m) (y := z) (show ZIn _ B d m from hst.pat (k := 1) rfl) (show ZIn _ A c z from hst.pat (k := 0) rfl) (by omega) (by omega)) ?_)
    rintro e w64 ⟨_, rfl, ⟨A61, c62, rfl, hz63⟩, hb⟩
    refine ⟨_, rfl, ?_⟩
    clear henv a; intro a henv
    replace hst := (hst.call hb).addZ hz63 ⟨nou_bk rfl, nou_bk rfl, nou_bk rfl, trivial⟩
    clear hz63
    clear hb
    refine seq_step rfl (op_store (k := 1) (c' := #[.bool (neg (m + z)), .slice A61 (zl (m + z)) c62]) henv hst (ty_anvil_integer_Int.size) rfl rfl rfl rfl (by simp) rfl rfl ?_)
    clear henv hst a; intro a w65 henv hst
    refine wpList_nil ?_
    refine bl_n (th_n ?_)
    refine region_seq ?_
    revert a
    refine sA (v := .int .i64 (j + 1 : Nat)) rfl (fun _ henv => rn_add henv rfl rfl (by rw [IntWalk.i64_in _ (by omega)]; omega)) ?_
    refine mA rfl rfl ?_
    intro a henv
    refine wpList_nil ?_
    exact th_n ⟨_, (by omega), ⟨j + 1, (m + z), A61, c62, rfl, henv.sub ⟨rfl, rfl, rfl, rfl, rfl, trivial⟩, hst.pick [1, 2] [0, 3] (by decide), (by omega), (sumL_step hz0 hm he0)⟩⟩
  · obtain rfl : j = n0 := by have := of_decide_eq_false hc56; omega
    refine wp_exit ?_
    refine th_x (th_x (bl_x (th_n ?_)))
    refine wp_seq ?_
    refine region_seq ?_
    refine sv (v := .agg #[.bool (neg m), .slice B (zl m) d]) henv rfl (rn_load0 henv ty_anvil_integer_Int rfl (hst.oat (k := 0) rfl) rfl) ?_
    clear henv a; intro a henv
    refine seq_step rfl (op_store (k := 1) (c' := #[.bool (neg m), .slice B (zl m) d]) henv hst (ty_anvil_integer_Int.size) rfl rfl rfl rfl (by simp) rfl rfl ?_)
    clear henv hst a; intro a w66 henv hst
    refine wpList_nil ?_
    refine th_n ?_
    refine wp_ret ?_
    refine leave henv (res1 Tryd.results101 (RV.cell henv ty_anvil_integer_Int rfl (hst.oat (k := 1) rfl) rfl)) ?_
    have hfin : m = sumL xs := by rw [hm, List.take_of_length_le (by rw [← hz0, List.length_map]; omega)]
    exact ⟨_, rfl, (by rw [← hfin]; exact ⟨_, _, rfl, hst.pat (k := 0) rfl⟩), hst.below⟩
set_option maxRecDepth 100000 in
set_option maxHeartbeats 2000000 in
theorem row_dot {A0 A1 : Option Addr} {n0 c0 c1 : Nat} {es0 es1 : List NE} {xs ys : List Int} {w0 : World} (h0 : (pfRow fN FN 2 A0 n0 c0 es0).P w0) (hz0 : es0.map zz = xs) (h1 : (pfRow fN FN 2 A1 n0 c1 es1).P w0) (hz1 : es1.map zz = ys) (hk0 : Zk 1000 xs) (hk1 : Zk 1000 ys) (hn : n0 ≤ 300) :
    Calls Tryd.prog 24 #[.slice A0 n0 c0, .slice A1 n0 c1] w0 fun e w' => ∃ v, e = .returned (.tuple #[v, .int .i64 0]) ∧ ZAt w' v (dotL xs ys) ∧ Below w0.heap.size w0 w' := by
  have hb0 := hk0.es hz0
  have hb1 := hk1.es hz1
  have hzk := hk0.zip (f := (· * ·)) (m := 2000) hk1 (fun x y h1 h2 => Nat.le_trans (zl_mul x y) (by omega))
  replace hn : n0 ≤ 300 := hn
  have hn300 := hn
  replace hn : n0 ≤ 100000000 := by omega
  subst hz0 hz1
  refine enter Tryd.func24 rfl Tryd.ntmps24 rfl ?_
  intro a henv hst
  replace hst := (hst.argRow h1).argRow h0
  refine wp_seq ?_
  refine region_seq ?_
  refine seq_step rfl (op_alloc (c := #[.bool (neg 0), .slice none (zl 0) 0]) henv hst rfl zero_anvil_integer_Int zcells ?_)
  clear henv hst a; intro a w52 g51 henv hst
  refine sv (v := .int .i64 0) henv rfl (rn_assign henv rfl) ?_
  clear henv a; intro a henv
  refine wpList_nil ?_
  refine th_n ?_
  refine wp_seq ?_
  refine region_seq ?_
  revert a
  refine mA rfl rfl ?_
  refine mA rfl rfl ?_
  intro a henv
  refine seq_step rfl (op_call henv rfl Tryd.call98 rfl (row_both_eq (E := pfT0) (g := (· * ·)) (first := #[]) (caps := #[]) (hst.pat (k := 0) rfl) (hst.pat (k := 1) rfl) trivial Tryd.call84 (fun _ _ _ _ _ _ _ _ q1 q2 _ hx hy => calls_app (by simp) (mul_z hx hy (by have := hb0.at q1; omega) (by have := hb1.at q2; omega))) hn) ?_)
  rintro e w58 ⟨_, rfl, ⟨A53, c54, es55, rfl, hr, hl56, hz57⟩, hb⟩
  refine ⟨_, rfl, ?_⟩
  clear henv a; intro a henv
  replace hst := hst.freshRd hb hr hl56 (ap_N hr.2.1 ⟨nou_bk rfl, trivial⟩)
  clear hr
  clear hb
  revert a
  refine mA rfl rfl ?_
  refine sA (v := .slice A53 n0 c54) rfl (fun _ henv => rn_extract henv rfl rfl) ?_
  refine sA (v := .int .i64 0) rfl (fun _ henv => rn_extract henv rfl rfl) ?_
  refine aA rfl rfl ?_
  refine aA rfl rfl ?_
  intro a henv
  refine wpList_nil ?_
  refine th_n ?_
  refine wp_seq ?_
  refine region_seq ?_
  refine sv (v := .slice A53 n0 c54) henv rfl (rn_move henv rfl) ?_
  clear henv a; intro a henv
  refine seq_step rfl (op_call henv rfl Tryd.call101 rfl (row_sum (hst.pat (k := 0) rfl) hz57 hzk (by omega)) ?_)
  rintro e w62 ⟨_, rfl, ⟨A59, c60, rfl, hz61⟩, hb⟩
  refine ⟨_, rfl, ?_⟩
  clear henv a; intro a henv
  replace hst := (hst.call hb).addZ hz61 ⟨nou_bk rfl, trivial⟩
  clear hz61
  clear hb
  refine sv (v := .int .i64 0) henv rfl (rn_move henv rfl) ?_
  clear henv a; intro a henv
  refine seq_step rfl (op_store (k := 0) (c' := #[.bool (neg (sumL (List.zipWith (· * ·) (es0.map zz) (es1.map zz)))), .slice A59 (zl (sumL (List.zipWith (· * ·) (es0.map zz) (es1.map zz)))) c60]) henv hst (ty_anvil_integer_Int.size) rfl rfl rfl rfl (by simp) rfl rfl ?_)
  clear henv hst a; intro a w63 henv hst
  refine sv (v := .int .i64 0) henv rfl (rn_assign henv rfl) ?_
  clear henv a; intro a henv
  refine wpList_nil ?_
  refine th_n ?_
  refine wp_ret ?_
  refine leave henv (res2 Tryd.results24 (RV.cell henv ty_anvil_integer_Int rfl (hst.oat (k := 0) rfl) rfl) (RV.tmp henv rfl)) ?_
  exact ⟨_, rfl, ⟨_, _, rfl, hst.pat (k := 0) rfl⟩, hst.below⟩
set_option maxRecDepth 100000 in
set_option maxHeartbeats 2000000 in
theorem row_dot_ne {A0 A1 : Option Addr} {n0 n1 c0 c1 : Nat} {w0 : World} (hne : n0 ≠ n1) :
    Calls Tryd.prog 24 #[.slice A0 n0 c0, .slice A1 n1 c1] w0 fun e w' => ∃ v, e = .returned (.tuple #[v, .int .i64 5]) ∧ ZAt w' v (sumL []) ∧ Below w0.heap.size w0 w' := by
  refine enter Tryd.func24 rfl Tryd.ntmps24 rfl ?_
  intro a henv hst
  refine wp_seq ?_
  refine region_seq ?_
  refine seq_step rfl (op_alloc (c := #[.bool (neg 0), .slice none (zl 0) 0]) henv hst rfl zero_anvil_integer_Int zcells ?_)
  clear henv hst a; intro a w52 g51 henv hst
  refine sv (v := .int .i64 0) henv rfl (rn_assign henv rfl) ?_
  clear henv a; intro a henv
  refine wpList_nil ?_
  refine th_n ?_
  refine wp_seq ?_
  refine region_seq ?_
  revert a
  refine mA rfl rfl ?_
  refine mA rfl rfl ?_
  intro a henv
  refine seq_step rfl (op_call henv rfl Tryd.call98 rfl (row_both_ne hne) ?_)
  rintro e w53 ⟨rfl, hb⟩
  refine ⟨_, rfl, ?_⟩
  clear henv a; intro a henv
  replace hst := hst.call hb
  clear hb
  revert a
  refine mA rfl rfl ?_
  refine sA (v := .slice none 0 0) rfl (fun _ henv => rn_extract henv rfl rfl) ?_
  refine sA (v := .int .i64 5) rfl (fun _ henv => rn_extract henv rfl rfl) ?_
  refine aA rfl rfl ?_
  refine aA rfl rfl ?_
  intro a henv
  refine wpList_nil ?_
  refine th_n ?_
  refine wp_seq ?_
  refine region_seq ?_
  refine sv (v := .slice none 0 0) henv rfl (rn_move henv rfl) ?_
  clear henv a; intro a henv
  refine seq_step rfl (op_call henv rfl Tryd.call101 rfl (row_sum (row_nil fN FN 2 _) rfl (fun _ h => by cases h) (by decide)) ?_)
  rintro e w57 ⟨_, rfl, ⟨A54, c55, rfl, hz56⟩, hb⟩
  refine ⟨_, rfl, ?_⟩
  clear henv a; intro a henv
  replace hst := (hst.call hb).addZ hz56 ⟨nou_bk rfl, trivial⟩
  clear hz56
  clear hb
  refine sv (v := .int .i64 5) henv rfl (rn_move henv rfl) ?_
  clear henv a; intro a henv
  refine seq_step rfl (op_store (k := 0) (c' := #[.bool (neg (sumL [])), .slice A54 (zl (sumL [])) c55]) henv hst (ty_anvil_integer_Int.size) rfl rfl rfl rfl (by simp) rfl rfl ?_)
  clear henv hst a; intro a w58 henv hst
  refine sv (v := .int .i64 5) henv rfl (rn_assign henv rfl) ?_
  clear henv a; intro a henv
  refine wpList_nil ?_
  refine th_n ?_
  refine wp_ret ?_
  refine leave henv (res2 Tryd.results24 (RV.cell henv ty_anvil_integer_Int rfl (hst.oat (k := 0) rfl) rfl) (RV.tmp henv rfl)) ?_
  exact ⟨_, rfl, ⟨_, _, rfl, hst.pat (k := 0) rfl⟩, hst.below⟩
set_option maxRecDepth 100000 in
set_option maxHeartbeats 2000000 in
theorem ref_combine {A0 A1 M L : Option Addr} {n0 c0 c1 d f : Nat} {es0 es1 : List NE} {xs ys : List Int} {m l : Int} {w0 : World} (h0 : (pfRow fM FM 2 A0 n0 c0 es0).P w0) (hz0 : es0.map zz = xs) (h1 : (pfRow fM FM 2 A1 n0 c1 es1).P w0) (hz1 : es1.map zz = ys) (hM : RIn w0 M d m) (hL : RIn w0 L f l) (hm : zl m ≤ 10000) (hl : zl l ≤ 10000) (hk0 : Zk 10000 xs) (hk1 : Zk 10000 ys) (hn : n0 ≤ 100000000) :
    Calls Tryd.prog 34 #[.agg #[.bool (neg m), .slice M (dl m) d], .slice A0 n0 c0, .agg #[.bool (neg l), .slice L (dl l) f], .slice A1 n0 c1] w0 fun e w' => ∃ v, e = .returned v ∧ MRow w0.heap.size w' v n0 (List.zipWith (fun x y => m * x + l * y) xs ys) ∧ Below w0.heap.size w0 w' := by
  have hb0 := hk0.es hz0
  have hb1 := hk1.es hz1
  subst hz0 hz1
  have dm := dl_zl m
  have dl_ := dl_zl l
  refine enter Tryd.func34 rfl Tryd.ntmps34 rfl ?_
  intro a henv hst
  replace hst := hst.addR hL trivial
  replace hst := hst.addR hM trivial
  have hlen0 := h0.2.1
  have hlen1 := h1.2.1
  have hbig0 := Nat.le_trans h0.1.cap h0.1.big
  unfold maxLen at hbig0
  replace hst := (hst.argRow h1).argRow h0
  clear h0 h1
  refine wp_seq ?_
  refine region_seq ?_
  refine seq_step rfl (op_box (c := #[.bool (neg m), .slice M (dl m) d]) henv hst rfl rfl rfl ?_)
  clear henv hst a; intro a w52 g51 henv hst
  refine seq_step rfl (op_box (c := #[.bool (neg l), .slice L (dl l) f]) henv hst rfl rfl rfl ?_)
  clear henv hst a; intro a w54 g53 henv hst
  refine sv (v := .slice none 0 0) henv rfl (rn_assign henv rfl) ?_
  clear henv a; intro a henv
  refine wpList_nil ?_
  refine th_n ?_
  refine wp_seq ?_
  refine region_seq ?_
  refine sv (v := .slice none 0 0) henv rfl (rn_assign henv rfl) ?_
  clear henv a; intro a henv
  refine wpList_nil ?_
  refine th_n ?_
  refine wp_seq ?_
  refine wp_seq ?_
  refine region_seq ?_
  refine sv (v := .int .i64 0) henv rfl (rn_assign henv rfl) ?_
  clear henv a; intro a henv
  refine wpList_nil ?_
  refine th_n ?_
  refine wp_block ?_
  replace hst := (hst.addRowS notU 39 2).nilEs FM
  replace hst : St w0 _ [rowS notU 39 2 none 0 0 (fl fM ([])), bk g53 #[.bool (neg l), .slice L (dl l) f] 39, bk g51 #[.bool (neg m), .slice M (dl m) d] 39] [pfEs FM ([]), pfRow fM FM 2 A0 n0 c0 es0, pfRow fM FM 2 A1 n0 c1 es1, pfR M d m, pfR L f l] := hst
  refine wp_loop_ghost (fun mz a w => ∃ j : Nat, ∃ B : Option Addr, ∃ d2 : Nat, ∃ os : List NE, n0 - j = mz ∧ Env 34 a [(1, .slice A0 n0 c0), (3, .slice A1 n0 c1), (4, .pointer (some ⟨g51, 0, none⟩)), (6, .pointer (some ⟨g53, 0, none⟩)), (8, .slice none 0 0), (9, .slice B j d2), (10, .int .i64 (j : Nat))] ∧ St w0 w [rowS notU 39 2 B j d2 (fl fM os), bk g53 #[.bool (neg l), .slice L (dl l) f] 39, bk g51 #[.bool (neg m), .slice M (dl m) d] 39] [pfEs FM os, pfRow fM FM 2 A0 n0 c0 es0, pfRow fM FM 2 A1 n0 c1 es1, pfR M d m, pfR L f l] ∧ j ≤ n0 ∧ os.map zz = (List.zipWith (fun x y => m * x + l * y) (es0.map zz) (es1.map zz)).take j) _ ⟨0, none, 0, [], rfl, henv.sub ⟨rfl, rfl, rfl, rfl, rfl, rfl, rfl, trivial⟩, hst.pick [0, 1, 2] [0, 1, 2, 3, 4] (by decide), (Nat.zero_le _), rfl⟩ ?_
  clear henv hst a
  rintro mz a w55 ⟨j, B, d2, os, rfl, henv, hst, hj, ho⟩
  refine wp_seq ?_
  refine wp_seq ?_
  refine region_seq ?_
  revert a
  refine mA rfl rfl ?_
  refine mA rfl rfl ?_
  refine sA (v := .int .i64 (n0 : Nat)) rfl (fun _ henv => rn_len henv Tryd.underlying32 rfl) ?_
  refine sA (v := .bool (decide (((j : Nat) : Int) < ((n0 : Nat) : Int)))) rfl (fun _ henv => rn_bin henv rfl rfl rfl) ?_
  intro a henv
  refine wpList_nil ?_
  refine th_n ?_
  refine if_split henv rfl (fun hc56 => ?_) (fun hc56 => ?_)
  · have hlt : j < n0 := by have := of_decide_eq_true hc56; omega
    obtain ⟨⟨A, c, x⟩, he0⟩ : ∃ e, es0[j]? = some e := ⟨_, List.getElem?_eq_getElem (by omega)⟩
    replace hst := hst.elem (k := 1) rfl he0
    replace hst : St w0 _ [rowS notU 39 2 B j d2 (fl fM os), bk g53 #[.bool (neg l), .slice L (dl l) f] 39, bk g51 #[.bool (neg m), .slice M (dl m) d] 39] [pfR A c x, pfEs FM os, pfRow fM FM 2 A0 n0 c0 es0, pfRow fM FM 2 A1 n0 c1 es1, pfR M d m, pfR L f l] := hst
    obtain ⟨⟨C, e, y⟩, he1⟩ : ∃ e, es1[j]? = some e := ⟨_, List.getElem?_eq_getElem (by omega)⟩
    replace hst := hst.elem (k := 3) rfl he1
    replace hst : St w0 _ [rowS notU 39 2 B j d2 (fl fM os), bk g53 #[.bool (neg l), .slice L (dl l) f] 39, bk g51 #[.bool (neg m), .slice M (dl m) d] 39] [pfR C e y, pfR A c x, pfEs FM os, pfRow fM FM 2 A0 n0 c0 es0, pfRow fM FM 2 A1 n0 c1 es1, pfR M d m, pfR L f l] := hst
    have hx1 := hb0.at he0
    have hy1 := hb1.at he1
    have dx := dl_zl x
    have dy := dl_zl y
    refine wp_skip ?_
    refine th_n ?_
    refine wp_seq ?_
    refine wp_block ?_
    refine region_any (n := 17) (Sk [bk g53 #[.bool (neg l), .slice L (dl l) f] 39, bk g51 #[.bool (neg m), .slice M (dl m) d] 39] [pfR C e y, pfR A c x, pfEs FM os, pfRow fM FM 2 A0 n0 c0 es0, pfRow fM FM 2 A1 n0 c1 es1, pfR M d m, pfR L f l] [] []) mixed rfl henv hst ?_
    clear henv hst; intro w57 henv hst
    refine tM (i := 0) [15, 16] rfl (by kernel_rfl) (fun _ _ _ h => h) henv rfl rfl ?_
    clear henv a; intro a henv
    refine tL (i := 1) 1 2 [6, 12, 13, 14, 15, 16] rfl (by kernel_rfl) (fun _ _ _ h => h) henv rfl ty_anvil_anvilref02_Int rfl hst rfl rfl rfl ?_
    clear henv a; intro a henv
    refine tM (i := 2) [4, 5, 6, 12, 13, 14, 15, 16] rfl (by kernel_rfl) (fun _ _ _ h => h) henv rfl rfl ?_
    clear henv a; intro a henv
    refine tM (i := 3) [4, 5, 6, 12, 13, 14, 15, 16] rfl (by kernel_rfl) (fun _ _ _ h => h) henv rfl rfl ?_
    clear henv a; intro a henv
    refine sAny_take (i := 4) [5, 6, 12, 13, 14, 15, 16] (fun w' => (pfRow fM FM 2 A0 n0 c0 es0).P w') (v := .pointer (some ⟨ab A0, ao A0 + j * 2, none⟩)) rfl (by kernel_rfl) (fun _ _ _ h => h) (fun _ _ _ hS => hS.1.pat (k := 3) rfl) henv rfl (hst.pat (k := 3) rfl) (fun w' hg => rn_idxR (i := j) henv Tryd.underlying32 (ty_anvil_anvilref02_Int.size) rfl rfl (by omega) rfl (show (pfRow fM FM 2 A0 n0 c0 es0).P _ from hg).1) ?_
    clear henv a; intro a henv
    refine sAny_take (i := 5) [6, 12, 13, 14, 15, 16] (fun w' => (pfRow fM FM 2 A0 n0 c0 es0).P w') (v := .agg #[.bool (neg x), .slice A (dl x) c]) rfl (by kernel_rfl) (fun _ _ _ h => h) (fun _ _ _ hS => hS.1.pat (k := 3) rfl) henv rfl (hst.pat (k := 3) rfl) (fun w' hg => rn_loadE (i := j) (e := (A, c, x)) henv ty_anvil_anvilref02_Int rfl rfl fM_len (show (pfRow fM FM 2 A0 n0 c0 es0).P _ from hg).1 (by omega) he0 rfl) ?_
    clear henv a; intro a henv
    refine tL (i := 7) 0 1 (rg 12 5) rfl (by kernel_rfl) (fun _ _ _ h => h) henv rfl ty_anvil_anvilref02_Int rfl hst rfl rfl rfl ?_
    clear henv a; intro a henv
    refine tM (i := 8) (rg 10 7) rfl (by kernel_rfl) (fun _ _ _ h => h) henv rfl rfl ?_
    clear henv a; intro a henv
    refine tM (i := 9) (rg 10 7) rfl (by kernel_rfl) (fun _ _ _ h => h) henv rfl rfl ?_
    clear henv a; intro a henv
    refine sAny_take (i := 10) [11, 12, 13, 14, 15, 16] (fun w' => (pfRow fM FM 2 A1 n0 c1 es1).P w') (v := .pointer (some ⟨ab A1, ao A1 + j * 2, none⟩)) rfl (by kernel_rfl) (fun _ _ _ h => h) (fun _ _ _ hS => hS.1.pat (k := 4) rfl) henv rfl (hst.pat (k := 4) rfl) (fun w' hg => rn_idxR (i := j) henv Tryd.underlying32 (ty_anvil_anvilref02_Int.size) rfl rfl (by omega) rfl (show (pfRow fM FM 2 A1 n0 c1 es1).P _ from hg).1) ?_
    clear henv a; intro a henv
    refine sAny_take (i := 11) [12, 13, 14, 15, 16] (fun w' => (pfRow fM FM 2 A1 n0 c1 es1).P w') (v := .agg #[.bool (neg y), .slice C (dl y) e]) rfl (by kernel_rfl) (fun _ _ _ h => h) (fun _ _ _ hS => hS.1.pat (k := 4) rfl) henv rfl (hst.pat (k := 4) rfl) (fun w' hg => rn_loadE (i := j) (e := (C, e, y)) henv ty_anvil_anvilref02_Int rfl rfl fM_len (show (pfRow fM FM 2 A1 n0 c1 es1).P _ from hg).1 (by omega) he1 rfl) ?_
    clear henv a; intro a henv
    have hs58 := dl_mul m x
    refine sAny_one (i := 6) (by kernel_rfl) rfl rfl (op_call henv rfl Tryd.call105 rfl (mul_r (x := m) (y := x) (show RIn _ M d m from hst.pat (k := 5) rfl) (show RIn _ A c x from hst.pat (k := 1) rfl) (by omega) (by omega)) ?_)
    rintro e w62 ⟨_, rfl, ⟨A59, c60, rfl, hz61⟩, hb⟩
    refine ⟨_, rfl, ?_⟩
    clear henv a; intro a henv
    replace hst := (hst.call hb).addR hz61 ⟨nou_rowS, nou_bk rfl, nou_bk rfl, trivial⟩
    clear hz61
    clear hb
    refine ⟨.inr ⟨hst.kn.pick [1, 2] (rg 1 7), .inr (hst.kn.pick [] [])⟩, ?_⟩
    have hs63 := dl_mul l y
    refine sAny_one (i := 12) (by kernel_rfl) rfl rfl (op_call henv rfl Tryd.call105 rfl (mul_r (x := l) (y := y) (show RIn _ L f l from hst.pat (k := 7) rfl) (show RIn _ C e y from hst.pat (k := 1) rfl) (by omega) (by omega)) ?_)
    rintro e w67 ⟨_, rfl, ⟨A64, c65, rfl, hz66⟩, hb⟩
    refine ⟨_, rfl, ?_⟩
    clear henv a; intro a henv
    replace hst := (hst.call hb).addR hz66 ⟨nou_rowS, nou_bk rfl, nou_bk rfl, trivial⟩
    clear hz66
    clear hb
    refine ⟨.inr ⟨hst.kn.pick [1, 2] (rg 2 7), .inr (hst.kn.pick [] [])⟩, ?_⟩
    have hs68 := dl_add (m * x) (l * y)
    refine sAny_one (i := 13) (by kernel_rfl) rfl rfl (op_call henv rfl Tryd.call104 rfl (add_r (x := m * x) (y := l * y) (show RIn _ A59 c60 (m * x) from hst.pat (k := 1) rfl) (show RIn _ A64 c65 (l * y) from hst.pat (k := 0) rfl) (by omega) (by omega)) ?_)
    rintro e w72 ⟨_, rfl, ⟨A69, c70, rfl, hz71⟩, hb⟩
    refine ⟨_, rfl, ?_⟩
    clear henv a; intro a henv
    replace hst := (hst.call hb).addR hz71 ⟨nou_rowS, nou_bk rfl, nou_bk rfl, trivial⟩
    clear hz71
    clear hb
    refine ⟨.inr ⟨hst.kn.pick [1, 2] (rg 3 7), .inr (hst.kn.pick [] [])⟩, ?_⟩
    refine sAny_one (i := 14) (by kernel_rfl) rfl rfl (op_buildSlice (z := 2) (pv := #[(0, .agg #[.bool (neg ((m * x) + (l * y))), .slice A69 (dl ((m * x) + (l * y))) c70])]) (c := #[.bool (neg ((m * x) + (l * y))), .slice A69 (dl ((m * x) + (l * y))) c70]) henv hst rfl Tryd.underlying32 (ty_anvil_anvilref02_Int.size) zero_anvil_anvilref02_Int (by decide) (by decide) rfl (by kernel_rfl) ?_)
    clear henv hst a; intro a w74 g73 henv hst
    refine ⟨.inr ⟨hst.kn.pick [2, 3] (rg 3 7), .inr (hst.kn.pick [] [])⟩, ?_⟩
    refine sAny_one (i := 15) (by kernel_rfl) rfl rfl (op_appendS (k := 1) (j := 0) henv hst rfl Tryd.underlying32 inf_anvil_anvilref02_Int rfl rfl rfl rfl rfl rfl rfl rfl rfl rfl rfl (by unfold maxLen; omega) (by omega) ?_)
    clear henv hst a; intro a w77 g75 c76 henv hst
    rw [show fl fM os ++ (#[.bool (neg ((m * x) + (l * y))), .slice A69 (dl ((m * x) + (l * y))) c70] : Array Value).toList = fl fM (os ++ [(A69, c70, ((m * x) + (l * y)))]) from fl_snoc (f := fM) os (A69, c70, ((m * x) + (l * y)))] at hst
    replace hst := hst.snocEs (e := (A69, c70, ((m * x) + (l * y)))) (i := 5) (j := 0) rfl rfl
    refine ⟨.inr ⟨hst.kn.pick [2, 3] (rg 4 7), .inr (hst.kn.pick [] [])⟩, ?_⟩
    refine tA (i := 16) [] (v := .slice (some ⟨g75, 0, none⟩) (j + 1) c76) rfl (by kernel_rfl) (fun _ _ _ h => h) henv rfl (fun _ => rn_assign henv rfl) ?_
    clear henv a; intro a henv
    refine sAny_done (by kernel_rfl) ?_ _
    refine bl_n (th_n ?_)
    refine region_seq ?_
    revert a
    refine mA rfl rfl ?_
    refine sA (v := .int .i64 (j + 1 : Nat)) rfl (fun _ henv => rn_add henv rfl rfl (by rw [IntWalk.i64_in _ (by omega)]; omega)) ?_
    refine aA rfl rfl ?_
    intro a henv
    refine wpList_nil ?_
    exact th_n ⟨_, (by omega), ⟨j + 1, (some ⟨g75, 0, none⟩), c76, (os ++ [(A69, c70, ((m * x) + (l * y)))]), rfl, henv.sub ⟨rfl, rfl, rfl, rfl, rfl, rfl, rfl, trivial⟩, hst.pick [1, 2, 3] [0, 7, 8, 9, 10] (by decide), (by omega), (step_zip ho he0 he1)⟩⟩
  · have hjn : j = n0 := by have := of_decide_eq_false hc56; omega
    refine wp_exit ?_
    refine th_x (th_x (bl_x (th_n ?_)))
    refine wp_seq ?_
    refine region_seq ?_
    revert a
    refine mA rfl rfl ?_
    refine aA rfl rfl ?_
    intro a henv
    refine wpList_nil ?_
    refine th_n ?_
    refine wp_ret ?_
    refine leave henv (res1 Tryd.results34 (RV.tmp henv rfl)) ?_
    have ho2 : os.map zz = _ := ho.trans (List.take_of_length_le (by rw [zip_len hlen0 hlen1]; omega))
    exact ⟨_, rfl, ⟨_, _, os, congrArg (fun k => Value.slice _ k _) hjn, (hjn ▸ hst.newRow (k := 0) (j := 0) rfl rfl), map_len ho2 (zip_len hlen0 hlen1), ho2⟩, hst.below⟩
set_option maxRecDepth 100000 in
set_option maxHeartbeats 2000000 in
theorem ref_add {A0 A1 : Option Addr} {n0 c0 c1 : Nat} {es0 es1 : List NE} {xs ys : List Int} {w0 : World} (h0 : (pfRow fM FM 2 A0 n0 c0 es0).P w0) (hz0 : es0.map zz = xs) (h1 : (pfRow fM FM 2 A1 n0 c1 es1).P w0) (hz1 : es1.map zz = ys) (hk0 : Zk 10000 xs) (hk1 : Zk 10000 ys) (hn : n0 ≤ 100000000) :
    Calls Tryd.prog 32 #[.slice A0 n0 c0, .slice A1 n0 c1] w0 fun e w' => ∃ v, e = .returned v ∧ MRow w0.heap.size w' v n0 (List.zipWith (· + ·) xs ys) ∧ Below w0.heap.size w0 w' := by
  subst hz0 hz1
  refine enter Tryd.func32 rfl Tryd.ntmps32 rfl ?_
  intro a henv hst
  have hlen0 := h0.2.1
  have hlen1 := h1.2.1
  have hbig0 := Nat.le_trans h0.1.cap h0.1.big
  unfold maxLen at hbig0
  replace hst := (hst.argRow h1).argRow h0
  clear h0 h1
  refine wp_seq ?_
  refine region_seq ?_
  refine sv (v := .slice none 0 0) henv rfl (rn_assign henv rfl) ?_
  clear henv a; intro a henv
  refine wpList_nil ?_
  refine th_n ?_
  refine wp_seq ?_
  refine region_seq ?_
  refine seq_step rfl (op_call henv rfl Tryd.call29 rfl (of_r (n := (1 : Int)) (by decide) (by decide)) ?_)
  rintro e w54 ⟨_, rfl, ⟨A51, c52, rfl, hz53⟩, hb⟩
  refine ⟨_, rfl, ?_⟩
  clear henv a; intro a henv
  replace hst := (hst.call hb).addR hz53 trivial
  clear hz53
  clear hb
  refine sv (v := .slice A0 n0 c0) henv rfl (rn_move henv rfl) ?_
  clear henv a; intro a henv
  refine seq_step rfl (op_call henv rfl Tryd.call29 rfl (of_r (n := (1 : Int)) (by decide) (by decide)) ?_)
  rintro e w58 ⟨_, rfl, ⟨A55, c56, rfl, hz57⟩, hb⟩
  refine ⟨_, rfl, ?_⟩
  clear henv a; intro a henv
  replace hst := (hst.call hb).addR hz57 trivial
  clear hz57
  clear hb
  refine sv (v := .slice A1 n0 c1) henv rfl (rn_move henv rfl) ?_
  clear henv a; intro a henv
  refine seq_step rfl (op_call henv rfl Tryd.call34 rfl (ref_combine (m := (1 : Int)) (l := (1 : Int)) (hst.pat (k := 2) rfl) rfl (hst.pat (k := 3) rfl) rfl (show RIn _ A51 c52 1 from hst.pat (k := 1) rfl) (show RIn _ A55 c56 1 from hst.pat (k := 0) rfl) (zl_small (by decide)) (zl_small (by decide)) hk0 hk1 hn) ?_)
  rintro e w65 ⟨_, rfl, ⟨A59, c60, es61, rfl, hr, hl62, hz63⟩, hb⟩
  refine ⟨_, rfl, ?_⟩
  clear henv a; intro a henv
  replace hst := hst.freshRow hb hr (ap_M hr.2.1 ⟨nou_rowS, trivial⟩)
  clear hr
  clear hb
  refine sv (v := .slice A59 n0 c60) henv rfl (rn_assign henv rfl) ?_
  clear henv a; intro a henv
  refine wpList_nil ?_
  refine th_n ?_
  refine wp_ret ?_
  refine leave henv (res1 Tryd.results32 (RV.tmp henv rfl)) ?_
  exact ⟨_, rfl, ⟨_, _, _, rfl, hst.newRow (k := 0) (j := 0) rfl rfl, hl62, hz63.trans (zip_one _ _)⟩, hst.below⟩
set_option maxRecDepth 100000 in
set_option maxHeartbeats 2000000 in
theorem ref_sub {A0 A1 : Option Addr} {n0 c0 c1 : Nat} {es0 es1 : List NE} {xs ys : List Int} {w0 : World} (h0 : (pfRow fM FM 2 A0 n0 c0 es0).P w0) (hz0 : es0.map zz = xs) (h1 : (pfRow fM FM 2 A1 n0 c1 es1).P w0) (hz1 : es1.map zz = ys) (hk0 : Zk 10000 xs) (hk1 : Zk 10000 ys) (hn : n0 ≤ 100000000) :
    Calls Tryd.prog 33 #[.slice A0 n0 c0, .slice A1 n0 c1] w0 fun e w' => ∃ v, e = .returned v ∧ MRow w0.heap.size w' v n0 (List.zipWith (· - ·) xs ys) ∧ Below w0.heap.size w0 w' := by
  subst hz0 hz1
  refine enter Tryd.func33 rfl Tryd.ntmps33 rfl ?_
  intro a henv hst
  have hlen0 := h0.2.1
  have hlen1 := h1.2.1
  have hbig0 := Nat.le_trans h0.1.cap h0.1.big
  unfold maxLen at hbig0
  replace hst := (hst.argRow h1).argRow h0
  clear h0 h1
  refine wp_seq ?_
  refine region_seq ?_
  refine sv (v := .slice none 0 0) henv rfl (rn_assign henv rfl) ?_
  clear henv a; intro a henv
  refine wpList_nil ?_
  refine th_n ?_
  refine wp_seq ?_
  refine region_seq ?_
  refine seq_step rfl (op_call henv rfl Tryd.call29 rfl (of_r (n := (1 : Int)) (by decide) (by decide)) ?_)
  rintro e w54 ⟨_, rfl, ⟨A51, c52, rfl, hz53⟩, hb⟩
  refine ⟨_, rfl, ?_⟩
  clear henv a; intro a henv
  replace hst := (hst.call hb).addR hz53 trivial
  clear hz53
  clear hb
  refine sv (v := .slice A0 n0 c0) henv rfl (rn_move henv rfl) ?_
  clear henv a; intro a henv
  refine seq_step rfl (op_call henv rfl Tryd.call29 rfl (of_r (n := (-1 : Int)) (by decide) (by decide)) ?_)
  rintro e w58 ⟨_, rfl, ⟨A55, c56, rfl, hz57⟩, hb⟩
  refine ⟨_, rfl, ?_⟩
  clear henv a; intro a henv
  replace hst := (hst.call hb).addR hz57 trivial
  clear hz57
  clear hb
  refine sv (v := .slice A1 n0 c1) henv rfl (rn_move henv rfl) ?_
  clear henv a; intro a henv
  refine seq_step rfl (op_call henv rfl Tryd.call34 rfl (ref_combine (m := (1 : Int)) (l := (-1 : Int)) (hst.pat (k := 2) rfl) rfl (hst.pat (k := 3) rfl) rfl (show RIn _ A51 c52 1 from hst.pat (k := 1) rfl) (show RIn _ A55 c56 (-1) from hst.pat (k := 0) rfl) (zl_small (by decide)) (zl_small (by decide)) hk0 hk1 hn) ?_)
  rintro e w65 ⟨_, rfl, ⟨A59, c60, es61, rfl, hr, hl62, hz63⟩, hb⟩
  refine ⟨_, rfl, ?_⟩
  clear henv a; intro a henv
  replace hst := hst.freshRow hb hr (ap_M hr.2.1 ⟨nou_rowS, trivial⟩)
  clear hr
  clear hb
  refine sv (v := .slice A59 n0 c60) henv rfl (rn_assign henv rfl) ?_
  clear henv a; intro a henv
  refine wpList_nil ?_
  refine th_n ?_
  refine wp_ret ?_
  refine leave henv (res1 Tryd.results33 (RV.tmp henv rfl)) ?_
  exact ⟨_, rfl, ⟨_, _, _, rfl, hst.newRow (k := 0) (j := 0) rfl rfl, hl62, hz63.trans (zip_sub _ _)⟩, hst.below⟩
set_option maxRecDepth 100000 in
set_option maxHeartbeats 2000000 in
theorem ref_scale {A0 M : Option Addr} {n0 c0 d : Nat} {es0 : List NE} {xs : List Int} {m : Int} {w0 : World} (h0 : (pfRow fM FM 2 A0 n0 c0 es0).P w0) (hz0 : es0.map zz = xs) (hM : RIn w0 M d m) (hm : zl m ≤ 10000) (hk0 : Zk 10000 xs) (hn : n0 ≤ 100000000) :
    Calls Tryd.prog 28 #[.slice A0 n0 c0, .agg #[.bool (neg m), .slice M (dl m) d]] w0 fun e w' => ∃ v, e = .returned v ∧ MRow w0.heap.size w' v n0 (xs.map (m * ·)) ∧ Below w0.heap.size w0 w' := by
  subst hz0
  refine enter Tryd.func28 rfl Tryd.ntmps28 rfl ?_
  intro a henv hst
  replace hst := hst.addR hM trivial
  have hlen0 := h0.2.1
  replace hst := hst.argRow h0
  clear h0
  refine wp_seq ?_
  refine region_seq ?_
  refine seq_step rfl (op_box (c := #[.bool (neg m), .slice M (dl m) d]) henv hst rfl rfl rfl ?_)
  clear henv hst a; intro a w52 g51 henv hst
  refine sv (v := .slice none 0 0) henv rfl (rn_assign henv rfl) ?_
  clear henv a; intro a henv
  refine wpList_nil ?_
  refine th_n ?_
  refine wp_seq ?_
  refine region_seq ?_
  revert a
  refine sA (v := .agg #[.bool (neg m), .slice M (dl m) d]) rfl (fun _ henv => rn_load0 henv ty_anvil_anvilref02_Int rfl (hst.oat (k := 0) rfl) rfl) ?_
  refine mA rfl rfl ?_
  refine sA (v := .agg #[.bool (neg 0), .slice none (dl 0) 0]) rfl (fun _ henv => rn_zref) ?_
  refine mA rfl rfl ?_
  intro a henv
  replace hst := hst.addR (rin_none _) ⟨nou_bk rfl, trivial⟩
  refine seq_step rfl (op_call henv rfl Tryd.call34 rfl (ref_combine (m := m) (l := (0 : Int)) (hst.pat (k := 1) rfl) rfl (hst.pat (k := 1) rfl) rfl (show RIn _ M d m from hst.pat (k := 2) rfl) (show RIn _ none 0 0 from hst.pat (k := 0) rfl) hm (zl_small (by decide)) hk0 hk0 hn) ?_)
  rintro e w59 ⟨_, rfl, ⟨A53, c54, es55, rfl, hr, hl56, hz57⟩, hb⟩
  refine ⟨_, rfl, ?_⟩
  clear henv a; intro a henv
  replace hst := hst.freshRow hb hr (ap_M hr.2.1 ⟨nou_rowS, ⟨nou_bk rfl, trivial⟩⟩)
  clear hr
  clear hb
  refine sv (v := .slice A53 n0 c54) henv rfl (rn_assign henv rfl) ?_
  clear henv a; intro a henv
  refine wpList_nil ?_
  refine th_n ?_
  refine wp_ret ?_
  refine leave henv (res1 Tryd.results28 (RV.tmp henv rfl)) ?_
  exact ⟨_, rfl, ⟨_, _, _, rfl, hst.newRow (k := 0) (j := 0) rfl rfl, hl56, hz57.trans (zip_scale _ _)⟩, hst.below⟩
set_option maxRecDepth 100000 in
set_option maxHeartbeats 2000000 in
theorem ref_dot {A0 A1 : Option Addr} {n0 c0 c1 : Nat} {es0 es1 : List NE} {xs ys : List Int} {w0 : World} (h0 : (pfRow fM FM 2 A0 n0 c0 es0).P w0) (hz0 : es0.map zz = xs) (h1 : (pfRow fM FM 2 A1 n0 c1 es1).P w0) (hz1 : es1.map zz = ys) (hk0 : Zk 600 xs) (hk1 : Zk 600 ys) (hn : n0 ≤ 300) :
    Calls Tryd.prog 36 #[.slice A0 n0 c0, .slice A1 n0 c1] w0 fun e w' => ∃ v, e = .returned v ∧ RAt w' v (dotL xs ys) ∧ Below w0.heap.size w0 w' := by
  have hb0 := hk0.es hz0
  have hb1 := hk1.es hz1
  refine enter Tryd.func36 rfl Tryd.ntmps36 rfl ?_
  intro a henv hst
  have hlen0 := h0.2.1
  have hlen1 := h1.2.1
  have hbig0 := Nat.le_trans h0.1.cap h0.1.big
  unfold maxLen at hbig0
  replace hst := (hst.argRow h1).argRow h0
  clear h0 h1
  refine wp_seq ?_
  refine region_seq ?_
  refine seq_step rfl (op_alloc (c := #[.bool (neg 0), .slice none (dl 0) 0]) henv hst rfl zero_anvil_anvilref02_Int rcells ?_)
  clear henv hst a; intro a w52 g51 henv hst
  refine wpList_nil ?_
  refine th_n ?_
  refine wp_seq ?_
  refine region_seq ?_
  refine sv (v := .agg #[.bool (neg 0), .slice none (dl 0) 0]) henv rfl (rn_zref) ?_
  clear henv a; intro a henv
  refine seq_step rfl (op_alloc (c := #[.bool (neg 0), .slice none (dl 0) 0]) henv hst rfl zero_anvil_anvilref02_Int rcells ?_)
  clear henv hst a; intro a w54 g53 henv hst
  refine seq_step rfl (op_store (k := 0) (c' := #[.bool (neg 0), .slice none (dl 0) 0]) henv hst (ty_anvil_anvilref02_Int.size) rfl rfl rfl rfl (by simp) rfl rfl ?_)
  clear henv hst a; intro a w55 henv hst
  refine wpList_nil ?_
  refine th_n ?_
  refine wp_seq ?_
  refine wp_seq ?_
  refine region_seq ?_
  refine sv (v := .int .i64 0) henv rfl (rn_assign henv rfl) ?_
  clear henv a; intro a henv
  refine wpList_nil ?_
  refine th_n ?_
  refine wp_block ?_
  replace hst := hst.addR (rin_none _) ⟨nou_bk rfl, nou_bk rfl, trivial⟩
  refine wp_loop_ghost (fun mz a w => ∃ j : Nat, ∃ m : Int, ∃ B : Option Addr, ∃ d : Nat, n0 - j = mz ∧ Env 26 a [(0, .slice A0 n0 c0), (1, .slice A1 n0 c1), (4, .pointer (some ⟨g51, 0, none⟩)), (5, .pointer (some ⟨g53, 0, none⟩)), (6, .int .i64 (j : Nat))] ∧ St w0 w [bk g53 #[.bool (neg m), .slice B (dl m) d] 39, bk g51 #[.bool (neg 0), .slice none (dl 0) 0] 39] [pfR B d m, pfRow fM FM 2 A0 n0 c0 es0, pfRow fM FM 2 A1 n0 c1 es1] ∧ j ≤ n0 ∧ m = dotL (xs.take j) (ys.take j)) _ ⟨0, 0, none, 0, rfl, henv.sub ⟨rfl, rfl, rfl, rfl, rfl, trivial⟩, hst.pick [0, 1] [0, 1, 2] (by decide), (Nat.zero_le _), rfl⟩ ?_
  clear henv hst a
  rintro mz a w56 ⟨j, m, B, d, rfl, henv, hst, hj, hm⟩
  have hms := dot_sz hk0 hk1 hn hj hm
  have dms := dl_zl m
  refine wp_seq ?_
  refine wp_seq ?_
  refine region_seq ?_
  revert a
  refine mA rfl rfl ?_
  refine mA rfl rfl ?_
  refine sA (v := .int .i64 (n0 : Nat)) rfl (fun _ henv => rn_len henv Tryd.underlying32 rfl) ?_
  refine sA (v := .bool (decide (((j : Nat) : Int) < ((n0 : Nat) : Int)))) rfl (fun _ henv => rn_bin henv rfl rfl rfl) ?_
  intro a henv
  refine wpList_nil ?_
  refine th_n ?_
  refine if_split henv rfl (fun hc57 => ?_) (fun hc57 => ?_)
  · have hlt : j < n0 := by have := of_decide_eq_true hc57; omega
    obtain ⟨⟨A, c, x⟩, he0⟩ : ∃ e, es0[j]? = some e := ⟨_, List.getElem?_eq_getElem (by omega)⟩
    replace hst := hst.elem (k := 1) rfl he0
    replace hst : St w0 _ [bk g53 #[.bool (neg m), .slice B (dl m) d] 39, bk g51 #[.bool (neg 0), .slice none (dl 0) 0] 39] [pfR A c x, pfR B d m, pfRow fM FM 2 A0 n0 c0 es0, pfRow fM FM 2 A1 n0 c1 es1] := hst
    obtain ⟨⟨C, e, y⟩, he1⟩ : ∃ e, es1[j]? = some e := ⟨_, List.getElem?_eq_getElem (by omega)⟩
    replace hst := hst.elem (k := 3) rfl he1
    replace hst : St w0 _ [bk g53 #[.bool (neg m), .slice B (dl m) d] 39, bk g51 #[.bool (neg 0), .slice none (dl 0) 0] 39] [pfR C e y, pfR A c x, pfR B d m, pfRow fM FM 2 A0 n0 c0 es0, pfRow fM FM 2 A1 n0 c1 es1] := hst
    have hx1 := hb0.at he0
    have hy1 := hb1.at he1
    have dx := dl_zl x
    have dy := dl_zl y
    have hxy := dl_mul x y
    refine wp_skip ?_
    refine th_n ?_
    refine wp_seq ?_
    refine wp_block ?_
    refine region_any (n := 12) (Sk [bk g51 #[.bool (neg 0), .slice none (dl 0) 0] 39] [pfR C e y, pfR A c x, pfR B d m, pfRow fM FM 2 A0 n0 c0 es0, pfRow fM FM 2 A1 n0 c1 es1] [11] [bk g53 #[.bool (neg m), .slice B (dl m) d] 39]) mixed rfl henv hst ?_
    clear henv hst; intro w58 henv hst
    refine sAny_take (i := 0) [10, 11] (fun w' => w'.heap[g53]? = some (.cells #[.bool (neg m), .slice B (dl m) d] 39 (0, 0))) (v := .agg #[.bool (neg m), .slice B (dl m) d]) rfl (by kernel_rfl) (fun _ _ _ h => h) (fun _ _ hj hS => (hS.two rfl hj).oat (k := 0) rfl) henv rfl (hst.oat (k := 0) rfl) (fun w' hg => rn_load0 henv ty_anvil_anvilref02_Int rfl hg rfl) ?_
    clear henv a; intro a henv
    refine tM (i := 1) [3, 4, 9, 10, 11] rfl (by kernel_rfl) (fun _ _ _ h => h) henv rfl rfl ?_
    clear henv a; intro a henv
    refine tM (i := 2) [3, 4, 9, 10, 11] rfl (by kernel_rfl) (fun _ _ _ h => h) henv rfl rfl ?_
    clear henv a; intro a henv
    refine sAny_take (i := 3) [4, 9, 10, 11] (fun w' => (pfRow fM FM 2 A0 n0 c0 es0).P w') (v := .pointer (some ⟨ab A0, ao A0 + j * 2, none⟩)) rfl (by kernel_rfl) (fun _ _ _ h => h) (fun _ _ _ hS => hS.1.pat (k := 3) rfl) henv rfl (hst.pat (k := 3) rfl) (fun w' hg => rn_idxR (i := j) henv Tryd.underlying32 (ty_anvil_anvilref02_Int.size) rfl rfl (by omega) rfl (show (pfRow fM FM 2 A0 n0 c0 es0).P _ from hg).1) ?_
    clear henv a; intro a henv
    refine sAny_take (i := 4) [9, 10, 11] (fun w' => (pfRow fM FM 2 A0 n0 c0 es0).P w') (v := .agg #[.bool (neg x), .slice A (dl x) c]) rfl (by kernel_rfl) (fun _ _ _ h => h) (fun _ _ _ hS => hS.1.pat (k := 3) rfl) henv rfl (hst.pat (k := 3) rfl) (fun w' hg => rn_loadE (i := j) (e := (A, c, x)) henv ty_anvil_anvilref02_Int rfl rfl fM_len (show (pfRow fM FM 2 A0 n0 c0 es0).P _ from hg).1 (by omega) he0 rfl) ?_
    clear henv a; intro a henv
    refine tM (i := 5) (rg 7 5) rfl (by kernel_rfl) (fun _ _ _ h => h) henv rfl rfl ?_
    clear henv a; intro a henv
    refine tM (i := 6) (rg 7 5) rfl (by kernel_rfl) (fun _ _ _ h => h) henv rfl rfl ?_
    clear henv a; intro a henv
    refine sAny_take (i := 7) [8, 9, 10, 11] (fun w' => (pfRow fM FM 2 A1 n0 c1 es1).P w') (v := .pointer (some ⟨ab A1, ao A1 + j * 2, none⟩)) rfl (by kernel_rfl) (fun _ _ _ h => h) (fun _ _ _ hS => hS.1.pat (k := 4) rfl) henv rfl (hst.pat (k := 4) rfl) (fun w' hg => rn_idxR (i := j) henv Tryd.underlying32 (ty_anvil_anvilref02_Int.size) rfl rfl (by omega) rfl (show (pfRow fM FM 2 A1 n0 c1 es1).P _ from hg).1) ?_
    clear henv a; intro a henv
    refine sAny_take (i := 8) [9, 10, 11] (fun w' => (pfRow fM FM 2 A1 n0 c1 es1).P w') (v := .agg #[.bool (neg y), .slice C (dl y) e]) rfl (by kernel_rfl) (fun _ _ _ h => h) (fun _ _ _ hS => hS.1.pat (k := 4) rfl) henv rfl (hst.pat (k := 4) rfl) (fun w' hg => rn_loadE (i := j) (e := (C, e, y)) henv ty_anvil_anvilref02_Int rfl rfl fM_len (show (pfRow fM FM 2 A1 n0 c1 es1).P _ from hg).1 (by omega) he1 rfl) ?_
    clear henv a; intro a henv
    have hs59 := dl_mul x y
    refine sAny_one (i := 9) (by kernel_rfl) rfl rfl (op_call henv rfl Tryd.call105 rfl (mul_r (x := x) (y := y) (show RIn _ A c x from hst.pat (k := 1) rfl) (show RIn _ C e y from hst.pat (k := 0) rfl) (by omega) (by omega)) ?_)
    rintro e w63 ⟨_, rfl, ⟨A60, c61, rfl, hz62⟩, hb⟩
    refine ⟨_, rfl, ?_⟩
    clear henv a; intro a henv
    replace hst := (hst.call hb).addR hz62 ⟨nou_bk rfl, nou_bk rfl, trivial⟩
    clear hz62
    clear hb
    refine ⟨.inr ⟨hst.kn.pick [1] (rg 1 5), .inr (hst.kn.pick [0] [])⟩, ?_⟩
    have hs64 := dl_add m (x * y)
    refine sAny_one (i := 10) (by kernel_rfl) rfl rfl (op_call henv rfl Tryd.call104 rfl (add_r (x := m) (y := x * y) (show RIn _ B d m from hst.pat (k := 3) rfl) (show RIn _ A60 c61 (x * y) from hst.pat (k := 0) rfl) (by omega) (by omega)) ?_)
    rintro e w68 ⟨_, rfl, ⟨A65, c66, rfl, hz67⟩, hb⟩
    refine ⟨_, rfl, ?_⟩
    clear henv a; intro a henv
    replace hst := (hst.call hb).addR hz67 ⟨nou_bk rfl, nou_bk rfl, trivial⟩
    clear hz67
    clear hb
    refine ⟨.inr ⟨hst.kn.pick [1] (rg 2 5), .inr (hst.kn.pick [0] [])⟩, ?_⟩
    refine sAny_one (i := 11) (by kernel_rfl) rfl rfl (op_store (k := 0) (c' := #[.bool (neg (m + (x * y))), .slice A65 (dl (m + (x * y))) c66]) henv hst (ty_anvil_anvilref02_Int.size) rfl rfl rfl rfl (by simp) rfl rfl ?_)
    clear henv hst a; intro a w69 henv hst
    refine ⟨.inr ⟨hst.kn.pick [1] (rg 2 5), .inl rfl⟩, ?_⟩
    refine sAny_done (by kernel_rfl) ?_ _
    refine bl_n (th_n ?_)
    refine region_seq ?_
    revert a
    refine mA rfl rfl ?_
    refine sA (v := .int .i64 (j + 1 : Nat)) rfl (fun _ henv => rn_add henv rfl rfl (by rw [IntWalk.i64_in _ (by omega)]; omega)) ?_
    refine aA rfl rfl ?_
    intro a henv
    refine wpList_nil ?_
    exact th_n ⟨_, (by omega), ⟨j + 1, (m + x * y), A65, c66, rfl, henv.sub ⟨rfl, rfl, rfl, rfl, rfl, trivial⟩, hst.pick [0, 1] [0, 5, 6] (by decide), (by omega), (dot_step hz0 hz1 hm he0 he1)⟩⟩
  · have hjn : j = n0 := by have := of_decide_eq_false hc57; omega
    refine wp_exit ?_
    refine th_x (th_x (bl_x (th_n ?_)))
    refine wp_seq ?_
    refine region_seq ?_
    refine sv (v := .agg #[.bool (neg m), .slice B (dl m) d]) henv rfl (rn_load0 henv ty_anvil_anvilref02_Int rfl (hst.oat (k := 0) rfl) rfl) ?_
    clear henv a; intro a henv
    refine seq_step rfl (op_store (k := 1) (c' := #[.bool (neg m), .slice B (dl m) d]) henv hst (ty_anvil_anvilref02_Int.size) rfl rfl rfl rfl (by simp) rfl rfl ?_)
    clear henv hst a; intro a w70 henv hst
    refine wpList_nil ?_
    refine th_n ?_
    refine wp_ret ?_
    refine leave henv (res1 Tryd.results36 (RV.cell henv ty_anvil_anvilref02_Int rfl (hst.oat (k := 1) rfl) rfl)) ?_
    have hfin : m = dotL xs ys := by rw [hm, List.take_of_length_le (by rw [← hz0, List.length_map]; omega), List.take_of_length_le (by rw [← hz1, List.length_map]; omega)]
    exact ⟨_, rfl, (by rw [← hfin]; exact ⟨_, _, rfl, hst.pat (k := 0) rfl⟩), hst.below⟩
set_option maxRecDepth 100000 in
set_option maxHeartbeats 2000000 in
theorem row_is {A0 A1 : Option Addr} {n0 c0 c1 : Nat} {es0 es1 : List NE} {xs : List Int} {w0 : World} (h0 : (pfRow fN FN 2 A0 n0 c0 es0).P w0) (hz0 : es0.map zz = xs) (h1 : (pfRow fM FM 2 A1 n0 c1 es1).P w0) (hz1 : es1.map zz = xs) (hk : Zk 100000 xs) :
    Calls Tryd.prog 27 #[.slice A0 n0 c0, .slice A1 n0 c1] w0 fun e w' => e = .returned (.bool true) ∧ Below w0.heap.size w0 w' := by
  have hb0 := hk.es hz0
  refine enter Tryd.func27 rfl Tryd.ntmps27 rfl ?_
  intro a henv hst
  have hlen0 := h0.2.1
  have hlen1 := h1.2.1
  have hbig0 := Nat.le_trans h0.1.cap h0.1.big
  unfold maxLen at hbig0
  replace hst := (hst.argRow h1).argRow h0
  clear h0 h1
  refine wp_seq ?_
  refine region_seq ?_
  refine sv (v := .bool false) henv rfl (rn_assign henv rfl) ?_
  clear henv a; intro a henv
  refine wpList_nil ?_
  refine th_n ?_
  refine wp_seq ?_
  refine wp_seq ?_
  refine region_seq ?_
  revert a
  refine mA rfl rfl ?_
  refine sA (v := .int .i64 (n0 : Nat)) rfl (fun _ henv => rn_len henv Tryd.underlying30 rfl) ?_
  refine mA rfl rfl ?_
  refine sA (v := .int .i64 (n0 : Nat)) rfl (fun _ henv => rn_len henv Tryd.underlying32 rfl) ?_
  refine sA (v := .bool (((n0 : Nat) : Int) != ((n0 : Nat) : Int))) rfl (fun _ henv => rn_bin henv rfl rfl rfl) ?_
  intro a henv
  rw [show (((n0 : Nat) : Int) != ((n0 : Nat) : Int)) = false from (bne_self_eq_false _)] at henv
  refine wpList_nil ?_
  refine th_n ?_
  refine if_f henv rfl (rfl) ?_
  refine wp_skip ?_
  refine th_n ?_
  refine wp_seq ?_
  refine wp_seq ?_
  refine region_seq ?_
  refine sv (v := .int .i64 0) henv rfl (rn_assign henv rfl) ?_
  clear henv a; intro a henv
  refine wpList_nil ?_
  refine th_n ?_
  refine wp_block ?_
  refine wp_loop_ghost (fun mz a w => ∃ j : Nat, n0 - j = mz ∧ Env 27 a [(0, .slice A0 n0 c0), (1, .slice A1 n0 c1), (4, .bool false), (5, .int .i64 (j : Nat))] ∧ St w0 w [] [pfRow fN FN 2 A0 n0 c0 es0, pfRow fM FM 2 A1 n0 c1 es1] ∧ j ≤ n0) _ ⟨0, rfl, henv.sub ⟨rfl, rfl, rfl, rfl, trivial⟩, hst.pick [] [0, 1] (by decide), (Nat.zero_le _)⟩ ?_
  clear henv hst a
  rintro mz a w51 ⟨j, rfl, henv, hst, hj⟩
  refine wp_seq ?_
  refine wp_seq ?_
  refine region_seq ?_
  revert a
  refine mA rfl rfl ?_
  refine mA rfl rfl ?_
  refine sA (v := .int .i64 (n0 : Nat)) rfl (fun _ henv => rn_len henv Tryd.underlying30 rfl) ?_
  refine sA (v := .bool (decide (((j : Nat) : Int) < ((n0 : Nat) : Int)))) rfl (fun _ henv => rn_bin henv rfl rfl rfl) ?_
  intro a henv
  refine wpList_nil ?_
  refine th_n ?_
  refine if_split henv rfl (fun hc52 => ?_) (fun hc52 => ?_)
  · have hlt : j < n0 := by have := of_decide_eq_true hc52; omega
    obtain ⟨⟨A, c, x⟩, he0⟩ : ∃ e, es0[j]? = some e := ⟨_, List.getElem?_eq_getElem (by omega)⟩
    replace hst := hst.elem (k := 0) rfl he0
    replace hst : St w0 _ [] [pfZ A c x, pfRow fN FN 2 A0 n0 c0 es0, pfRow fM FM 2 A1 n0 c1 es1] := hst
    obtain ⟨⟨C, e, y⟩, he1⟩ : ∃ e, es1[j]? = some e := ⟨_, List.getElem?_eq_getElem (by omega)⟩
    replace hst := hst.elem (k := 2) rfl he1
    replace hst : St w0 _ [] [pfR C e y, pfZ A c x, pfRow fN FN 2 A0 n0 c0 es0, pfRow fM FM 2 A1 n0 c1 es1] := hst
    obtain rfl : x = y := same_at hz0 hz1 he0 he1
    have hx1 := hb0.at he0
    refine wp_skip ?_
    refine th_n ?_
    refine wp_seq ?_
    refine wp_block ?_
    refine wp_seq ?_
    refine region_any (n := 10) (Sk [] [pfR C e x, pfZ A c x, pfRow fN FN 2 A0 n0 c0 es0, pfRow fM FM 2 A1 n0 c1 es1] [] []) mixed rfl henv hst ?_
    clear henv hst; intro w53 henv hst
    refine tM (i := 0) [2, 3, 8, 9] rfl (by kernel_rfl) (fun _ _ _ h => h) henv rfl rfl ?_
    clear henv a; intro a henv
    refine tM (i := 1) [2, 3, 8, 9] rfl (by kernel_rfl) (fun _ _ _ h => h) henv rfl rfl ?_
    clear henv a; intro a henv
    refine sAny_take (i := 2) [3, 8, 9] (fun w' => (pfRow fN FN 2 A0 n0 c0 es0).P w') (v := .pointer (some ⟨ab A0, ao A0 + j * 2, none⟩)) rfl (by kernel_rfl) (fun _ _ _ h => h) (fun _ _ _ hS => hS.1.pat (k := 2) rfl) henv rfl (hst.pat (k := 2) rfl) (fun w' hg => rn_idxR (i := j) henv Tryd.underlying30 (ty_anvil_integer_Int.size) rfl rfl (by omega) rfl (show (pfRow fN FN 2 A0 n0 c0 es0).P _ from hg).1) ?_
    clear henv a; intro a henv
    refine sAny_take (i := 3) [8, 9] (fun w' => (pfRow fN FN 2 A0 n0 c0 es0).P w') (v := .agg #[.bool (neg x), .slice A (zl x) c]) rfl (by kernel_rfl) (fun _ _ _ h => h) (fun _ _ _ hS => hS.1.pat (k := 2) rfl) henv rfl (hst.pat (k := 2) rfl) (fun w' hg => rn_loadE (i := j) (e := (A, c, x)) henv ty_anvil_integer_Int rfl rfl fN_len (show (pfRow fN FN 2 A0 n0 c0 es0).P _ from hg).1 (by omega) he0 rfl) ?_
    clear henv a; intro a henv
    refine tM (i := 4) (rg 6 4) rfl (by kernel_rfl) (fun _ _ _ h => h) henv rfl rfl ?_
    clear henv a; intro a henv
    refine tM (i := 5) (rg 6 4) rfl (by kernel_rfl) (fun _ _ _ h => h) henv rfl rfl ?_
    clear henv a; intro a henv
    refine sAny_take (i := 6) [7, 8, 9] (fun w' => (pfRow fM FM 2 A1 n0 c1 es1).P w') (v := .pointer (some ⟨ab A1, ao A1 + j * 2, none⟩)) rfl (by kernel_rfl) (fun _ _ _ h => h) (fun _ _ _ hS => hS.1.pat (k := 3) rfl) henv rfl (hst.pat (k := 3) rfl) (fun w' hg => rn_idxR (i := j) henv Tryd.underlying32 (ty_anvil_anvilref02_Int.size) rfl rfl (by omega) rfl (show (pfRow fM FM 2 A1 n0 c1 es1).P _ from hg).1) ?_
    clear henv a; intro a henv
    refine sAny_take (i := 7) [8, 9] (fun w' => (pfRow fM FM 2 A1 n0 c1 es1).P w') (v := .agg #[.bool (neg x), .slice C (dl x) e]) rfl (by kernel_rfl) (fun _ _ _ h => h) (fun _ _ _ hS => hS.1.pat (k := 3) rfl) henv rfl (hst.pat (k := 3) rfl) (fun w' hg => rn_loadE (i := j) (e := (C, e, x)) henv ty_anvil_anvilref02_Int rfl rfl fM_len (show (pfRow fM FM 2 A1 n0 c1 es1).P _ from hg).1 (by omega) he1 rfl) ?_
    clear henv a; intro a henv
    refine sAny_one (i := 8) (by kernel_rfl) rfl rfl (op_call henv rfl Tryd.call35 rfl (num_one (z := x) (show ZIn _ A c x from hst.pat (k := 1) rfl) (show RIn _ C e x from hst.pat (k := 0) rfl) hx1) ?_)
    rintro e w54 ⟨rfl, hb⟩
    refine ⟨_, rfl, ?_⟩
    clear henv a; intro a henv
    replace hst := hst.call hb
    clear hb
    refine ⟨.inr ⟨hst.kn.pick [] (rg 0 4), .inr (hst.kn.pick [] [])⟩, ?_⟩
    refine tA (i := 9) [] (v := .bool false) rfl (by kernel_rfl) (fun _ _ _ h => h) henv rfl (fun _ => rn_un henv rfl rfl) ?_
    clear henv a; intro a henv
    refine sAny_done (by kernel_rfl) ?_ _
    refine th_n ?_
    refine if_f henv rfl (rfl) ?_
    refine wp_skip ?_
    refine bl_n (th_n ?_)
    refine region_seq ?_
    revert a
    refine mA rfl rfl ?_
    refine sA (v := .int .i64 (j + 1 : Nat)) rfl (fun _ henv => rn_add henv rfl rfl (by rw [IntWalk.i64_in _ (by omega)]; omega)) ?_
    refine aA rfl rfl ?_
    intro a henv
    refine wpList_nil ?_
    exact th_n ⟨_, (by omega), ⟨j + 1, rfl, henv.sub ⟨rfl, rfl, rfl, rfl, trivial⟩, hst.pick [] [2, 3] (by decide), (by omega)⟩⟩
  · have hjn : j = n0 := by have := of_decide_eq_false hc52; omega
    refine wp_exit ?_
    refine th_x (th_x (bl_x (th_n ?_)))
    refine wp_seq ?_
    refine region_seq ?_
    refine sv (v := .bool true) henv rfl (rn_assign henv rfl) ?_
    clear henv a; intro a henv
    refine wpList_nil ?_
    refine th_n ?_
    refine wp_ret ?_
    refine leave henv (res1 Tryd.results27 (RV.tmp henv rfl)) ?_
    exact ⟨rfl, hst.below⟩
set_option maxRecDepth 100000 in
set_option maxHeartbeats 2000000 in
theorem row_own {E : PF} {A0 A1 A2 : Option Addr} {n0 c0 n1 c1 c2 : Nat} {es0 es1 es2 : List NE} {xs : List Int} {w0 w1 : World} (hS : St w0 w1 [rowS notU 36 2 A0 n0 c0 (fl fN es0)] [E, pfRow fN FN 2 A1 n1 c1 es1, pfRow fM FM 2 A2 n1 c2 es2]) (hz1 : es1.map zz = xs) (hz2 : es2.map zz = xs) (hk : Zk 100000 xs) :
    Calls Tryd.prog 30 #[.slice A0 n0 c0, .slice A1 n1 c1, .slice A2 n1 c2] w1 fun e w' => e = .returned (.bool true) ∧ St w0 w' [] [E] := by
  refine enter Tryd.func30 rfl Tryd.ntmps30 rfl ?_
  intro a henv hst
  clear hst
  have hst := hS
  clear hS
  have hcb := rowS_cap (hst.owns (k := 0) rfl)
  obtain ⟨hcb1, hcb2⟩ := hcb
  unfold maxLen at hcb2
  obtain ⟨ps, hps, hst2⟩ := hst.rowAll (k := 0) rfl
  clear hst
  have hst := hst2
  clear hst2
  replace hst : St w0 _ [rowS notU 36 2 A0 c0 c0 (fl fP ps)] [E, pfRow fN FN 2 A1 n1 c1 es1, pfRow fM FM 2 A2 n1 c2 es2] := hst
  refine wp_seq ?_
  refine region_seq ?_
  refine sv (v := .bool false) henv rfl (rn_assign henv rfl) ?_
  clear henv a; intro a henv
  refine wpList_nil ?_
  refine th_n ?_
  refine wp_seq ?_
  refine region_seq ?_
  revert a
  refine mA rfl rfl ?_
  refine mA rfl rfl ?_
  refine sA (v := .int .i64 (c0 : Nat)) rfl (fun _ henv => rn_cap henv Tryd.underlying30 rfl) ?_
  refine sA (v := .slice A0 c0 c0) rfl (fun _ henv => rn_sliceTo (m := c0) henv Tryd.underlying30 (ty_anvil_integer_Int.size) rfl rfl (by omega)) ?_
  refine aA rfl rfl ?_
  intro a henv
  refine wpList_nil ?_
  refine th_n ?_
  refine wp_seq ?_
  refine wp_seq ?_
  refine region_seq ?_
  refine sv (v := .int .i64 0) henv rfl (rn_assign henv rfl) ?_
  clear henv a; intro a henv
  refine wpList_nil ?_
  refine th_n ?_
  refine wp_block ?_
  refine wp_loop_ghost (fun mz a w => ∃ j : Nat, ∃ qs : List PE, c0 - j = mz ∧ Env 25 a [(0, .slice A0 c0 c0), (1, .slice A1 n1 c1), (2, .slice A2 n1 c2), (6, .bool false), (7, .int .i64 (j : Nat))] ∧ St w0 w [rowS notU 36 2 A0 c0 c0 (fl fP qs)] [E, pfRow fN FN 2 A1 n1 c1 es1, pfRow fM FM 2 A2 n1 c2 es2] ∧ j ≤ c0 ∧ qs.length = c0) _ ⟨0, ps, rfl, henv.sub ⟨rfl, rfl, rfl, rfl, rfl, trivial⟩, hst.pick [0] [0, 1, 2] (by decide), (Nat.zero_le _), hps⟩ ?_
  clear henv hst a
  rintro mz a w51 ⟨j, qs, rfl, henv, hst, hj, hq⟩
  refine wp_seq ?_
  refine wp_seq ?_
  refine region_seq ?_
  revert a
  refine mA rfl rfl ?_
  refine mA rfl rfl ?_
  refine sA (v := .int .i64 (c0 : Nat)) rfl (fun _ henv => rn_len henv Tryd.underlying30 rfl) ?_
  refine sA (v := .bool (decide (((j : Nat) : Int) < ((c0 : Nat) : Int)))) rfl (fun _ henv => rn_bin henv rfl rfl rfl) ?_
  intro a henv
  refine wpList_nil ?_
  refine th_n ?_
  refine if_split henv rfl (fun hc52 => ?_) (fun hc52 => ?_)
  · have hlt : j < c0 := by have := of_decide_eq_true hc52; omega
    refine wp_skip ?_
    refine th_n ?_
    refine wp_seq ?_
    refine wp_block ?_
    refine region_seq ?_
    revert a
    refine mA rfl rfl ?_
    refine mA rfl rfl ?_
    intro a henv
    refine seq_step rfl (op_call henv rfl Tryd.call43 rfl (of_z (n := (987654321 : Int)) (by decide) (by decide)) ?_)
    rintro e w56 ⟨_, rfl, ⟨A53, c54, rfl, hz55⟩, hb⟩
    refine ⟨_, rfl, ?_⟩
    clear henv a; intro a henv
    replace hst := (hst.call hb).addZ hz55 ⟨nou_rowS, trivial⟩
    clear hz55
    clear hb
    refine sv (v := .pointer (some ⟨ab A0, ao A0 + j * 2, none⟩)) henv rfl (rn_idxR (i := j) henv Tryd.underlying30 (ty_anvil_integer_Int.size) rfl rfl (by omega) rfl (rowS_rd (hst.owns (k := 0) rfl))) ?_
    clear henv a; intro a henv
    refine seq_step rfl (op_storeS (i := j) (e := (.bool (neg 987654321), .slice A53 (zl 987654321) c54)) (k := 0) henv hst (ty_anvil_integer_Int.size) rfl rfl rfl rfl fP_len (by omega) hq rfl rfl rfl ?_)
    clear henv hst a; intro a w57 henv hst
    refine wpList_nil ?_
    refine bl_n (th_n ?_)
    refine region_seq ?_
    revert a
    refine mA rfl rfl ?_
    refine sA (v := .int .i64 (j + 1 : Nat)) rfl (fun _ henv => rn_add henv rfl rfl (by rw [IntWalk.i64_in _ (by omega)]; omega)) ?_
    refine aA rfl rfl ?_
    intro a henv
    refine wpList_nil ?_
    exact th_n ⟨_, (by omega), ⟨j + 1, (qs.set j (.bool (neg 987654321), .slice A53 (zl 987654321) c54)), rfl, henv.sub ⟨rfl, rfl, rfl, rfl, rfl, trivial⟩, hst.pick [0] [1, 2, 3] (by decide), (by omega), (by rw [List.length_set]; exact hq)⟩⟩
  · have hjn : j = c0 := by have := of_decide_eq_false hc52; omega
    refine wp_exit ?_
    refine th_x (th_x (bl_x (th_n ?_)))
    refine wp_seq ?_
    refine region_seq ?_
    revert a
    refine mA rfl rfl ?_
    refine mA rfl rfl ?_
    intro a henv
    refine seq_step rfl (op_call henv rfl Tryd.call27 rfl (row_is (hst.pat (k := 1) rfl) hz1 (hst.pat (k := 2) rfl) hz2 hk) ?_)
    rintro e w58 ⟨rfl, hb⟩
    refine ⟨_, rfl, ?_⟩
    clear henv a; intro a henv
    replace hst := hst.call hb
    clear hb
    refine sv (v := .bool true) henv rfl (rn_assign henv rfl) ?_
    clear henv a; intro a henv
    refine wpList_nil ?_
    refine th_n ?_
    refine wp_ret ?_
    refine leave henv (res1 Tryd.results30 (RV.tmp henv rfl)) ?_
    exact ⟨rfl, hst.pick [] [0] (by decide)⟩
end Go.Proofs.YtegglooojlheoaaDoor.W
