/- The laws' long. Printed by pv/gen_row4.py. No condition. -/
import Derived.Test.YtegglooojlheoaaDoorM47
import Derived.Test.YtegglooojlheoaaDoorM15
import Derived.Test.YtegglooojlheoaaDoorM37
import Derived.Test.YtegglooojlheoaaDoorM45

namespace Go.Proofs.YtegglooojlheoaaDoor.W
open Go.RowKit Anv Go.Lib
abbrev VE := Option Addr × Nat × Nat × List UE
def fV (v : VE) : List Value := [.slice v.1 v.2.1 v.2.2.1]
def FV (v : VE) : PF := pfRow fU FU 2 v.1 v.2.1 v.2.2.1 v.2.2.2
theorem fV_len (v : VE) : (fV v).length = 1 := rfl
def tl (us : List UE) : Nat := (us.map fun e => e.2.2.1).sum
def tv (vs : List VE) : Nat := (vs.map fun v => v.2.1 + tl v.2.2.2).sum
theorem sum_step (l : List Nat) : ∀ (k : Nat) (x : Nat), l[k]? = some x → (l.take (k + 1)).sum = (l.take k).sum + x := by
  induction l with
  | nil => intro k x h; cases h
  | cons y l ih =>
    intro k x h
    cases k with
    | zero =>
      rw [List.getElem?_cons_zero] at h
      cases h
      simp
    | succ k =>
      rw [List.getElem?_cons_succ] at h
      rw [List.take_succ_cons, List.take_succ_cons, List.sum_cons, List.sum_cons, ih k x h]
      omega
theorem tl_step {us : List UE} {k : Nat} {e : UE} (h : us[k]? = some e) : tl (us.take (k + 1)) = tl (us.take k) + e.2.2.1 := by
  unfold tl
  rw [List.map_take, List.map_take]
  exact sum_step _ k _ (by rw [List.getElem?_map, h]; rfl)
theorem tv_step {vs : List VE} {k : Nat} {A : Option Addr} {n c : Nat} {us : List UE} (h : vs[k]? = some (A, n, c, us)) : tv (vs.take (k + 1)) = tv (vs.take k) + (n + tl us) := by
  unfold tv
  rw [List.map_take, List.map_take]
  exact sum_step _ k _ (by rw [List.getElem?_map, h]; rfl)
def vz (e : UE) : Int := sg e.1 (val 4294967296 e.2.2.2.2)
theorem make_zv {b : Bool} {A : Option Addr} {n c : Nat} {xs : List Nat} {z : Int} {w : World} (h : U32 w A n c xs) (hz : sg b (val 4294967296 xs) = z) (hn : n ≤ 1000000) :
    Calls Tryd.prog 19 #[.bool b, .slice A n c] w fun e w' => ∃ v, e = .returned v ∧ ZAt w' v z ∧ Below w.heap.size w w' := by
  subst hz
  exact make_z ⟨xs, h, rfl⟩ (Nat.le_trans (nl_len ⟨xs, h, rfl⟩) hn)
theorem make_rv {b : Bool} {A : Option Addr} {n c : Nat} {xs : List Nat} {z : Int} {w : World} (h : U32 w A n c xs) (hz : sg b (val 4294967296 xs) = z) (hn : n ≤ 1000000) :
    Calls Tryd.prog 20 #[.bool b, .slice A n c] w fun e w' => ∃ v, e = .returned v ∧ RAt w' v z ∧ Below w.heap.size w w' := by
  subst hz
  exact make_r h hn
theorem same_rb4 {A B : Option Addr} {c d : Nat} {x y : Int} {w : World} (hx : RIn w A c x) (hy : RIn w B d y) :
    Calls Tryd.prog 107 #[.agg #[.bool (neg x), .slice A (dl x) c], .agg #[.bool (neg y), .slice B (dl y) d]] w fun e w' => e = .returned (.bool (decide (x = y))) ∧ Below w.heap.size w w' := by
  have h := same_r hx hy
  rw [show ((x - y).sign == 0) = decide (x = y) from ?_] at h
  · exact h
  · by_cases e : x = y
    · rw [e, Int.sub_self]; simp
    · rw [decide_eq_false e]
      exact beq_eq_false_iff_ne.2 fun h => e (by have := Int.sign_eq_zero_iff_zero.1 h; omega)
theorem step_num {us : List UE} {os : List NE} {j : Nat} {b : Bool} {A B : Option Addr} {q d c : Nat} {xs : List Nat} {z : Int} (ho : os.map zz = (us.map vz).take j) (he : us[j]? = some (b, A, q, d, xs)) (hz : sg b (val 4294967296 xs) = z) : (os ++ [(B, c, z)]).map zz = (us.map vz).take (j + 1) := by
  rw [List.map_append, ho, take_one (x := z) (by rw [List.getElem?_map, he, ← hz]; rfl)]
  rfl
set_option maxRecDepth 100000 in
set_option maxHeartbeats 2000000 in
theorem row_long {A0 : Option Addr} {n0 c0 : Nat} {es0 : List VE} {w0 : World} (h0 : (pfRow fV FV 1 A0 n0 c0 es0).P w0) (hS : ∀ v ∈ es0, v.2.1 ≤ 35184372088832 ∧ Sz v.2.2.2) :
    Calls Tryd.prog 17 #[.slice A0 n0 c0] w0 fun e w' => ∃ b, e = .returned (.bool b) ∧ (b = false → tv es0 ≤ 300) ∧ Below w0.heap.size w0 w' := by
  refine enter Tryd.func17 rfl Tryd.ntmps17 rfl ?_
  intro a henv hst
  have hlen0 := h0.2.1
  have hbig0 := Nat.le_trans h0.1.cap h0.1.big
  unfold maxLen at hbig0
  replace hst := hst.argRow h0
  clear h0
  refine wp_seq ?_
  refine region_seq ?_
  refine sv (v := .bool false) henv rfl (rn_assign henv rfl) ?_
  clear henv a; intro a henv
  refine wpList_nil ?_
  refine th_n ?_
  refine wp_seq ?_
  refine region_seq ?_
  refine sv (v := .int .i64 0) henv rfl (rn_assign henv rfl) ?_
  clear henv a; intro a henv
  refine wpList_nil ?_
  refine th_n ?_
  refine wp_seq ?_
  refine wp_seq ?_
  refine region_seq ?_
  refine sv (v := .int .i64 0) henv rfl (rn_assign henv rfl) ?_
  clear henv a; intro a henv
  refine wpList_nil ?_
  refine th_n ?_
  refine wp_block ?_
  refine wp_loop_ghost (fun mz a w => ∃ j : Nat, ∃ m : Nat, n0 - j = mz ∧ Env 43 a [(0, .slice A0 n0 c0), (2, .bool false), (3, .int .i64 (m : Nat)), (4, .int .i64 (j : Nat))] ∧ St w0 w [] [pfRow fV FV 1 A0 n0 c0 es0] ∧ j ≤ n0 ∧ m ≤ 300 ∧ m = tv (es0.take j)) _ ⟨0, 0, rfl, henv.sub ⟨rfl, rfl, rfl, rfl, trivial⟩, hst.pick [] [0] (by decide), (Nat.zero_le _), (by decide), rfl⟩ ?_
  clear henv hst a
  rintro mz a w1 ⟨j, m, rfl, henv, hst, hj, hm, hv⟩
  refine wp_seq ?_
  refine wp_seq ?_
  refine region_seq ?_
  revert a
  refine mA rfl rfl ?_
  refine mA rfl rfl ?_
  refine sA (v := .int .i64 (n0 : Nat)) rfl (fun _ henv => rn_len henv Tryd.underlying139 rfl) ?_
  refine sA (v := .bool (decide (((j : Nat) : Int) < ((n0 : Nat) : Int)))) rfl (fun _ henv => rn_bin henv rfl rfl rfl) ?_
  intro a henv
  refine wpList_nil ?_
  refine th_n ?_
  refine if_split henv rfl (fun hc2 => ?_) (fun hc2 => ?_)
  · have hlt : j < n0 := by have := of_decide_eq_true hc2; omega
    obtain ⟨⟨A, n, c, us⟩, he0⟩ : ∃ e, es0[j]? = some e := ⟨_, List.getElem?_eq_getElem (by omega)⟩
    obtain ⟨hn, hsz⟩ := hS _ (List.mem_of_getElem? he0)
    replace hn : n ≤ 35184372088832 := hn
    replace hsz : Sz us := hsz
    replace hst := hst.elem (k := 0) rfl he0
    replace hst : St w0 _ [] [pfRow fU FU 2 A n c us, pfRow fV FV 1 A0 n0 c0 es0] := hst
    have hlu : us.length = n := (hst.pat (k := 0) rfl).2.1
    refine wp_skip ?_
    refine th_n ?_
    refine wp_seq ?_
    refine wp_block ?_
    refine wp_seq ?_
    refine region_seq ?_
    revert a
    refine mA rfl rfl ?_
    refine mA rfl rfl ?_
    refine mA rfl rfl ?_
    refine sA (v := .pointer (some ⟨ab A0, ao A0 + j * 1, none⟩)) rfl (fun _ henv => rn_idxR (i := j) henv Tryd.underlying139 (ty__anvillaw04_Num.size) rfl rfl (by omega) rfl (show (pfRow fV FV 1 A0 n0 c0 es0).P _ from (hst.pat (k := 1) rfl)).1) ?_
    refine sA (v := .slice A n c) rfl (fun _ henv => rn_loadE1 (i := j) (j := 0) (e := (A, n, c, us)) henv ty__anvillaw04_Num rfl rfl fV_len (by decide) (show (pfRow fV FV 1 A0 n0 c0 es0).P _ from (hst.pat (k := 1) rfl)).1 (by omega) he0 rfl) ?_
    refine sA (v := .int .i64 (n : Nat)) rfl (fun _ henv => rn_len henv Tryd.underlying22 rfl) ?_
    refine sA (v := .int .i64 (m + n : Nat)) rfl (fun _ henv => rn_add henv rfl rfl (by rw [IntWalk.i64_in _ (by omega)]; omega)) ?_
    refine aA rfl rfl ?_
    intro a henv
    refine wpList_nil ?_
    refine th_n ?_
    refine wp_seq ?_
    refine wp_seq ?_
    refine region_seq ?_
    revert a
    refine mA rfl rfl ?_
    refine sA (v := .bool (decide (((m + n : Nat) : Int) > (300 : Int)))) rfl (fun _ henv => rn_bin henv rfl rfl rfl) ?_
    intro a henv
    refine wpList_nil ?_
    refine th_n ?_
    refine if_split henv rfl (fun hc3 => ?_) (fun hc3 => ?_)
    · have hcmp := of_decide_eq_true hc3
      refine wp_seq ?_
      refine region_seq ?_
      refine sv (v := .bool true) henv rfl (rn_assign henv rfl) ?_
      clear henv a; intro a henv
      refine wpList_nil ?_
      refine th_n ?_
      refine wp_ret ?_
      refine th_r (bl_r (th_r (th_r (bl_r (th_r ?_)))))
      refine leave henv (res1 Tryd.results17 (RV.tmp henv rfl)) ?_
      exact ⟨true, rfl, (fun h => by cases h), hst.below⟩
    · have hcmp := of_decide_eq_false hc3
      refine wp_skip ?_
      refine th_n ?_
      refine wp_seq ?_
      refine region_seq ?_
      refine sv (v := .int .i64 0) henv rfl (rn_assign henv rfl) ?_
      clear henv a; intro a henv
      refine wpList_nil ?_
      refine th_n ?_
      refine wp_block ?_
      refine wp_loop_ghost (fun mz a w => ∃ k : Nat, ∃ m2 : Nat, n - k = mz ∧ Env 43 a [(0, .slice A0 n0 c0), (2, .bool false), (3, .int .i64 (m2 : Nat)), (4, .int .i64 (j : Nat)), (5, .int .i64 (k : Nat))] ∧ St w0 w [] [pfRow fU FU 2 A n c us, pfRow fV FV 1 A0 n0 c0 es0] ∧ k ≤ n ∧ m2 ≤ 300 ∧ m2 = m + n + tl (us.take k)) _ ⟨0, (m + n), rfl, henv.sub ⟨rfl, rfl, rfl, rfl, rfl, trivial⟩, hst.pick [] [0, 1] (by decide), (Nat.zero_le _), (by omega), rfl⟩ ?_
      clear henv hst a
      rintro mz a w4 ⟨k, m2, rfl, henv, hst, hk, hm2, hv2⟩
      refine wp_seq ?_
      refine wp_seq ?_
      refine region_seq ?_
      revert a
      refine mA rfl rfl ?_
      refine mA rfl rfl ?_
      refine mA rfl rfl ?_
      refine sA (v := .pointer (some ⟨ab A0, ao A0 + j * 1, none⟩)) rfl (fun _ henv => rn_idxR (i := j) henv Tryd.underlying139 (ty__anvillaw04_Num.size) rfl rfl (by omega) rfl (show (pfRow fV FV 1 A0 n0 c0 es0).P _ from (hst.pat (k := 1) rfl)).1) ?_
      refine sA (v := .slice A n c) rfl (fun _ henv => rn_loadE1 (i := j) (j := 0) (e := (A, n, c, us)) henv ty__anvillaw04_Num rfl rfl fV_len (by decide) (show (pfRow fV FV 1 A0 n0 c0 es0).P _ from (hst.pat (k := 1) rfl)).1 (by omega) he0 rfl) ?_
      refine sA (v := .int .i64 (n : Nat)) rfl (fun _ henv => rn_len henv Tryd.underlying22 rfl) ?_
      refine sA (v := .bool (decide (((k : Nat) : Int) < ((n : Nat) : Int)))) rfl (fun _ henv => rn_bin henv rfl rfl rfl) ?_
      intro a henv
      refine wpList_nil ?_
      refine th_n ?_
      refine if_split henv rfl (fun hc5 => ?_) (fun hc5 => ?_)
      · have hlt2 : k < n := by have := of_decide_eq_true hc5; omega
        obtain ⟨⟨b, B, q, d, xs⟩, he1⟩ : ∃ e, us[k]? = some e := ⟨_, List.getElem?_eq_getElem (by omega)⟩
        have hq : q ≤ 35184372088832 := hsz.at he1
        refine wp_skip ?_
        refine th_n ?_
        refine wp_seq ?_
        refine wp_block ?_
        refine wp_seq ?_
        refine region_seq ?_
        revert a
        refine mA rfl rfl ?_
        refine mA rfl rfl ?_
        refine mA rfl rfl ?_
        refine sA (v := .pointer (some ⟨ab A0, ao A0 + j * 1, none⟩)) rfl (fun _ henv => rn_idxR (i := j) henv Tryd.underlying139 (ty__anvillaw04_Num.size) rfl rfl (by omega) rfl (show (pfRow fV FV 1 A0 n0 c0 es0).P _ from (hst.pat (k := 1) rfl)).1) ?_
        refine sA (v := .slice A n c) rfl (fun _ henv => rn_loadE1 (i := j) (j := 0) (e := (A, n, c, us)) henv ty__anvillaw04_Num rfl rfl fV_len (by decide) (show (pfRow fV FV 1 A0 n0 c0 es0).P _ from (hst.pat (k := 1) rfl)).1 (by omega) he0 rfl) ?_
        refine mA rfl rfl ?_
        refine sA (v := .pointer (some ⟨ab A, ao A + k * 2, none⟩)) rfl (fun _ henv => rn_idxR (i := k) henv Tryd.underlying22 (ty_anvil_anvillaw04_Num.size) rfl rfl (by omega) rfl (show (pfRow fU FU 2 A n c us).P _ from (hst.pat (k := 0) rfl)).1) ?_
        refine sA (v := .pointer (some ⟨ab A, ao A + k * 2 + 1, none⟩)) rfl (fun _ henv => rn_fieldAddr henv fd_anvil_anvillaw04_Num_1 (ty__uint32.size) (by decide) rfl) ?_
        refine sA (v := .slice B q d) rfl (fun _ henv => rn_loadE1 (i := k) (j := 1) (e := (b, B, q, d, xs)) henv ty__uint32 rfl rfl fU_len (by decide) (show (pfRow fU FU 2 A n c us).P _ from (hst.pat (k := 0) rfl)).1 (by omega) he1 rfl) ?_
        refine sA (v := .int .i64 (q : Nat)) rfl (fun _ henv => rn_len henv Tryd.underlying23 rfl) ?_
        refine sA (v := .int .i64 (m2 + q : Nat)) rfl (fun _ henv => rn_add henv rfl rfl (by rw [IntWalk.i64_in _ (by omega)]; omega)) ?_
        refine aA rfl rfl ?_
        intro a henv
        refine wpList_nil ?_
        refine th_n ?_
        refine wp_seq ?_
        refine region_seq ?_
        revert a
        refine mA rfl rfl ?_
        refine sA (v := .bool (decide (((m2 + q : Nat) : Int) > (300 : Int)))) rfl (fun _ henv => rn_bin henv rfl rfl rfl) ?_
        intro a henv
        refine wpList_nil ?_
        refine th_n ?_
        refine if_split henv rfl (fun hc6 => ?_) (fun hc6 => ?_)
        · have hcmp := of_decide_eq_true hc6
          refine wp_seq ?_
          refine region_seq ?_
          refine sv (v := .bool true) henv rfl (rn_assign henv rfl) ?_
          clear henv a; intro a henv
          refine wpList_nil ?_
          refine th_n ?_
          refine wp_ret ?_
          refine bl_r (th_r (th_r (bl_r (bl_r (th_r (th_r (bl_r (th_r ?_))))))))
          refine leave henv (res1 Tryd.results17 (RV.tmp henv rfl)) ?_
          exact ⟨true, rfl, (fun h => by cases h), hst.below⟩
        · have hcmp := of_decide_eq_false hc6
          refine wp_skip ?_
          refine bl_n (th_n ?_)
          refine region_seq ?_
          revert a
          refine mA rfl rfl ?_
          refine sA (v := .int .i64 (k + 1 : Nat)) rfl (fun _ henv => rn_add henv rfl rfl (by rw [IntWalk.i64_in _ (by omega)]; omega)) ?_
          refine aA rfl rfl ?_
          intro a henv
          refine wpList_nil ?_
          exact th_n ⟨_, (by omega), ⟨k + 1, (m2 + q), rfl, henv.sub ⟨rfl, rfl, rfl, rfl, rfl, trivial⟩, hst.pick [] [0, 1] (by decide), (by omega), (by omega), (by rw [tl_step he1]; show _ = m + n + (tl (us.take k) + q); omega)⟩⟩
      · have hkn : k = n := by have := of_decide_eq_false hc5; omega
        have hlast : m2 = m + n + tl us := by rw [hv2, hkn, ← hlu, List.take_length]
        refine wp_exit ?_
        refine th_x (th_x (bl_x (bl_n (th_n ?_))))
        refine region_seq ?_
        revert a
        refine mA rfl rfl ?_
        refine sA (v := .int .i64 (j + 1 : Nat)) rfl (fun _ henv => rn_add henv rfl rfl (by rw [IntWalk.i64_in _ (by omega)]; omega)) ?_
        refine aA rfl rfl ?_
        intro a henv
        refine wpList_nil ?_
        exact th_n ⟨_, (by omega), ⟨j + 1, m2, rfl, henv.sub ⟨rfl, rfl, rfl, rfl, trivial⟩, hst.pick [] [1] (by decide), (by omega), (by omega), (by rw [tv_step he0]; omega)⟩⟩
  · have hjn : j = n0 := by have := of_decide_eq_false hc2; omega
    refine wp_exit ?_
    refine th_x (th_x (bl_x (th_n ?_)))
    refine wp_seq ?_
    refine region_seq ?_
    refine sv (v := .bool false) henv rfl (rn_assign henv rfl) ?_
    clear henv a; intro a henv
    refine wpList_nil ?_
    refine th_n ?_
    refine wp_ret ?_
    refine leave henv (res1 Tryd.results17 (RV.tmp henv rfl)) ?_
    exact ⟨false, rfl, (fun _ => by rw [hjn, ← hlen0, List.take_length] at hv; omega), hst.below⟩
set_option maxRecDepth 100000 in
set_option maxHeartbeats 2000000 in
theorem row_of2 {A0 : Option Addr} {n0 c0 : Nat} {es0 : List UE} {w0 : World} (h0 : (pfRow fU FU 2 A0 n0 c0 es0).P w0) (hsm : ∀ e ∈ es0, e.2.2.1 ≤ 1000000) (hn : n0 ≤ 1000000) :
    Calls Tryd.prog 18 #[.slice A0 n0 c0] w0 fun e w' => ∃ v u, e = .returned (.tuple #[v, u]) ∧ ZRow w0.heap.size w' v n0 (es0.map vz) ∧ MRow w0.heap.size w' u n0 (es0.map vz) ∧ Below w0.heap.size w0 w' := by
  refine enter Tryd.func18 rfl Tryd.ntmps18 rfl ?_
  intro a henv hst
  have hlen0 := h0.2.1
  have hbig0 := Nat.le_trans h0.1.cap h0.1.big
  unfold maxLen at hbig0
  replace hst := hst.argRow h0
  clear h0
  refine wp_seq ?_
  refine region_seq ?_
  revert a
  refine aA rfl rfl ?_
  refine aA rfl rfl ?_
  intro a henv
  refine wpList_nil ?_
  refine th_n ?_
  refine wp_seq ?_
  refine region_seq ?_
  refine sv (v := .slice none 0 0) henv rfl (rn_assign henv rfl) ?_
  clear henv a; intro a henv
  refine wpList_nil ?_
  refine th_n ?_
  refine wp_seq ?_
  refine region_seq ?_
  refine sv (v := .slice none 0 0) henv rfl (rn_assign henv rfl) ?_
  clear henv a; intro a henv
  refine wpList_nil ?_
  refine th_n ?_
  refine wp_seq ?_
  refine wp_seq ?_
  refine region_seq ?_
  refine sv (v := .int .i64 0) henv rfl (rn_assign henv rfl) ?_
  clear henv a; intro a henv
  refine wpList_nil ?_
  refine th_n ?_
  refine wp_block ?_
  replace hst := (hst.addRowS notU 36 2).nilEs FN
  replace hst : St w0 _ [rowS notU 36 2 none 0 0 (fl fN ([]))] [pfEs FN ([]), pfRow fU FU 2 A0 n0 c0 es0] := hst
  replace hst := (hst.addRowS notU 39 2).nilEs FM
  replace hst : St w0 _ [rowS notU 39 2 none 0 0 (fl fM ([])), rowS notU 36 2 none 0 0 (fl fN ([]))] [pfEs FM ([]), pfEs FN ([]), pfRow fU FU 2 A0 n0 c0 es0] := hst
  refine wp_loop_ghost (fun mz a w => ∃ j : Nat, ∃ B1 : Option Addr, ∃ d1 : Nat, ∃ os : List NE, ∃ B2 : Option Addr, ∃ d2 : Nat, ∃ ps : List NE, n0 - j = mz ∧ Env 43 a [(0, .slice A0 n0 c0), (2, .slice none 0 0), (3, .slice none 0 0), (4, .slice B1 j d1), (5, .slice B2 j d2), (6, .int .i64 (j : Nat))] ∧ St w0 w [rowS notU 39 2 B2 j d2 (fl fM ps), rowS notU 36 2 B1 j d1 (fl fN os)] [pfEs FM ps, pfEs FN os, pfRow fU FU 2 A0 n0 c0 es0] ∧ j ≤ n0 ∧ os.map zz = (es0.map vz).take j ∧ ps.map zz = (es0.map vz).take j) _ ⟨0, none, 0, [], none, 0, [], rfl, henv.sub ⟨rfl, rfl, rfl, rfl, rfl, rfl, trivial⟩, hst.pick [0, 1] [0, 1, 2] (by decide), (Nat.zero_le _), rfl, rfl⟩ ?_
  clear henv hst a
  rintro mz a w1 ⟨j, B1, d1, os, B2, d2, ps, rfl, henv, hst, hj, ho, hp⟩
  refine wp_seq ?_
  refine wp_seq ?_
  refine region_seq ?_
  revert a
  refine mA rfl rfl ?_
  refine mA rfl rfl ?_
  refine sA (v := .int .i64 (n0 : Nat)) rfl (fun _ henv => rn_len henv Tryd.underlying22 rfl) ?_
  refine sA (v := .bool (decide (((j : Nat) : Int) < ((n0 : Nat) : Int)))) rfl (fun _ henv => rn_bin henv rfl rfl rfl) ?_
  intro a henv
  refine wpList_nil ?_
  refine th_n ?_
  refine if_split henv rfl (fun hc2 => ?_) (fun hc2 => ?_)
  · have hlt : j < n0 := by have := of_decide_eq_true hc2; omega
    obtain ⟨⟨b, B, q, d, xs⟩, he0⟩ : ∃ e, es0[j]? = some e := ⟨_, List.getElem?_eq_getElem (by omega)⟩
    have hq1 : q ≤ 1000000 := hsm _ (List.mem_of_getElem? he0)
    obtain ⟨z, hzv⟩ : ∃ z, sg b (val 4294967296 xs) = z := ⟨_, rfl⟩
    replace hst := hst.elem (k := 2) rfl he0
    replace hst : St w0 _ [rowS notU 39 2 B2 j d2 (fl fM ps), rowS notU 36 2 B1 j d1 (fl fN os)] [pfU B q d xs, pfEs FM ps, pfEs FN os, pfRow fU FU 2 A0 n0 c0 es0] := hst
    refine wp_skip ?_
    refine th_n ?_
    refine wp_seq ?_
    refine wp_block ?_
    refine wp_seq ?_
    refine region_any (n := 15) (Sk [rowS notU 39 2 B2 j d2 (fl fM ps)] [pfU B q d xs, pfEs FM ps, pfEs FN os, pfRow fU FU 2 A0 n0 c0 es0] [] []) mixed rfl henv hst ?_
    clear henv hst; intro w3 henv hst
    refine tM (i := 0) [13, 14] rfl (by kernel_rfl) (fun _ _ _ h => h) henv rfl rfl ?_
    clear henv a; intro a henv
    refine tM (i := 1) [3, 4, 5, 11, 12, 13, 14] rfl (by kernel_rfl) (fun _ _ _ h => h) henv rfl rfl ?_
    clear henv a; intro a henv
    refine tM (i := 2) [3, 4, 5, 11, 12, 13, 14] rfl (by kernel_rfl) (fun _ _ _ h => h) henv rfl rfl ?_
    clear henv a; intro a henv
    refine sAny_take (i := 3) [4, 5, 11, 12, 13, 14] (fun w' => (pfRow fU FU 2 A0 n0 c0 es0).P w') (v := .pointer (some ⟨ab A0, ao A0 + j * 2, none⟩)) rfl (by kernel_rfl) (fun _ _ _ h => h) (fun _ _ _ hS => hS.1.pat (k := 3) rfl) henv rfl (hst.pat (k := 3) rfl) (fun w' hg => rn_idxR (i := j) henv Tryd.underlying22 (ty_anvil_anvillaw04_Num.size) rfl rfl (by omega) rfl (show (pfRow fU FU 2 A0 n0 c0 es0).P _ from hg).1) ?_
    clear henv a; intro a henv
    refine tA (i := 4) [5, 11, 12, 13, 14] (v := .pointer (some ⟨ab A0, ao A0 + j * 2 + 0, none⟩)) rfl (by kernel_rfl) (fun _ _ _ h => h) henv rfl (fun _ => rn_fieldAddr henv fd_anvil_anvillaw04_Num_0 (ty_bool.size) (by decide) rfl) ?_
    clear henv a; intro a henv
    refine sAny_take (i := 5) [11, 12, 13, 14] (fun w' => (pfRow fU FU 2 A0 n0 c0 es0).P w') (v := .bool b) rfl (by kernel_rfl) (fun _ _ _ h => h) (fun _ _ _ hS => hS.1.pat (k := 3) rfl) henv rfl (hst.pat (k := 3) rfl) (fun w' hg => rn_loadE1 (i := j) (j := 0) (e := (b, B, q, d, xs)) henv ty_bool rfl rfl fU_len (by decide) (show (pfRow fU FU 2 A0 n0 c0 es0).P _ from hg).1 (by omega) he0 rfl) ?_
    clear henv a; intro a henv
    refine tM (i := 6) (rg 8 7) rfl (by kernel_rfl) (fun _ _ _ h => h) henv rfl rfl ?_
    clear henv a; intro a henv
    refine tM (i := 7) (rg 8 7) rfl (by kernel_rfl) (fun _ _ _ h => h) henv rfl rfl ?_
    clear henv a; intro a henv
    refine sAny_take (i := 8) [9, 10, 11, 12, 13, 14] (fun w' => (pfRow fU FU 2 A0 n0 c0 es0).P w') (v := .pointer (some ⟨ab A0, ao A0 + j * 2, none⟩)) rfl (by kernel_rfl) (fun _ _ _ h => h) (fun _ _ _ hS => hS.1.pat (k := 3) rfl) henv rfl (hst.pat (k := 3) rfl) (fun w' hg => rn_idxR (i := j) henv Tryd.underlying22 (ty_anvil_anvillaw04_Num.size) rfl rfl (by omega) rfl (show (pfRow fU FU 2 A0 n0 c0 es0).P _ from hg).1) ?_
    clear henv a; intro a henv
    refine tA (i := 9) (rg 10 5) (v := .pointer (some ⟨ab A0, ao A0 + j * 2 + 1, none⟩)) rfl (by kernel_rfl) (fun _ _ _ h => h) henv rfl (fun _ => rn_fieldAddr henv fd_anvil_anvillaw04_Num_1 (ty__uint32.size) (by decide) rfl) ?_
    clear henv a; intro a henv
    refine sAny_take (i := 10) [11, 12, 13, 14] (fun w' => (pfRow fU FU 2 A0 n0 c0 es0).P w') (v := .slice B q d) rfl (by kernel_rfl) (fun _ _ _ h => h) (fun _ _ _ hS => hS.1.pat (k := 3) rfl) henv rfl (hst.pat (k := 3) rfl) (fun w' hg => rn_loadE1 (i := j) (j := 1) (e := (b, B, q, d, xs)) henv ty__uint32 rfl rfl fU_len (by decide) (show (pfRow fU FU 2 A0 n0 c0 es0).P _ from hg).1 (by omega) he0 rfl) ?_
    clear henv a; intro a henv
    refine sAny_one (i := 11) (by kernel_rfl) rfl rfl (op_call henv rfl Tryd.call19 rfl (make_zv (show U32 _ B q d xs from hst.pat (k := 0) rfl) hzv hq1) ?_)
    rintro e w7 ⟨_, rfl, ⟨A4, c5, rfl, hz6⟩, hb⟩
    refine ⟨_, rfl, ?_⟩
    clear henv a; intro a henv
    replace hst := (hst.call hb).addZ hz6 ⟨nou_rowS, nou_rowS, trivial⟩
    clear hz6
    clear hb
    refine ⟨.inr ⟨hst.kn.pick [0] (rg 1 4), .inr (hst.kn.pick [] [])⟩, ?_⟩
    refine sAny_one (i := 12) (by kernel_rfl) rfl rfl (op_buildSlice (z := 2) (pv := #[(0, .agg #[.bool (neg z), .slice A4 (zl z) c5])]) (c := #[.bool (neg z), .slice A4 (zl z) c5]) henv hst rfl Tryd.underlying30 (ty_anvil_integer_Int.size) zero_anvil_integer_Int (by decide) (by decide) rfl (by kernel_rfl) ?_)
    clear henv hst a; intro a w9 g8 henv hst
    refine ⟨.inr ⟨hst.kn.pick [1] (rg 1 4), .inr (hst.kn.pick [] [])⟩, ?_⟩
    refine sAny_one (i := 13) (by kernel_rfl) rfl rfl (op_appendS (k := 2) (j := 0) henv hst rfl Tryd.underlying30 inf_anvil_integer_Int rfl rfl rfl rfl rfl rfl rfl rfl rfl rfl rfl (by unfold maxLen; omega) (by omega) ?_)
    clear henv hst a; intro a w12 g10 c11 henv hst
    rw [show fl fN os ++ (#[.bool (neg z), .slice A4 (zl z) c5] : Array Value).toList = fl fN (os ++ [(A4, c5, z)]) from fl_snoc (f := fN) os (A4, c5, z)] at hst
    replace hst := hst.snocEs (e := (A4, c5, z)) (i := 3) (j := 0) rfl rfl
    refine ⟨.inr ⟨hst.kn.pick [1] (rg 2 4), .inr (hst.kn.pick [] [])⟩, ?_⟩
    refine tA (i := 14) [] (v := .slice (some ⟨g10, 0, none⟩) (j + 1) c11) rfl (by kernel_rfl) (fun _ _ _ h => h) henv rfl (fun _ => rn_assign henv rfl) ?_
    clear henv a; intro a henv
    refine sAny_done (by kernel_rfl) ?_ _
    refine th_n ?_
    refine region_any (n := 15) (Sk [bk g8 #[.bool (neg z), .slice A4 (zl z) c5] 36, rowS notU 36 2 (some ⟨g10, 0, none⟩) (j + 1) c11 (fl fN (os ++ [(A4, c5, z)]))] [pfEs FN (os ++ [(A4, c5, z)]), pfZ A4 c5 z, pfU B q d xs, pfEs FM ps, pfEs FN os, pfRow fU FU 2 A0 n0 c0 es0] [] []) mixed rfl henv hst ?_
    clear henv hst; intro w13 henv hst
    refine tM (i := 0) [13, 14] rfl (by kernel_rfl) (fun _ _ _ h => h) henv rfl rfl ?_
    clear henv a; intro a henv
    refine tM (i := 1) [3, 4, 5, 11, 12, 13, 14] rfl (by kernel_rfl) (fun _ _ _ h => h) henv rfl rfl ?_
    clear henv a; intro a henv
    refine tM (i := 2) [3, 4, 5, 11, 12, 13, 14] rfl (by kernel_rfl) (fun _ _ _ h => h) henv rfl rfl ?_
    clear henv a; intro a henv
    refine sAny_take (i := 3) [4, 5, 11, 12, 13, 14] (fun w' => (pfRow fU FU 2 A0 n0 c0 es0).P w') (v := .pointer (some ⟨ab A0, ao A0 + j * 2, none⟩)) rfl (by kernel_rfl) (fun _ _ _ h => h) (fun _ _ _ hS => hS.1.pat (k := 5) rfl) henv rfl (hst.pat (k := 5) rfl) (fun w' hg => rn_idxR (i := j) henv Tryd.underlying22 (ty_anvil_anvillaw04_Num.size) rfl rfl (by omega) rfl (show (pfRow fU FU 2 A0 n0 c0 es0).P _ from hg).1) ?_
    clear henv a; intro a henv
    refine tA (i := 4) [5, 11, 12, 13, 14] (v := .pointer (some ⟨ab A0, ao A0 + j * 2 + 0, none⟩)) rfl (by kernel_rfl) (fun _ _ _ h => h) henv rfl (fun _ => rn_fieldAddr henv fd_anvil_anvillaw04_Num_0 (ty_bool.size) (by decide) rfl) ?_
    clear henv a; intro a henv
    refine sAny_take (i := 5) [11, 12, 13, 14] (fun w' => (pfRow fU FU 2 A0 n0 c0 es0).P w') (v := .bool b) rfl (by kernel_rfl) (fun _ _ _ h => h) (fun _ _ _ hS => hS.1.pat (k := 5) rfl) henv rfl (hst.pat (k := 5) rfl) (fun w' hg => rn_loadE1 (i := j) (j := 0) (e := (b, B, q, d, xs)) henv ty_bool rfl rfl fU_len (by decide) (show (pfRow fU FU 2 A0 n0 c0 es0).P _ from hg).1 (by omega) he0 rfl) ?_
    clear henv a; intro a henv
    refine tM (i := 6) (rg 8 7) rfl (by kernel_rfl) (fun _ _ _ h => h) henv rfl rfl ?_
    clear henv a; intro a henv
    refine tM (i := 7) (rg 8 7) rfl (by kernel_rfl) (fun _ _ _ h => h) henv rfl rfl ?_
    clear henv a; intro a henv
    refine sAny_take (i := 8) [9, 10, 11, 12, 13, 14] (fun w' => (pfRow fU FU 2 A0 n0 c0 es0).P w') (v := .pointer (some ⟨ab A0, ao A0 + j * 2, none⟩)) rfl (by kernel_rfl) (fun _ _ _ h => h) (fun _ _ _ hS => hS.1.pat (k := 5) rfl) henv rfl (hst.pat (k := 5) rfl) (fun w' hg => rn_idxR (i := j) henv Tryd.underlying22 (ty_anvil_anvillaw04_Num.size) rfl rfl (by omega) rfl (show (pfRow fU FU 2 A0 n0 c0 es0).P _ from hg).1) ?_
    clear henv a; intro a henv
    refine tA (i := 9) (rg 10 5) (v := .pointer (some ⟨ab A0, ao A0 + j * 2 + 1, none⟩)) rfl (by kernel_rfl) (fun _ _ _ h => h) henv rfl (fun _ => rn_fieldAddr henv fd_anvil_anvillaw04_Num_1 (ty__uint32.size) (by decide) rfl) ?_
    clear henv a; intro a henv
    refine sAny_take (i := 10) [11, 12, 13, 14] (fun w' => (pfRow fU FU 2 A0 n0 c0 es0).P w') (v := .slice B q d) rfl (by kernel_rfl) (fun _ _ _ h => h) (fun _ _ _ hS => hS.1.pat (k := 5) rfl) henv rfl (hst.pat (k := 5) rfl) (fun w' hg => rn_loadE1 (i := j) (j := 1) (e := (b, B, q, d, xs)) henv ty__uint32 rfl rfl fU_len (by decide) (show (pfRow fU FU 2 A0 n0 c0 es0).P _ from hg).1 (by omega) he0 rfl) ?_
    clear henv a; intro a henv
    refine sAny_one (i := 11) (by kernel_rfl) rfl rfl (op_call henv rfl Tryd.call20 rfl (make_rv (show U32 _ B q d xs from hst.pat (k := 2) rfl) hzv hq1) ?_)
    rintro e w17 ⟨_, rfl, ⟨A14, c15, rfl, hz16⟩, hb⟩
    refine ⟨_, rfl, ?_⟩
    clear henv a; intro a henv
    replace hst := (hst.call hb).addR hz16 ⟨nou_bk rfl, nou_rowS, nou_rowS, trivial⟩
    clear hz16
    clear hb
    refine ⟨.inr ⟨hst.kn.pick [0, 2] (rg 1 6), .inr (hst.kn.pick [] [])⟩, ?_⟩
    refine sAny_one (i := 12) (by kernel_rfl) rfl rfl (op_buildSlice (z := 2) (pv := #[(0, .agg #[.bool (neg z), .slice A14 (dl z) c15])]) (c := #[.bool (neg z), .slice A14 (dl z) c15]) henv hst rfl Tryd.underlying32 (ty_anvil_anvilref02_Int.size) zero_anvil_anvilref02_Int (by decide) (by decide) rfl (by kernel_rfl) ?_)
    clear henv hst a; intro a w19 g18 henv hst
    refine ⟨.inr ⟨hst.kn.pick [1, 3] (rg 1 6), .inr (hst.kn.pick [] [])⟩, ?_⟩
    refine sAny_one (i := 13) (by kernel_rfl) rfl rfl (op_appendS (k := 2) (j := 0) henv hst rfl Tryd.underlying32 inf_anvil_anvilref02_Int rfl rfl rfl rfl rfl rfl rfl rfl rfl rfl rfl (by unfold maxLen; omega) (by omega) ?_)
    clear henv hst a; intro a w22 g20 c21 henv hst
    rw [show fl fM ps ++ (#[.bool (neg z), .slice A14 (dl z) c15] : Array Value).toList = fl fM (ps ++ [(A14, c15, z)]) from fl_snoc (f := fM) ps (A14, c15, z)] at hst
    replace hst := hst.snocEs (e := (A14, c15, z)) (i := 4) (j := 0) rfl rfl
    refine ⟨.inr ⟨hst.kn.pick [1, 3] (rg 2 6), .inr (hst.kn.pick [] [])⟩, ?_⟩
    refine tA (i := 14) [] (v := .slice (some ⟨g20, 0, none⟩) (j + 1) c21) rfl (by kernel_rfl) (fun _ _ _ h => h) henv rfl (fun _ => rn_assign henv rfl) ?_
    clear henv a; intro a henv
    refine sAny_done (by kernel_rfl) ?_ _
    refine bl_n (th_n ?_)
    refine region_seq ?_
    revert a
    refine mA rfl rfl ?_
    refine sA (v := .int .i64 (j + 1 : Nat)) rfl (fun _ henv => rn_add henv rfl rfl (by rw [IntWalk.i64_in _ (by omega)]; omega)) ?_
    refine aA rfl rfl ?_
    intro a henv
    refine wpList_nil ?_
    exact th_n ⟨_, (by omega), ⟨j + 1, (some ⟨g10, 0, none⟩), c11, (os ++ [(A4, c5, z)]), (some ⟨g20, 0, none⟩), c21, (ps ++ [(A14, c15, z)]), rfl, henv.sub ⟨rfl, rfl, rfl, rfl, rfl, rfl, trivial⟩, hst.pick [2, 3] [0, 2, 7] (by decide), (by omega), (step_num ho he0 hzv), (step_num hp he0 hzv)⟩⟩
  · have hjn : j = n0 := by have := of_decide_eq_false hc2; omega
    refine wp_exit ?_
    refine th_x (th_x (bl_x (th_n ?_)))
    refine wp_seq ?_
    refine region_seq ?_
    revert a
    refine mA rfl rfl ?_
    refine mA rfl rfl ?_
    refine aA rfl rfl ?_
    refine aA rfl rfl ?_
    intro a henv
    refine wpList_nil ?_
    refine th_n ?_
    refine wp_ret ?_
    refine leave henv (res2 Tryd.results18 (RV.tmp henv rfl) (RV.tmp henv rfl)) ?_
    have hfull : (es0.map vz).take j = es0.map vz := List.take_of_length_le (by rw [List.length_map]; omega)
    rw [hfull] at ho hp
    exact ⟨_, _, rfl, ⟨_, _, os, congrArg (fun k => Value.slice _ k _) hjn, (hjn ▸ hst.newRow (k := 1) (j := 1) rfl rfl), map_len ho (by rw [List.length_map]; omega), ho⟩, ⟨_, _, ps, congrArg (fun k => Value.slice _ k _) hjn, (hjn ▸ hst.newRow (k := 0) (j := 0) rfl rfl), map_len hp (by rw [List.length_map]; omega), hp⟩, hst.below⟩
set_option maxRecDepth 100000 in
set_option maxHeartbeats 2000000 in
theorem num_one {A B : Option Addr} {c d : Nat} {z : Int} {w0 : World} (hx : ZIn w0 A c z) (hy : RIn w0 B d z) (hn : zl z ≤ 100000) :
    Calls Tryd.prog 35 #[.agg #[.bool (neg z), .slice A (zl z) c], .agg #[.bool (neg z), .slice B (dl z) d]] w0 fun e w' => e = .returned (.bool true) ∧ Below w0.heap.size w0 w' := by
  refine enter Tryd.func35 rfl Tryd.ntmps35 rfl ?_
  intro a henv hst
  have hdl : dl z ≤ 2 * zl z := dl_zl z
  replace hst := (hst.addZ hx trivial).addR hy trivial
  clear hx hy
  refine wp_seq ?_
  refine region_seq ?_
  refine seq_step rfl (op_box (c := #[.bool (neg z), .slice A (zl z) c]) henv hst rfl rfl rfl ?_)
  clear henv hst a; intro a w2 g1 henv hst
  refine seq_step rfl (op_box (c := #[.bool (neg z), .slice B (dl z) d]) henv hst rfl rfl rfl ?_)
  clear henv hst a; intro a w4 g3 henv hst
  refine sv (v := .bool false) henv rfl (rn_assign henv rfl) ?_
  clear henv a; intro a henv
  refine wpList_nil ?_
  refine th_n ?_
  refine wp_seq ?_
  refine region_seq ?_
  refine sv (v := .agg #[.bool (neg z), .slice A (zl z) c]) henv rfl (rn_load0 henv ty_anvil_integer_Int rfl (hst.oat (k := 1) rfl) rfl) ?_
  clear henv a; intro a henv
  refine seq_step rfl (op_call henv rfl Tryd.call106 rfl (limbs_z (z := z) (show ZIn _ A c z from hst.pat (k := 1) rfl) (by omega)) ?_)
  rintro e w8 ⟨A5, c6, rfl, hz7, -, hb⟩
  refine ⟨_, rfl, ?_⟩
  clear henv a; intro a henv
  replace hst := (hst.call hb).addZ hz7 ⟨nou_bk rfl, nou_bk rfl, trivial⟩
  clear hz7
  clear hb
  revert a
  refine mA rfl rfl ?_
  refine sA (v := .bool (neg z)) rfl (fun _ henv => rn_extract henv rfl rfl) ?_
  refine sA (v := .slice A5 (zl z) c6) rfl (fun _ henv => rn_extract henv rfl rfl) ?_
  refine aA rfl rfl ?_
  refine aA rfl rfl ?_
  intro a henv
  refine wpList_nil ?_
  refine th_n ?_
  refine wp_seq ?_
  refine region_any (n := 13) (Sk [bk g3 #[.bool (neg z), .slice B (dl z) d] 39, bk g1 #[.bool (neg z), .slice A (zl z) c] 36] [pfZ A5 c6 z, pfR B d z, pfZ A c z] [] []) mixed rfl henv hst ?_
  clear henv hst; intro w9 henv hst
  refine tM (i := 0) [2, 4, 5, 6, 7, 8, 9, 10, 11, 12] rfl (by kernel_rfl) (fun _ _ _ h => h) henv rfl rfl ?_
  clear henv a; intro a henv
  refine tM (i := 1) [2, 4, 5, 6, 7, 8, 9, 10, 11, 12] rfl (by kernel_rfl) (fun _ _ _ h => h) henv rfl rfl ?_
  clear henv a; intro a henv
  refine tL (i := 3) 0 0 (rg 4 9) rfl (by kernel_rfl) (fun _ _ _ h => h) henv rfl ty_anvil_anvilref02_Int rfl hst rfl rfl rfl ?_
  clear henv a; intro a henv
  refine sAny_one (i := 2) (by kernel_rfl) rfl rfl (op_call henv rfl Tryd.call20 rfl (make_rz (z := z) (show ZIn _ A5 c6 z from hst.pat (k := 0) rfl) (by omega)) ?_)
  rintro e w13 ⟨_, rfl, ⟨A10, c11, rfl, hz12⟩, hb⟩
  refine ⟨_, rfl, ?_⟩
  clear henv a; intro a henv
  replace hst := (hst.call hb).addR hz12 ⟨nou_bk rfl, nou_bk rfl, trivial⟩
  clear hz12
  clear hb
  refine ⟨.inr ⟨hst.kn.pick [0, 1] [1, 2, 3], .inr (hst.kn.pick [] [])⟩, ?_⟩
  refine sAny_one (i := 4) (by kernel_rfl) rfl rfl (op_call henv rfl Tryd.call107 rfl (same_rb4 (x := z) (y := z) (show RIn _ A10 c11 z from hst.pat (k := 0) rfl) (show RIn _ B d z from hst.pat (k := 2) rfl)) ?_)
  rintro e w14 ⟨rfl, hb⟩
  refine ⟨_, rfl, ?_⟩
  clear henv a; intro a henv
  replace hst := hst.call hb
  clear hb
  refine ⟨.inr ⟨hst.kn.pick [0, 1] [1, 2, 3], .inr (hst.kn.pick [] [])⟩, ?_⟩
  rw [show (decide (z = z)) = true from (decide_eq_true rfl)] at henv
  refine tM (i := 5) (rg 6 7) rfl (by kernel_rfl) (fun _ _ _ h => h) henv rfl rfl ?_
  clear henv a; intro a henv
  refine tLg (i := 6) 1 1 [7, 9, 10, 11, 12] rfl (by kernel_rfl) (fun _ _ _ h => h) henv rfl rfl rfl rfl ty_anvil_integer_Int rfl hst rfl rfl rfl ?_
  clear henv a; intro a henv
  refine tLg (i := 8) 0 0 (rg 9 4) rfl (by kernel_rfl) (fun _ _ _ h => h) henv rfl rfl rfl rfl ty_anvil_anvilref02_Int rfl hst rfl rfl rfl ?_
  clear henv a; intro a henv
  refine sAny_oneg (i := 7) (by kernel_rfl) rfl rfl henv rfl rfl rfl (op_call henv rfl Tryd.call31 rfl (sign_z (z := z)) ?_)
  rintro e w15 ⟨rfl, hb⟩
  refine ⟨_, rfl, ?_⟩
  clear henv a; intro a henv
  replace hst := hst.call hb
  clear hb
  refine ⟨.inr ⟨hst.kn.pick [0, 1] [1, 2, 3], .inr (hst.kn.pick [] [])⟩, ?_⟩
  refine sAny_oneg (i := 9) (by kernel_rfl) rfl rfl henv rfl rfl rfl (op_call henv rfl Tryd.call82 rfl (sign_r (z := z)) ?_)
  rintro e w16 ⟨rfl, hb⟩
  refine ⟨_, rfl, ?_⟩
  clear henv a; intro a henv
  replace hst := hst.call hb
  clear hb
  refine ⟨.inr ⟨hst.kn.pick [0, 1] [1, 2, 3], .inr (hst.kn.pick [] [])⟩, ?_⟩
  refine tAg (i := 10) [11, 12] (v := .bool (z.sign == z.sign)) rfl (by kernel_rfl) (fun _ _ _ h => h) henv rfl rfl rfl rfl (fun _ => rn_bin henv rfl rfl rfl) ?_
  clear henv a; intro a henv
  rw [show (z.sign == z.sign) = true from (beq_self_eq_true _)] at henv
  refine tA (i := 11) [12] (v := .bool true) rfl (by kernel_rfl) (fun _ _ _ h => h) henv rfl (fun _ => rn_pick henv rfl rfl) ?_
  clear henv a; intro a henv
  refine tA (i := 12) [] (v := .bool true) rfl (by kernel_rfl) (fun _ _ _ h => h) henv rfl (fun _ => rn_assign henv rfl) ?_
  clear henv a; intro a henv
  refine sAny_done (by kernel_rfl) ?_ _
  refine th_n ?_
  refine wp_ret ?_
  refine leave henv (res1 Tryd.results35 (RV.tmp henv rfl)) ?_
  exact ⟨rfl, hst.below⟩
end Go.Proofs.YtegglooojlheoaaDoor.W

/- row.Cmp, Same; the reference's Cmp, Same, IsZero. Printed by pv/gen_row5.py. No condition. -/
namespace Go.Proofs.YtegglooojlheoaaDoor.W
open Go.RowKit Anv Go.Lib
def lexc : List Int → List Int → Int
  | x :: xs, y :: ys => if (x - y).sign = 0 then lexc xs ys else (x - y).sign
  | _, _ => 0
def cmpR (xs ys : List Int) : Int := if xs.length < ys.length then -1 else if ys.length < xs.length then 1 else lexc xs ys
end Go.Proofs.YtegglooojlheoaaDoor.W

/- row.Widest, anvilref04.Widest. Printed by pv/gen_row6.py. No condition. -/
namespace Go.Proofs.YtegglooojlheoaaDoor.W
open Go.RowKit Anv Go.Lib
def wid (zs : List Int) : Int := zs.foldl (fun w z => if w < (z.natAbs : Int) then (z.natAbs : Int) else w) 0
end Go.Proofs.YtegglooojlheoaaDoor.W

/- What the law RowHolds needs, with no program in sight but the shape of the memory. No condition. -/
namespace Go.Proofs.YtegglooojlheoaaDoor.W
open Go.RowKit Anv Go.Lib
theorem St.fresh2 {α β : Type} {f : α → List Value} {F : α → PF} {f' : β → List Value} {F' : β → PF} {es : List α} {es' : List β} {q q' : Value → Bool} {E E' z z' n n' c c' : Nat} {A A' : Option Addr} {w0 w w' : World} {own ps : List PF} (h : St w0 w own ps) (hb : Below w.heap.size w w')
    (hr : NewRow q E z f F w.heap.size w' A n c es) (hl : es.length = n) (hE : ∀ o ∈ own, ∀ b, o.foot b → o.P w' → ¬ (pfEs F es).foot b)
    (hr' : NewRow q' E' z' f' F' w.heap.size w' A' n' c' es') (hl' : es'.length = n') (hE' : ∀ o ∈ own, ∀ b, o.foot b → o.P w' → ¬ (pfEs F' es').foot b) :
    St w0 w' own (pfRow f' F' z' A' n' c' es' :: pfRow f F z A n c es :: ps) :=
  (h.freshRd hb hr hl hE).addP _ ((h.freshRd hb hr' hl' hE').pat (k := 0) rfl) fun o ho b h1 h2 => (h.freshRd hb hr' hl' hE').apart _ (List.mem_cons_self ..) o ho b h1 h2
theorem tl_mem {us : List UE} {e : UE} (h : e ∈ us) : e.2.2.1 ≤ tl us := by
  induction us with
  | nil => cases h
  | cons x us ih =>
    unfold tl at *
    rw [List.map_cons, List.sum_cons]
    rcases List.mem_cons.1 h with rfl | h
    · omega
    · have := ih h; omega
end Go.Proofs.YtegglooojlheoaaDoor.W

/- What the laws of rows need of the memory: rows of rows written out, numbers written out, sizes. No program but the shape of the memory. No condition. -/
namespace Go.Proofs.YtegglooojlheoaaDoor.W
open Go.RowKit Anv Go.Lib
theorem pv1 {w : World} {g : Nat} {v0 : VE} {t : TypeId} (h : w.heap[g]? = some (.cells #[.slice v0.1 v0.2.1 v0.2.2.1] t (0, 0))) (h0 : (FV v0).P w) : (pfRow fV FV 1 (some ⟨g, 0, none⟩) 1 1 [v0]).P w := by
  refine ⟨⟨rfl, Nat.le_refl _, by decide, fun _ => ⟨g, 0, rfl, lt_of_block h, fun i _ => by rw [Nat.zero_add, cell_of_row w g i _ t (0, 0) h, ← Array.getElem?_toList]; rfl⟩⟩, rfl, fun e he => ?_⟩
  rw [List.mem_singleton.1 he]; exact h0
theorem lg_nil : ∀ v ∈ ([] : List VE), v.2.1 ≤ 35184372088832 ∧ Sz v.2.2.2 := fun _ h => by cases h
theorem lg_cons {v : VE} {l : List VE} (h : v.2.1 ≤ 35184372088832) (hs : Sz v.2.2.2) (k : ∀ v ∈ l, v.2.1 ≤ 35184372088832 ∧ Sz v.2.2.2) : ∀ x ∈ v :: l, x.2.1 ≤ 35184372088832 ∧ Sz x.2.2.2 := fun x hx => by
  rcases List.mem_cons.1 hx with rfl | hx
  · exact ⟨h, hs⟩
  · exact k x hx
theorem zl_vze {w : World} {b : Bool} {A : Option Addr} {n c k : Nat} {xs : List Nat} (h : U32 w A n c xs) (hn : n ≤ k) : zl (sg b (val 4294967296 xs)) ≤ k := by
  have h2 := nl_val h
  have e : zl (sg b (val 4294967296 xs)) = nl (val 4294967296 xs) := by
    unfold sg zl
    split
    · rw [Int.natAbs_neg, Int.natAbs_natCast]
    · rw [Int.natAbs_natCast]
  omega
def Zk (k : Nat) (zs : List Int) : Prop := ∀ z ∈ zs, zl z ≤ k
theorem Zk.es {k : Nat} {es : List NE} {zs : List Int} (h : Zk k zs) (e : es.map zz = zs) : ZB k es := fun x hx => h (zz x) (e ▸ List.mem_map_of_mem hx)
theorem Zk.mono {k m : Nat} {zs : List Int} (h : Zk k zs) (hm : k ≤ m) : Zk m zs := fun z hz => Nat.le_trans (h z hz) hm
theorem Zk.map {k m : Nat} {zs : List Int} {f : Int → Int} (h : Zk k zs) (hf : ∀ z, zl z ≤ k → zl (f z) ≤ m) : Zk m (zs.map f) := fun x hx => by
  obtain ⟨z, hz, rfl⟩ := List.mem_map.1 hx
  exact hf z (h z hz)
theorem mem_zipWith {f : Int → Int → Int} {x : Int} : ∀ {xs ys : List Int}, x ∈ List.zipWith f xs ys → ∃ a ∈ xs, ∃ b ∈ ys, x = f a b
  | [], _, h => by simp at h
  | _ :: _, [], h => by simp at h
  | a :: xs, b :: ys, h => by
    rw [List.zipWith_cons_cons] at h
    rcases List.mem_cons.1 h with rfl | h
    · exact ⟨a, List.mem_cons_self .., b, List.mem_cons_self .., rfl⟩
    · obtain ⟨a, ha, b, hb, e⟩ := mem_zipWith h
      exact ⟨a, List.mem_cons_of_mem _ ha, b, List.mem_cons_of_mem _ hb, e⟩
theorem Zk.zip {k j m : Nat} {xs ys : List Int} {f : Int → Int → Int} (h : Zk k xs) (g : Zk j ys) (hf : ∀ x y, zl x ≤ k → zl y ≤ j → zl (f x y) ≤ m) : Zk m (List.zipWith f xs ys) := fun x hx => by
  obtain ⟨a, ha, b, hb, rfl⟩ := mem_zipWith hx
  exact hf a b (h a ha) (g b hb)
theorem Zk.vz {es : List UE} {k : Nat} {w : World} (h : (pfEs FU es).P w) (ht : tl es ≤ k) : Zk k (es.map vz) := by
  intro z hz
  obtain ⟨e, he, rfl⟩ := List.mem_map.1 hz
  have h1 : U32 w e.2.1 e.2.2.1 e.2.2.2.1 e.2.2.2.2 := h e he
  exact zl_vze h1 (Nat.le_trans (tl_mem he) ht)
theorem Zk.prim {k : Nat} {zs : List Int} (h : Zk k zs) : Zk k (prim zs) := h.map fun _ hz => Nat.le_trans (zl_ediv _ _) hz
theorem Zk.take {k : Nat} {zs : List Int} (h : Zk k zs) (j : Nat) : Zk k (zs.take j) := fun z hz => h z (List.mem_of_mem_take hz)
end Go.Proofs.YtegglooojlheoaaDoor.W

/- row.Neg, Scale, Combine, Dot, integer.Sum; the reference's Combine, Add, Sub, Scale, Dot; the laws' is, own. Printed by pv/gen_row8.py. No condition. -/
namespace Go.Proofs.YtegglooojlheoaaDoor.W
open Go.RowKit Anv Go.Lib
theorem ztake_snoc {es : List NE} {xs : List Int} {j : Nat} {A : Option Addr} {c : Nat} {z : Int} (hz : es.map zz = xs) (he : es[j]? = some (A, c, z)) : xs.take (j + 1) = xs.take j ++ [z] :=
  take_one (by rw [← hz, List.getElem?_map, he]; rfl)
theorem same_at {es fs : List NE} {xs : List Int} {j : Nat} {A B : Option Addr} {c d : Nat} {x y : Int} (h : es.map zz = xs) (k : fs.map zz = xs) (he : es[j]? = some (A, c, x)) (hf : fs[j]? = some (B, d, y)) : x = y := by
  have h1 : xs[j]? = some x := by rw [← h, List.getElem?_map, he]; rfl
  have h2 : xs[j]? = some y := by rw [← k, List.getElem?_map, hf]; rfl
  rw [h1] at h2
  exact Option.some.inj h2
set_option maxRecDepth 100000 in
set_option maxHeartbeats 2000000 in
theorem row_is {A0 A1 : Option Addr} {n0 c0 c1 : Nat} {es0 es1 : List NE} {xs : List Int} {w0 : World} (h0 : (pfRow fN FN 2 A0 n0 c0 es0).P w0) (hz0 : es0.map zz = xs) (h1 : (pfRow fM FM 2 A1 n0 c1 es1).P w0) (hz1 : es1.map zz = xs) (hk : Zk 100000 xs) :
    Calls Tryd.prog 27 #[.slice A0 n0 c0, .slice A1 n0 c1] w0 fun e w' => e = .returned (.bool true) ∧ Below w0.heap.size w0 w' := by
  have hb0 := hk.es hz0
  refine enter Tryd.func27 rfl Tryd.ntmps27 rfl ?_
  intro a henv hst
  have hlen0 := h0.2.1
  have hlen1 := h1.2.1
  have hbig0 := Nat.le_trans h0.1.cap h0.1.big
  unfold maxLen at hbig0
  replace hst := (hst.argRow h1).argRow h0
  clear h0 h1
  refine wp_seq ?_
  refine region_seq ?_
  refine sv (v := .bool false) henv rfl (rn_assign henv rfl) ?_
  clear henv a; intro a henv
  refine wpList_nil ?_
  refine th_n ?_
  refine wp_seq ?_
  refine wp_seq ?_
  refine region_seq ?_
  revert a
  refine mA rfl rfl ?_
  refine sA (v := .int .i64 (n0 : Nat)) rfl (fun _ henv => rn_len henv Tryd.underlying30 rfl) ?_
  refine mA rfl rfl ?_
  refine sA (v := .int .i64 (n0 : Nat)) rfl (fun _ henv => rn_len henv Tryd.underlying32 rfl) ?_
  refine sA (v := .bool (((n0 : Nat) : Int) != ((n0 : Nat) : Int))) rfl (fun _ henv => rn_bin henv rfl rfl rfl) ?_
  intro a henv
  rw [show (((n0 : Nat) : Int) != ((n0 : Nat) : Int)) = false from (bne_self_eq_false _)] at henv
  refine wpList_nil ?_
  refine th_n ?_
  refine if_f henv rfl (rfl) ?_
  refine wp_skip ?_
  refine th_n ?_
  refine wp_seq ?_
  refine wp_seq ?_
  refine region_seq ?_
  refine sv (v := .int .i64 0) henv rfl (rn_assign henv rfl) ?_
  clear henv a; intro a henv
  refine wpList_nil ?_
  refine th_n ?_
  refine wp_block ?_
  refine wp_loop_ghost (fun mz a w => ∃ j : Nat, n0 - j = mz ∧ Env 27 a [(0, .slice A0 n0 c0), (1, .slice A1 n0 c1), (4, .bool false), (5, .int .i64 (j : Nat))] ∧ St w0 w [] [pfRow fN FN 2 A0 n0 c0 es0, pfRow fM FM 2 A1 n0 c1 es1] ∧ j ≤ n0) _ ⟨0, rfl, henv.sub ⟨rfl, rfl, rfl, rfl, trivial⟩, hst.pick [] [0, 1] (by decide), (Nat.zero_le _)⟩ ?_
  clear henv hst a
  rintro mz a w51 ⟨j, rfl, henv, hst, hj⟩
  refine wp_seq ?_
  refine wp_seq ?_
  refine region_seq ?_
  revert a
  refine mA rfl rfl ?_
  refine mA rfl rfl ?_
  refine sA (v := .int .i64 (n0 : Nat)) rfl (fun _ henv => rn_len henv Tryd.underlying30 rfl) ?_
  refine sA (v := .bool (decide (((j : Nat) : Int) < ((n0 : Nat) : Int)))) rfl (fun _ henv => rn_bin henv rfl rfl rfl) ?_
  intro a henv
  refine wpList_nil ?_
  refine th_n ?_
  refine if_split henv rfl (fun hc52 => ?_) (fun hc52 => ?_)
  · have hlt : j < n0 := by have := of_decide_eq_true hc52; omega
    obtain ⟨⟨A, c, x⟩, he0⟩ : ∃ e, es0[j]? = some e := ⟨_, List.getElem?_eq_getElem (by omega)⟩
    replace hst := hst.elem (k := 0) rfl he0
    replace hst : St w0 _ [] [pfZ A c x, pfRow fN FN 2 A0 n0 c0 es0, pfRow fM FM 2 A1 n0 c1 es1] := hst
    obtain ⟨⟨C, e, y⟩, he1⟩ : ∃ e, es1[j]? = some e := ⟨_, List.getElem?_eq_getElem (by omega)⟩
    replace hst := hst.elem (k := 2) rfl he1
    replace hst : St w0 _ [] [pfR C e y, pfZ A c x, pfRow fN FN 2 A0 n0 c0 es0, pfRow fM FM 2 A1 n0 c1 es1] := hst
    obtain rfl : x = y := same_at hz0 hz1 he0 he1
    have hx1 := hb0.at he0
    refine wp_skip ?_
    refine th_n ?_
    refine wp_seq ?_
    refine wp_block ?_
    refine wp_seq ?_
    refine region_any (n := 10) (Sk [] [pfR C e x, pfZ A c x, pfRow fN FN 2 A0 n0 c0 es0, pfRow fM FM 2 A1 n0 c1 es1] [] []) mixed rfl henv hst ?_
    clear henv hst; intro w53 henv hst
    refine tM (i := 0) [2, 3, 8, 9] rfl (by kernel_rfl) (fun _ _ _ h => h) henv rfl rfl ?_
    clear henv a; intro a henv
    refine tM (i := 1) [2, 3, 8, 9] rfl (by kernel_rfl) (fun _ _ _ h => h) henv rfl rfl ?_
    clear henv a; intro a henv
    refine sAny_take (i := 2) [3, 8, 9] (fun w' => (pfRow fN FN 2 A0 n0 c0 es0).P w') (v := .pointer (some ⟨ab A0, ao A0 + j * 2, none⟩)) rfl (by kernel_rfl) (fun _ _ _ h => h) (fun _ _ _ hS => hS.1.pat (k := 2) rfl) henv rfl (hst.pat (k := 2) rfl) (fun w' hg => rn_idxR (i := j) henv Tryd.underlying30 (ty_anvil_integer_Int.size) rfl rfl (by omega) rfl (show (pfRow fN FN 2 A0 n0 c0 es0).P _ from hg).1) ?_
    clear henv a; intro a henv
    refine sAny_take (i := 3) [8, 9] (fun w' => (pfRow fN FN 2 A0 n0 c0 es0).P w') (v := .agg #[.bool (neg x), .slice A (zl x) c]) rfl (by kernel_rfl) (fun _ _ _ h => h) (fun _ _ _ hS => hS.1.pat (k := 2) rfl) henv rfl (hst.pat (k := 2) rfl) (fun w' hg => rn_loadE (i := j) (e := (A, c, x)) henv ty_anvil_integer_Int rfl rfl fN_len (show (pfRow fN FN 2 A0 n0 c0 es0).P _ from hg).1 (by omega) he0 rfl) ?_
    clear henv a; intro a henv
    refine tM (i := 4) (rg 6 4) rfl (by kernel_rfl) (fun _ _ _ h => h) henv rfl rfl ?_
    clear henv a; intro a henv
    refine tM (i := 5) (rg 6 4) rfl (by kernel_rfl) (fun _ _ _ h => h) henv rfl rfl ?_
    clear henv a; intro a henv
    refine sAny_take (i := 6) [7, 8, 9] (fun w' => (pfRow fM FM 2 A1 n0 c1 es1).P w') (v := .pointer (some ⟨ab A1, ao A1 + j * 2, none⟩)) rfl (by kernel_rfl) (fun _ _ _ h => h) (fun _ _ _ hS => hS.1.pat (k := 3) rfl) henv rfl (hst.pat (k := 3) rfl) (fun w' hg => rn_idxR (i := j) henv Tryd.underlying32 (ty_anvil_anvilref02_Int.size) rfl rfl (by omega) rfl (show (pfRow fM FM 2 A1 n0 c1 es1).P _ from hg).1) ?_
    clear henv a; intro a henv
    refine sAny_take (i := 7) [8, 9] (fun w' => (pfRow fM FM 2 A1 n0 c1 es1).P w') (v := .agg #[.bool (neg x), .slice C (dl x) e]) rfl (by kernel_rfl) (fun _ _ _ h => h) (fun _ _ _ hS => hS.1.pat (k := 3) rfl) henv rfl (hst.pat (k := 3) rfl) (fun w' hg => rn_loadE (i := j) (e := (C, e, x)) henv ty_anvil_anvilref02_Int rfl rfl fM_len (show (pfRow fM FM 2 A1 n0 c1 es1).P _ from hg).1 (by omega) he1 rfl) ?_
    clear henv a; intro a henv
    refine sAny_one (i := 8) (by kernel_rfl) rfl rfl (op_call henv rfl Tryd.call35 rfl (num_one (z := x) (show ZIn _ A c x from hst.pat (k := 1) rfl) (show RIn _ C e x from hst.pat (k := 0) rfl) hx1) ?_)
    rintro e w54 ⟨rfl, hb⟩
    refine ⟨_, rfl, ?_⟩
    clear henv a; intro a henv
    replace hst := hst.call hb
    clear hb
    refine ⟨.inr ⟨hst.kn.pick [] (rg 0 4), .inr (hst.kn.pick [] [])⟩, ?_⟩
    refine tA (i := 9) [] (v := .bool false) rfl (by kernel_rfl) (fun _ _ _ h => h) henv rfl (fun _ => rn_un henv rfl rfl) ?_
    clear henv a; intro a henv
    refine sAny_done (by kernel_rfl) ?_ _
    refine th_n ?_
    refine if_f henv rfl (rfl) ?_
    refine wp_skip ?_
    refine bl_n (th_n ?_)
    refine region_seq ?_
    revert a
    refine mA rfl rfl ?_
    refine sA (v := .int .i64 (j + 1 : Nat)) rfl (fun _ henv => rn_add henv rfl rfl (by rw [IntWalk.i64_in _ (by omega)]; omega)) ?_
    refine aA rfl rfl ?_
    intro a henv
    refine wpList_nil ?_
    exact th_n ⟨_, (by omega), ⟨j + 1, rfl, henv.sub ⟨rfl, rfl, rfl, rfl, trivial⟩, hst.pick [] [2, 3] (by decide), (by omega)⟩⟩
  · have hjn : j = n0 := by have := of_decide_eq_false hc52; omega
    refine wp_exit ?_
    refine th_x (th_x (bl_x (th_n ?_)))
    refine wp_seq ?_
    refine region_seq ?_
    refine sv (v := .bool true) henv rfl (rn_assign henv rfl) ?_
    clear henv a; intro a henv
    refine wpList_nil ?_
    refine th_n ?_
    refine wp_ret ?_
    refine leave henv (res1 Tryd.results27 (RV.tmp henv rfl)) ?_
    exact ⟨rfl, hst.below⟩
end Go.Proofs.YtegglooojlheoaaDoor.W
