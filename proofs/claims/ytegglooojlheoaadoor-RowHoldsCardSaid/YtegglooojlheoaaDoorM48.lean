/- The laws' long. Printed by pv/gen_row4.py. No condition. -/
import Derived.Test.YtegglooojlheoaaDoorM47
import Derived.Test.YtegglooojlheoaaDoorM15
import Derived.Test.YtegglooojlheoaaDoorM37
import Derived.Test.YtegglooojlheoaaDoorM24

namespace Go.Proofs.YtegglooojlheoaaDoor.W
open Go.RowKit Anv Go.Lib
abbrev VE := Option Addr × Nat × Nat × List UE
def fV (v : VE) : List Value := [.slice v.1 v.2.1 v.2.2.1]
def FV (v : VE) : PF := pfRow fU FU 2 v.1 v.2.1 v.2.2.1 v.2.2.2
theorem fV_len (v : VE) : (fV v).length = 1 := rfl
def tl (us : List UE) : Nat := (us.map fun e => e.2.2.1).sum
def tv (vs : List VE) : Nat := (vs.map fun v => v.2.1 + tl v.2.2.2).sum
theorem sum_step (l : List Nat) : ∀ (k : Nat) (x : Nat), l[k]? = some x → (l.take (k + 1)).sum = (l.take k).sum + x := by
  induction l with
  | nil => intro k x h; cases h
  | cons y l ih =>
    intro k x h
    cases k with
    | zero =>
      rw [List.getElem?_cons_zero] at h
      cases h
      simp
    | succ k =>
      rw [List.getElem?_cons_succ] at h
      rw [List.take_succ_cons, List.take_succ_cons, List.sum_cons, List.sum_cons, ih k x h]
      omega
theorem tl_step {us : List UE} {k : Nat} {e : UE} (h : us[k]? = some e) : tl (us.take (k + 1)) = tl (us.take k) + e.2.2.1 := by
  unfold tl
  rw [List.map_take, List.map_take]
  exact sum_step _ k _ (by rw [List.getElem?_map, h]; rfl)
theorem tv_step {vs : List VE} {k : Nat} {A : Option Addr} {n c : Nat} {us : List UE} (h : vs[k]? = some (A, n, c, us)) : tv (vs.take (k + 1)) = tv (vs.take k) + (n + tl us) := by
  unfold tv
  rw [List.map_take, List.map_take]
  exact sum_step _ k _ (by rw [List.getElem?_map, h]; rfl)
def vz (e : UE) : Int := sg e.1 (val 4294967296 e.2.2.2.2)
theorem make_zv {b : Bool} {A : Option Addr} {n c : Nat} {xs : List Nat} {z : Int} {w : World} (h : U32 w A n c xs) (hz : sg b (val 4294967296 xs) = z) (hn : n ≤ 1000000) :
    Calls Tryd.prog 19 #[.bool b, .slice A n c] w fun e w' => ∃ v, e = .returned v ∧ ZAt w' v z ∧ Below w.heap.size w w' := by
  subst hz
  exact make_z ⟨xs, h, rfl⟩ (Nat.le_trans (nl_len ⟨xs, h, rfl⟩) hn)
theorem make_rv {b : Bool} {A : Option Addr} {n c : Nat} {xs : List Nat} {z : Int} {w : World} (h : U32 w A n c xs) (hz : sg b (val 4294967296 xs) = z) (hn : n ≤ 1000000) :
    Calls Tryd.prog 20 #[.bool b, .slice A n c] w fun e w' => ∃ v, e = .returned v ∧ RAt w' v z ∧ Below w.heap.size w w' := by
  subst hz
  exact make_r h hn
theorem same_rb4 {A B : Option Addr} {c d : Nat} {x y : Int} {w : World} (hx : RIn w A c x) (hy : RIn w B d y) :
    Calls Tryd.prog 107 #[.agg #[.bool (neg x), .slice A (dl x) c], .agg #[.bool (neg y), .slice B (dl y) d]] w fun e w' => e = .returned (.bool (decide (x = y))) ∧ Below w.heap.size w w' := by
  have h := same_r hx hy
  rw [show ((x - y).sign == 0) = decide (x = y) from ?_] at h
  · exact h
  · by_cases e : x = y
    · rw [e, Int.sub_self]; simp
    · rw [decide_eq_false e]
      exact beq_eq_false_iff_ne.2 fun h => e (by have := Int.sign_eq_zero_iff_zero.1 h; omega)
theorem step_num {us : List UE} {os : List NE} {j : Nat} {b : Bool} {A B : Option Addr} {q d c : Nat} {xs : List Nat} {z : Int} (ho : os.map zz = (us.map vz).take j) (he : us[j]? = some (b, A, q, d, xs)) (hz : sg b (val 4294967296 xs) = z) : (os ++ [(B, c, z)]).map zz = (us.map vz).take (j + 1) := by
  rw [List.map_append, ho, take_one (x := z) (by rw [List.getElem?_map, he, ← hz]; rfl)]
  rfl
set_option maxRecDepth 100000 in
set_option maxHeartbeats 2000000 in
theorem row_long {A0 : Option Addr} {n0 c0 : Nat} {es0 : List VE} {w0 : World} (h0 : (pfRow fV FV 1 A0 n0 c0 es0).P w0) (hS : ∀ v ∈ es0, v.2.1 ≤ 35184372088832 ∧ Sz v.2.2.2) :
    Calls Tryd.prog 17 #[.slice A0 n0 c0] w0 fun e w' => ∃ b, e = .returned (.bool b) ∧ (b = false → tv es0 ≤ 300) ∧ Below w0.heap.size w0 w' := by
  refine enter Tryd.func17 rfl Tryd.ntmps17 rfl ?_
  intro a henv hst
  have hlen0 := h0.2.1
  have hbig0 := Nat.le_trans h0.1.cap h0.1.big
  unfold maxLen at hbig0
  replace hst := hst.argRow h0
  clear h0
  refine wp_seq ?_
  refine region_seq ?_
  refine sv (v := .bool false) henv rfl (rn_assign henv rfl) ?_
  clear henv a; intro a henv
  refine wpList_nil ?_
  refine th_n ?_
  refine wp_seq ?_
  refine region_seq ?_
  refine sv (v := .int .i64 0) henv rfl (rn_assign henv rfl) ?_
  clear henv a; intro a henv
  refine wpList_nil ?_
  refine th_n ?_
  refine wp_seq ?_
  refine wp_seq ?_
  refine region_seq ?_
  refine sv (v := .int .i64 0) henv rfl (rn_assign henv rfl) ?_
  clear henv a; intro a henv
  refine wpList_nil ?_
  refine th_n ?_
  refine wp_block ?_
  refine wp_loop_ghost (fun mz a w => ∃ j : Nat, ∃ m : Nat, n0 - j = mz ∧ Env 43 a [(0, .slice A0 n0 c0), (2, .bool false), (3, .int .i64 (m : Nat)), (4, .int .i64 (j : Nat))] ∧ St w0 w [] [pfRow fV FV 1 A0 n0 c0 es0] ∧ j ≤ n0 ∧ m ≤ 300 ∧ m = tv (es0.take j)) _ ⟨0, 0, rfl, henv.sub ⟨rfl, rfl, rfl, rfl, trivial⟩, hst.pick [] [0] (by decide), (Nat.zero_le _), (by decide), rfl⟩ ?_
  clear henv hst a
  rintro mz a w1 ⟨j, m, rfl, henv, hst, hj, hm, hv⟩
  refine wp_seq ?_
  refine wp_seq ?_
  refine region_seq ?_
  revert a
  refine mA rfl rfl ?_
  refine mA rfl rfl ?_
  refine sA (v := .int .i64 (n0 : Nat)) rfl (fun _ henv => rn_len henv Tryd.underlying139 rfl) ?_
  refine sA (v := .bool (decide (((j : Nat) : Int) < ((n0 : Nat) : Int)))) rfl (fun _ henv => rn_bin henv rfl rfl rfl) ?_
  intro a henv
  refine wpList_nil ?_
  refine th_n ?_
  refine if_split henv rfl (fun hc2 => ?_) (fun hc2 => ?_)
  · have hlt : j < n0 := by have := of_decide_eq_true hc2; omega
    obtain ⟨⟨A, n, c, us⟩, he0⟩ : ∃ e, es0[j]? = some e := ⟨_, List.getElem?_eq_getElem (by omega)⟩
    obtain ⟨hn, hsz⟩ := hS _ (List.mem_of_getElem? he0)
    replace hn : n ≤ 35184372088832 := hn
    replace hsz : Sz us := hsz
    replace hst := hst.elem (k := 0) rfl he0
    replace hst : St w0 _ [] [pfRow fU FU 2 A n c us, pfRow fV FV 1 A0 n0 c0 es0] := hst
    have hlu : us.length = n := (hst.pat (k := 0) rfl).2.1
    refine wp_skip ?_
    refine th_n ?_
    refine wp_seq ?_
    refine wp_block ?_
    refine wp_seq ?_
    refine region_seq ?_
    revert a
    refine mA rfl rfl ?_
    refine mA rfl rfl ?_
    refine mA rfl rfl ?_
    refine sA (v := .pointer (some ⟨ab A0, ao A0 + j * 1, none⟩)) rfl (fun _ henv => rn_idxR (i := j) henv Tryd.underlying139 (ty__anvillaw04_Num.size) rfl rfl (by omega) rfl (show (pfRow fV FV 1 A0 n0 c0 es0).P _ from (hst.pat (k := 1) rfl)).1) ?_
    refine sA (v := .slice A n c) rfl (fun _ henv => rn_loadE1 (i := j) (j := 0) (e := (A, n, c, us)) henv ty__anvillaw04_Num rfl rfl fV_len (by decide) (show (pfRow fV FV 1 A0 n0 c0 es0).P _ from (hst.pat (k := 1) rfl)).1 (by omega) he0 rfl) ?_
    refine sA (v := .int .i64 (n : Nat)) rfl (fun _ henv => rn_len henv Tryd.underlying22 rfl) ?_
    refine sA (v := .int .i64 (m + n : Nat)) rfl (fun _ henv => rn_add henv rfl rfl (by rw [IntWalk.i64_in _ (by omega)]; omega)) ?_
    refine aA rfl rfl ?_
    intro a henv
    refine wpList_nil ?_
    refine th_n ?_
    refine wp_seq ?_
    refine wp_seq ?_
    refine region_seq ?_
    revert a
    refine mA rfl rfl ?_
    refine sA (v := .bool (decide (((m + n : Nat) : Int) > (300 : Int)))) rfl (fun _ henv => rn_bin henv rfl rfl rfl) ?_
    intro a henv
    refine wpList_nil ?_
    refine th_n ?_
    refine if_split henv rfl (fun hc3 => ?_) (fun hc3 => ?_)
    · have hcmp := of_decide_eq_true hc3
      refine wp_seq ?_
      refine region_seq ?_
      refine sv (v := .bool true) henv rfl (rn_assign henv rfl) ?_
      clear henv a; intro a henv
      refine wpList_nil ?_
      refine th_n ?_
      refine wp_ret ?_
      refine th_r (bl_r (th_r (th_r (bl_r (th_r ?_)))))
      refine leave henv (res1 Tryd.results17 (RV.tmp henv rfl)) ?_
      exact ⟨true, rfl, (fun h => by cases h), hst.below⟩
    · have hcmp := of_decide_eq_false hc3
      refine wp_skip ?_
      refine th_n ?_
      refine wp_seq ?_
      refine region_seq ?_
      refine sv (v := .int .i64 0) henv rfl (rn_assign henv rfl) ?_
      clear henv a; intro a henv
      refine wpList_nil ?_
      refine th_n ?_
      refine wp_block ?_
      refine wp_loop_ghost (fun mz a w => ∃ k : Nat, ∃ m2 : Nat, n - k = mz ∧ Env 43 a [(0, .slice A0 n0 c0), (2, .bool false), (3, .int .i64 (m2 : Nat)), (4, .int .i64 (j : Nat)), (5, .int .i64 (k : Nat))] ∧ St w0 w [] [pfRow fU FU 2 A n c us, pfRow fV FV 1 A0 n0 c0 es0] ∧ k ≤ n ∧ m2 ≤ 300 ∧ m2 = m + n + tl (us.take k)) _ ⟨0, (m + n), rfl, henv.sub ⟨rfl, rfl, rfl, rfl, rfl, trivial⟩, hst.pick [] [0, 1] (by decide), (Nat.zero_le _), (by omega), rfl⟩ ?_
      clear henv hst a
      rintro mz a w4 ⟨k, m2, rfl, henv, hst, hk, hm2, hv2⟩
      refine wp_seq ?_
      refine wp_seq ?_
      refine region_seq ?_
      revert a
      refine mA rfl rfl ?_
      refine mA rfl rfl ?_
      refine mA rfl rfl ?_
      refine sA (v := .pointer (some ⟨ab A0, ao A0 + j * 1, none⟩)) rfl (fun _ henv => rn_idxR (i := j) henv Tryd.underlying139 (ty__anvillaw04_Num.size) rfl rfl (by omega) rfl (show (pfRow fV FV 1 A0 n0 c0 es0).P _ from (hst.pat (k := 1) rfl)).1) ?_
      refine sA (v := .slice A n c) rfl (fun _ henv => rn_loadE1 (i := j) (j := 0) (e := (A, n, c, us)) henv ty__anvillaw04_Num rfl rfl fV_len (by decide) (show (pfRow fV FV 1 A0 n0 c0 es0).P _ from (hst.pat (k := 1) rfl)).1 (by omega) he0 rfl) ?_
      refine sA (v := .int .i64 (n : Nat)) rfl (fun _ henv => rn_len henv Tryd.underlying22 rfl) ?_
      refine sA (v := .bool (decide (((k : Nat) : Int) < ((n : Nat) : Int)))) rfl (fun _ henv => rn_bin henv rfl rfl rfl) ?_
      intro a henv
      refine wpList_nil ?_
      refine th_n ?_
      refine if_split henv rfl (fun hc5 => ?_) (fun hc5 => ?_)
      · have hlt2 : k < n := by have := of_decide_eq_true hc5; omega
        obtain ⟨⟨b, B, q, d, xs⟩, he1⟩ : ∃ e, us[k]? = some e := ⟨_, List.getElem?_eq_getElem (by omega)⟩
        have hq : q ≤ 35184372088832 := hsz.at he1
        refine wp_skip ?_
        refine th_n ?_
        refine wp_seq ?_
        refine wp_block ?_
        refine wp_seq ?_
        refine region_seq ?_
        revert a
        refine mA rfl rfl ?_
        refine mA rfl rfl ?_
        refine mA rfl rfl ?_
        refine sA (v := .pointer (some ⟨ab A0, ao A0 + j * 1, none⟩)) rfl (fun _ henv => rn_idxR (i := j) henv Tryd.underlying139 (ty__anvillaw04_Num.size) rfl rfl (by omega) rfl (show (pfRow fV FV 1 A0 n0 c0 es0).P _ from (hst.pat (k := 1) rfl)).1) ?_
        refine sA (v := .slice A n c) rfl (fun _ henv => rn_loadE1 (i := j) (j := 0) (e := (A, n, c, us)) henv ty__anvillaw04_Num rfl rfl fV_len (by decide) (show (pfRow fV FV 1 A0 n0 c0 es0).P _ from (hst.pat (k := 1) rfl)).1 (by omega) he0 rfl) ?_
        refine mA rfl rfl ?_
        refine sA (v := .pointer (some ⟨ab A, ao A + k * 2, none⟩)) rfl (fun _ henv => rn_idxR (i := k) henv Tryd.underlying22 (ty_anvil_anvillaw04_Num.size) rfl rfl (by omega) rfl (show (pfRow fU FU 2 A n c us).P _ from (hst.pat (k := 0) rfl)).1) ?_
        refine sA (v := .pointer (some ⟨ab A, ao A + k * 2 + 1, none⟩)) rfl (fun _ henv => rn_fieldAddr henv fd_anvil_anvillaw04_Num_1 (ty__uint32.size) (by decide) rfl) ?_
        refine sA (v := .slice B q d) rfl (fun _ henv => rn_loadE1 (i := k) (j := 1) (e := (b, B, q, d, xs)) henv ty__uint32 rfl rfl fU_len (by decide) (show (pfRow fU FU 2 A n c us).P _ from (hst.pat (k := 0) rfl)).1 (by omega) he1 rfl) ?_
        refine sA (v := .int .i64 (q : Nat)) rfl (fun _ henv => rn_len henv Tryd.underlying23 rfl) ?_
        refine sA (v := .int .i64 (m2 + q : Nat)) rfl (fun _ henv => rn_add henv rfl rfl (by rw [IntWalk.i64_in _ (by omega)]; omega)) ?_
        refine aA rfl rfl ?_
        intro a henv
        refine wpList_nil ?_
        refine th_n ?_
        refine wp_seq ?_
        refine region_seq ?_
        revert a
        refine mA rfl rfl ?_
        refine sA (v := .bool (decide (((m2 + q : Nat) : Int) > (300 : Int)))) rfl (fun _ henv => rn_bin henv rfl rfl rfl) ?_
        intro a henv
        refine wpList_nil ?_
        refine th_n ?_
        refine if_split henv rfl (fun hc6 => ?_) (fun hc6 => ?_)
        · have hcmp := of_decide_eq_true hc6
          refine wp_seq ?_
          refine region_seq ?_
          refine sv (v := .bool true) henv rfl (rn_assign henv rfl) ?_
          clear henv a; intro a henv
          refine wpList_nil ?_
          refine th_n ?_
          refine wp_ret ?_
          refine bl_r (th_r (th_r (bl_r (bl_r (th_r (th_r (bl_r (th_r ?_))))))))
          refine leave henv (res1 Tryd.results17 (RV.tmp henv rfl)) ?_
          exact ⟨true, rfl, (fun h => by cases h), hst.below⟩
        · have hcmp := of_decide_eq_false hc6
          refine wp_skip ?_
          refine bl_n (th_n ?_)
          refine region_seq ?_
          revert a
          refine mA rfl rfl ?_
          refine sA (v := .int .i64 (k + 1 : Nat)) rfl (fun _ henv => rn_add henv rfl rfl (by rw [IntWalk.i64_in _ (by omega)]; omega)) ?_
          refine aA rfl rfl ?_
          intro a henv
          refine wpList_nil ?_
          exact th_n ⟨_, (by omega), ⟨k + 1, (m2 + q), rfl, henv.sub ⟨rfl, rfl, rfl, rfl, rfl, trivial⟩, hst.pick [] [0, 1] (by decide), (by omega), (by omega), (by rw [tl_step he1]; show _ = m + n + (tl (us.take k) + q); omega)⟩⟩
      · have hkn : k = n := by have := of_decide_eq_false hc5; omega
        have hlast : m2 = m + n + tl us := by rw [hv2, hkn, ← hlu, List.take_length]
        refine wp_exit ?_
        refine th_x (th_x (bl_x (bl_n (th_n ?_))))
        refine region_seq ?_
        revert a
        refine mA rfl rfl ?_
        refine sA (v := .int .i64 (j + 1 : Nat)) rfl (fun _ henv => rn_add henv rfl rfl (by rw [IntWalk.i64_in _ (by omega)]; omega)) ?_
        refine aA rfl rfl ?_
        intro a henv
        refine wpList_nil ?_
        exact th_n ⟨_, (by omega), ⟨j + 1, m2, rfl, henv.sub ⟨rfl, rfl, rfl, rfl, trivial⟩, hst.pick [] [1] (by decide), (by omega), (by omega), (by rw [tv_step he0]; omega)⟩⟩
  · have hjn : j = n0 := by have := of_decide_eq_false hc2; omega
    refine wp_exit ?_
    refine th_x (th_x (bl_x (th_n ?_)))
    refine wp_seq ?_
    refine region_seq ?_
    refine sv (v := .bool false) henv rfl (rn_assign henv rfl) ?_
    clear henv a; intro a henv
    refine wpList_nil ?_
    refine th_n ?_
    refine wp_ret ?_
    refine leave henv (res1 Tryd.results17 (RV.tmp henv rfl)) ?_
    exact ⟨false, rfl, (fun _ => by rw [hjn, ← hlen0, List.take_length] at hv; omega), hst.below⟩
set_option maxRecDepth 100000 in
set_option maxHeartbeats 2000000 in
theorem row_of2 {A0 : Option Addr} {n0 c0 : Nat} {es0 : List UE} {w0 : World} (h0 : (pfRow fU FU 2 A0 n0 c0 es0).P w0) (hsm : ∀ e ∈ es0, e.2.2.1 ≤ 1000000) (hn : n0 ≤ 1000000) :
    Calls Tryd.prog 18 #[.slice A0 n0 c0] w0 fun e w' => ∃ v u, e = .returned (.tuple #[v, u]) ∧ ZRow w0.heap.size w' v n0 (es0.map vz) ∧ MRow w0.heap.size w' u n0 (es0.map vz) ∧ Below w0.heap.size w0 w' := by
  refine enter Tryd.func18 rfl Tryd.ntmps18 rfl ?_
  intro a henv hst
  have hlen0 := h0.2.1
  have hbig0 := Nat.le_trans h0.1.cap h0.1.big
  unfold maxLen at hbig0
  replace hst := hst.argRow h0
  clear h0
  refine wp_seq ?_
  refine region_seq ?_
  revert a
  refine aA rfl rfl ?_
  refine aA rfl rfl ?_
  intro a henv
  refine wpList_nil ?_
  refine th_n ?_
  refine wp_seq ?_
  refine region_seq ?_
  refine sv (v := .slice none 0 0) henv rfl (rn_assign henv rfl) ?_
  clear henv a; intro a henv
  refine wpList_nil ?_
  refine th_n ?_
  refine wp_seq ?_
  refine region_seq ?_
  refine sv (v := .slice none 0 0) henv rfl (rn_assign henv rfl) ?_
  clear henv a; intro a henv
  refine wpList_nil ?_
  refine th_n ?_
  refine wp_seq ?_
  refine wp_seq ?_
  refine region_seq ?_
  refine sv (v := .int .i64 0) henv rfl (rn_assign henv rfl) ?_
  clear henv a; intro a henv
  refine wpList_nil ?_
  refine th_n ?_
  refine wp_block ?_
  replace hst := (hst.addRowS notU 36 2).nilEs FN
  replace hst : St w0 _ [rowS notU 36 2 none 0 0 (fl fN ([]))] [pfEs FN ([]), pfRow fU FU 2 A0 n0 c0 es0] := hst
  replace hst := (hst.addRowS notU 39 2).nilEs FM
  replace hst : St w0 _ [rowS notU 39 2 none 0 0 (fl fM ([])), rowS notU 36 2 none 0 0 (fl fN ([]))] [pfEs FM ([]), pfEs FN ([]), pfRow fU FU 2 A0 n0 c0 es0] := hst
  refine wp_loop_ghost (fun mz a w => ∃ j : Nat, ∃ B1 : Option Addr, ∃ d1 : Nat, ∃ os : List NE, ∃ B2 : Option Addr, ∃ d2 : Nat, ∃ ps : List NE, n0 - j = mz ∧ Env 43 a [(0, .slice A0 n0 c0), (2, .slice none 0 0), (3, .slice none 0 0), (4, .slice B1 j d1), (5, .slice B2 j d2), (6, .int .i64 (j : Nat))] ∧ St w0 w [rowS notU 39 2 B2 j d2 (fl fM ps), rowS notU 36 2 B1 j d1 (fl fN os)] [pfEs FM ps, pfEs FN os, pfRow fU FU 2 A0 n0 c0 es0] ∧ j ≤ n0 ∧ os.map zz = (es0.map vz).take j ∧ ps.map zz = (es0.map vz).take j) _ ⟨0, none, 0, [], none, 0, [], rfl, henv.sub ⟨rfl, rfl, rfl, rfl, rfl, rfl, trivial⟩, hst.pick [0, 1] [0, 1, 2] (by decide), (Nat.zero_le _), rfl, rfl⟩ ?_
  clear henv hst a
  rintro mz a w1 ⟨j, B1, d1, os, B2, d2, ps, rfl, henv, hst, hj, ho, hp⟩
  refine wp_seq ?_
  refine wp_seq ?_
  refine region_seq ?_
  revert a
  refine mA rfl rfl ?_
  refine mA rfl rfl ?_
  refine sA (v := .int .i64 (n0 : Nat)) rfl (fun _ henv => rn_len henv Tryd.underlying22 rfl) ?_
  refine sA (v := .bool (decide (((j : Nat) : Int) < ((n0 : Nat) : Int)))) rfl (fun _ henv => rn_bin henv rfl rfl rfl) ?_
  intro a henv
  refine wpList_nil ?_
  refine th_n ?_
  refine if_split henv rfl (fun hc2 => ?_) (fun hc2 => ?_)
  · have hlt : j < n0 := by have := of_decide_eq_true hc2; omega
    obtain ⟨⟨b, B, q, d, xs⟩, he0⟩ : ∃ e, es0[j]? = some e := ⟨_, List.getElem?_eq_getElem (by omega)⟩
    have hq1 : q ≤ 1000000 := hsm _ (List.mem_of_getElem? he0)
    obtain ⟨z, hzv⟩ : ∃ z, sg b (val 4294967296 xs) = z := ⟨_, rfl⟩
    replace hst := hst.elem (k := 2) rfl he0
    replace hst : St w0 _ [rowS notU 39 2 B2 j d2 (fl fM ps), rowS notU 36 2 B1 j d1 (fl fN os)] [pfU B q d xs, pfEs FM ps, pfEs FN os, pfRow fU FU 2 A0 n0 c0 es0] := hst
    refine wp_skip ?_
    refine th_n ?_
    refine wp_seq ?_
    refine wp_block ?_
    refine wp_seq ?_
    refine region_any (n := 15) (Sk [rowS notU 39 2 B2 j d2 (fl fM ps)] [pfU B q d xs, pfEs FM ps, pfEs FN os, pfRow fU FU 2 A0 n0 c0 es0] [] []) mixed rfl henv hst ?_
    clear henv hst; intro w3 henv hst
    refine tM (i := 0) [13, 14] rfl (by kernel_rfl) (fun _ _ _ h => h) henv rfl rfl ?_
    clear henv a; intro a henv
    refine tM (i := 1) [3, 4, 5, 11, 12, 13, 14] rfl (by kernel_rfl) (fun _ _ _ h => h) henv rfl rfl ?_
    clear henv a; intro a henv
    refine tM (i := 2) [3, 4, 5, 11, 12, 13, 14] rfl (by kernel_rfl) (fun _ _ _ h => h) henv rfl rfl ?_
    clear henv a; intro a henv
    refine sAny_take (i := 3) [4, 5, 11, 12, 13, 14] (fun w' => (pfRow fU FU 2 A0 n0 c0 es0).P w') (v := .pointer (some ⟨ab A0, ao A0 + j * 2, none⟩)) rfl (by kernel_rfl) (fun _ _ _ h => h) (fun _ _ _ hS => hS.1.pat (k := 3) rfl) henv rfl (hst.pat (k := 3) rfl) (fun w' hg => rn_idxR (i := j) henv Tryd.underlying22 (ty_anvil_anvillaw04_Num.size) rfl rfl (by omega) rfl (show (pfRow fU FU 2 A0 n0 c0 es0).P _ from hg).1) ?_
    clear henv a; intro a henv
    refine tA (i := 4) [5, 11, 12, 13, 14] (v := .pointer (some ⟨ab A0, ao A0 + j * 2 + 0, none⟩)) rfl (by kernel_rfl) (fun _ _ _ h => h) henv rfl (fun _ => rn_fieldAddr henv fd_anvil_anvillaw04_Num_0 (ty_bool.size) (by decide) rfl) ?_
    clear henv a; intro a henv
    refine sAny_take (i := 5) [11, 12, 13, 14] (fun w' => (pfRow fU FU 2 A0 n0 c0 es0).P w') (v := .bool b) rfl (by kernel_rfl) (fun _ _ _ h => h) (fun _ _ _ hS => hS.1.pat (k := 3) rfl) henv rfl (hst.pat (k := 3) rfl) (fun w' hg => rn_loadE1 (i := j) (j := 0) (e := (b, B, q, d, xs)) henv ty_bool rfl rfl fU_len (by decide) (show (pfRow fU FU 2 A0 n0 c0 es0).P _ from hg).1 (by omega) he0 rfl) ?_
    clear henv a; intro a henv
    refine tM (i := 6) (rg 8 7) rfl (by kernel_rfl) (fun _ _ _ h => h) henv rfl rfl ?_
    clear henv a; intro a henv
    refine tM (i := 7) (rg 8 7) rfl (by kernel_rfl) (fun _ _ _ h => h) henv rfl rfl ?_
    clear henv a; intro a henv
    refine sAny_take (i := 8) [9, 10, 11, 12, 13, 14] (fun w' => (pfRow fU FU 2 A0 n0 c0 es0).P w') (v := .pointer (some ⟨ab A0, ao A0 + j * 2, none⟩)) rfl (by kernel_rfl) (fun _ _ _ h => h) (fun _ _ _ hS => hS.1.pat (k := 3) rfl) henv rfl (hst.pat (k := 3) rfl) (fun w' hg => rn_idxR (i := j) henv Tryd.underlying22 (ty_anvil_anvillaw04_Num.size) rfl rfl (by omega) rfl (show (pfRow fU FU 2 A0 n0 c0 es0).P _ from hg).1) ?_
    clear henv a; intro a henv
    refine tA (i := 9) (rg 10 5) (v := .pointer (some ⟨ab A0, ao A0 + j * 2 + 1, none⟩)) rfl (by kernel_rfl) (fun _ _ _ h => h) henv rfl (fun _ => rn_fieldAddr henv fd_anvil_anvillaw04_Num_1 (ty__uint32.size) (by decide) rfl) ?_
    clear henv a; intro a henv
    refine sAny_take (i := 10) [11, 12, 13, 14] (fun w' => (pfRow fU FU 2 A0 n0 c0 es0).P w') (v := .slice B q d) rfl (by kernel_rfl) (fun _ _ _ h => h) (fun _ _ _ hS => hS.1.pat (k := 3) rfl) henv rfl (hst.pat (k := 3) rfl) (fun w' hg => rn_loadE1 (i := j) (j := 1) (e := (b, B, q, d, xs)) henv ty__uint32 rfl rfl fU_len (by decide) (show (pfRow fU FU 2 A0 n0 c0 es0).P _ from hg).1 (by omega) he0 rfl) ?_
    clear henv a; intro a henv
    refine sAny_one (i := 11) (by kernel_rfl) rfl rfl (op_call henv rfl Tryd.call19 rfl (make_zv (show U32 _ B q d xs from hst.pat (k := 0) rfl) hzv hq1) ?_)
    rintro e w7 ⟨_, rfl, ⟨A4, c5, rfl, hz6⟩, hb⟩
    refine ⟨_, rfl, ?_⟩
    clear henv a; intro a henv
    replace hst := (hst.call hb).addZ hz6 ⟨nou_rowS, nou_rowS, trivial⟩
    clear hz6
    clear hb
    refine ⟨.inr ⟨hst.kn.pick [0] (rg 1 4), .inr (hst.kn.pick [] [])⟩, ?_⟩
    refine sAny_one (i := 12) (by kernel_rfl) rfl rfl (op_buildSlice (z := 2) (pv := #[(0, .agg #[.bool (neg z), .slice A4 (zl z) c5])]) (c := #[.bool (neg z), .slice A4 (zl z) c5]) henv hst rfl Tryd.underlying30 (ty_anvil_integer_Int.size) zero_anvil_integer_Int (by decide) (by decide) rfl (by kernel_rfl) ?_)
    clear henv hst a; intro a w9 g8 henv hst
    refine ⟨.inr ⟨hst.kn.pick [1] (rg 1 4), .inr (hst.kn.pick [] [])⟩, ?_⟩
    refine sAny_one (i := 13) (by kernel_rfl) rfl rfl (op_appendS (k := 2) (j := 0) henv hst rfl Tryd.underlying30 inf_anvil_integer_Int rfl rfl rfl rfl rfl rfl rfl rfl rfl rfl rfl (by unfold maxLen; omega) (by omega) ?_)
    clear henv hst a; intro a w12 g10 c11 henv hst
    rw [show fl fN os ++ (#[.bool (neg z), .slice A4 (zl z) c5] : Array Value).toList = fl fN (os ++ [(A4, c5, z)]) from fl_snoc (f := fN) os (A4, c5, z)] at hst
    replace hst := hst.snocEs (e := (A4, c5, z)) (i := 3) (j := 0) rfl rfl
    refine ⟨.inr ⟨hst.kn.pick [1] (rg 2 4), .inr (hst.kn.pick [] [])⟩, ?_⟩
    refine tA (i := 14) [] (v := .slice (some ⟨g10, 0, none⟩) (j + 1) c11) rfl (by kernel_rfl) (fun _ _ _ h => h) henv rfl (fun _ => rn_assign henv rfl) ?_
    clear henv a; intro a henv
    refine sAny_done (by kernel_rfl) ?_ _
    refine th_n ?_
    refine region_any (n := 15) (Sk [bk g8 #[.bool (neg z), .slice A4 (zl z) c5] 36, rowS notU 36 2 (some ⟨g10, 0, none⟩) (j + 1) c11 (fl fN (os ++ [(A4, c5, z)]))] [pfEs FN (os ++ [(A4, c5, z)]), pfZ A4 c5 z, pfU B q d xs, pfEs FM ps, pfEs FN os, pfRow fU FU 2 A0 n0 c0 es0] [] []) mixed rfl henv hst ?_
    clear henv hst; intro w13 henv hst
    refine tM (i := 0) [13, 14] rfl (by kernel_rfl) (fun _ _ _ h => h) henv rfl rfl ?_
    clear henv a; intro a henv
    refine tM (i := 1) [3, 4, 5, 11, 12, 13, 14] rfl (by kernel_rfl) (fun _ _ _ h => h) henv rfl rfl ?_
    clear henv a; intro a henv
    refine tM (i := 2) [3, 4, 5, 11, 12, 13, 14] rfl (by kernel_rfl) (fun _ _ _ h => h) henv rfl rfl ?_
    clear henv a; intro a henv
    refine sAny_take (i := 3) [4, 5, 11, 12, 13, 14] (fun w' => (pfRow fU FU 2 A0 n0 c0 es0).P w') (v := .pointer (some ⟨ab A0, ao A0 + j * 2, none⟩)) rfl (by kernel_rfl) (fun _ _ _ h => h) (fun _ _ _ hS => hS.1.pat (k := 5) rfl) henv rfl (hst.pat (k := 5) rfl) (fun w' hg => rn_idxR (i := j) henv Tryd.underlying22 (ty_anvil_anvillaw04_Num.size) rfl rfl (by omega) rfl (show (pfRow fU FU 2 A0 n0 c0 es0).P _ from hg).1) ?_
    clear henv a; intro a henv
    refine tA (i := 4) [5, 11, 12, 13, 14] (v := .pointer (some ⟨ab A0, ao A0 + j * 2 + 0, none⟩)) rfl (by kernel_rfl) (fun _ _ _ h => h) henv rfl (fun _ => rn_fieldAddr henv fd_anvil_anvillaw04_Num_0 (ty_bool.size) (by decide) rfl) ?_
    clear henv a; intro a henv
    refine sAny_take (i := 5) [11, 12, 13, 14] (fun w' => (pfRow fU FU 2 A0 n0 c0 es0).P w') (v := .bool b) rfl (by kernel_rfl) (fun _ _ _ h => h) (fun _ _ _ hS => hS.1.pat (k := 5) rfl) henv rfl (hst.pat (k := 5) rfl) (fun w' hg => rn_loadE1 (i := j) (j := 0) (e := (b, B, q, d, xs)) henv ty_bool rfl rfl fU_len (by decide) (show (pfRow fU FU 2 A0 n0 c0 es0).P _ from hg).1 (by omega) he0 rfl) ?_
    clear henv a; intro a henv
    refine tM (i := 6) (rg 8 7) rfl (by kernel_rfl) (fun _ _ _ h => h) henv rfl rfl ?_
    clear henv a; intro a henv
    refine tM (i := 7) (rg 8 7) rfl (by kernel_rfl) (fun _ _ _ h => h) henv rfl rfl ?_
    clear henv a; intro a henv
    refine sAny_take (i := 8) [9, 10, 11, 12, 13, 14] (fun w' => (pfRow fU FU 2 A0 n0 c0 es0).P w') (v := .pointer (some ⟨ab A0, ao A0 + j * 2, none⟩)) rfl (by kernel_rfl) (fun _ _ _ h => h) (fun _ _ _ hS => hS.1.pat (k := 5) rfl) henv rfl (hst.pat (k := 5) rfl) (fun w' hg => rn_idxR (i := j) henv Tryd.underlying22 (ty_anvil_anvillaw04_Num.size) rfl rfl (by omega) rfl (show (pfRow fU FU 2 A0 n0 c0 es0).P _ from hg).1) ?_
    clear henv a; intro a henv
    refine tA (i := 9) (rg 10 5) (v := .pointer (some ⟨ab A0, ao A0 + j * 2 + 1, none⟩)) rfl (by kernel_rfl) (fun _ _ _ h => h) henv rfl (fun _ => rn_fieldAddr henv fd_anvil_anvillaw04_Num_1 (ty__uint32.size) (by decide) rfl) ?_
    clear henv a; intro a henv
    refine sAny_take (i := 10) [11, 12, 13, 14] (fun w' => (pfRow fU FU 2 A0 n0 c0 es0).P w') (v := .slice B q d) rfl (by kernel_rfl) (fun _ _ _ h => h) (fun _ _ _ hS => hS.1.pat (k := 5) rfl) henv rfl (hst.pat (k := 5) rfl) (fun w' hg => rn_loadE1 (i := j) (j := 1) (e := (b, B, q, d, xs)) henv ty__uint32 rfl rfl fU_len (by decide) (show (pfRow fU FU 2 A0 n0 c0 es0).P _ from hg).1 (by omega) he0 rfl) ?_
    clear henv a; intro a henv
    refine sAny_one (i := 11) (by kernel_rfl) rfl rfl (op_call henv rfl Tryd.call20 rfl (make_rv (show U32 _ B q d xs from hst.pat (k := 2) rfl) hzv hq1) ?_)
    rintro e w17 ⟨_, rfl, ⟨A14, c15, rfl, hz16⟩, hb⟩
    refine ⟨_, rfl, ?_⟩
    clear henv a; intro a henv
    replace hst := (hst.call hb).addR hz16 ⟨nou_bk rfl, nou_rowS, nou_rowS, trivial⟩
    clear hz16
    clear hb
    refine ⟨.inr ⟨hst.kn.pick [0, 2] (rg 1 6), .inr (hst.kn.pick [] [])⟩, ?_⟩
    refine sAny_one (i := 12) (by kernel_rfl) rfl rfl (op_buildSlice (z := 2) (pv := #[(0, .agg #[.bool (neg z), .slice A14 (dl z) c15])]) (c := #[.bool (neg z), .slice A14 (dl z) c15]) henv hst rfl Tryd.underlying32 (ty_anvil_anvilref02_Int.size) zero_anvil_anvilref02_Int (by decide) (by decide) rfl (by kernel_rfl) ?_)
    clear henv hst a; intro a w19 g18 henv hst
    refine ⟨.inr ⟨hst.kn.pick [1, 3] (rg 1 6), .inr (hst.kn.pick [] [])⟩, ?_⟩
    refine sAny_one (i := 13) (by kernel_rfl) rfl rfl (op_appendS (k := 2) (j := 0) henv hst rfl Tryd.underlying32 inf_anvil_anvilref02_Int rfl rfl rfl rfl rfl rfl rfl rfl rfl rfl rfl (by unfold maxLen; omega) (by omega) ?_)
    clear henv hst a; intro a w22 g20 c21 henv hst
    rw [show fl fM ps ++ (#[.bool (neg z), .slice A14 (dl z) c15] : Array Value).toList = fl fM (ps ++ [(A14, c15, z)]) from fl_snoc (f := fM) ps (A14, c15, z)] at hst
    replace hst := hst.snocEs (e := (A14, c15, z)) (i := 4) (j := 0) rfl rfl
    refine ⟨.inr ⟨hst.kn.pick [1, 3] (rg 2 6), .inr (hst.kn.pick [] [])⟩, ?_⟩
    refine tA (i := 14) [] (v := .slice (some ⟨g20, 0, none⟩) (j + 1) c21) rfl (by kernel_rfl) (fun _ _ _ h => h) henv rfl (fun _ => rn_assign henv rfl) ?_
    clear henv a; intro a henv
    refine sAny_done (by kernel_rfl) ?_ _
    refine bl_n (th_n ?_)
    refine region_seq ?_
    revert a
    refine mA rfl rfl ?_
    refine sA (v := .int .i64 (j + 1 : Nat)) rfl (fun _ henv => rn_add henv rfl rfl (by rw [IntWalk.i64_in _ (by omega)]; omega)) ?_
    refine aA rfl rfl ?_
    intro a henv
    refine wpList_nil ?_
    exact th_n ⟨_, (by omega), ⟨j + 1, (some ⟨g10, 0, none⟩), c11, (os ++ [(A4, c5, z)]), (some ⟨g20, 0, none⟩), c21, (ps ++ [(A14, c15, z)]), rfl, henv.sub ⟨rfl, rfl, rfl, rfl, rfl, rfl, trivial⟩, hst.pick [2, 3] [0, 2, 7] (by decide), (by omega), (step_num ho he0 hzv), (step_num hp he0 hzv)⟩⟩
  · have hjn : j = n0 := by have := of_decide_eq_false hc2; omega
    refine wp_exit ?_
    refine th_x (th_x (bl_x (th_n ?_)))
    refine wp_seq ?_
    refine region_seq ?_
    revert a
    refine mA rfl rfl ?_
    refine mA rfl rfl ?_
    refine aA rfl rfl ?_
    refine aA rfl rfl ?_
    intro a henv
    refine wpList_nil ?_
    refine th_n ?_
    refine wp_ret ?_
    refine leave henv (res2 Tryd.results18 (RV.tmp henv rfl) (RV.tmp henv rfl)) ?_
    have hfull : (es0.map vz).take j = es0.map vz := List.take_of_length_le (by rw [List.length_map]; omega)
    rw [hfull] at ho hp
    exact ⟨_, _, rfl, ⟨_, _, os, congrArg (fun k => Value.slice _ k _) hjn, (hjn ▸ hst.newRow (k := 1) (j := 1) rfl rfl), map_len ho (by rw [List.length_map]; omega), ho⟩, ⟨_, _, ps, congrArg (fun k => Value.slice _ k _) hjn, (hjn ▸ hst.newRow (k := 0) (j := 0) rfl rfl), map_len hp (by rw [List.length_map]; omega), hp⟩, hst.below⟩
set_option maxRecDepth 100000 in
set_option maxHeartbeats 2000000 in
theorem num_one {A B : Option Addr} {c d : Nat} {z : Int} {w0 : World} (hx : ZIn w0 A c z) (hy : RIn w0 B d z) (hn : zl z ≤ 100000) :
    Calls Tryd.prog 35 #[.agg #[.bool (neg z), .slice A (zl z) c], .agg #[.bool (neg z), .slice B (dl z) d]] w0 fun e w' => e = .returned (.bool true) ∧ Below w0.heap.size w0 w' := by
  refine enter Tryd.func35 rfl Tryd.ntmps35 rfl ?_
  intro a henv hst
  have hdl : dl z ≤ 2 * zl z := dl_zl z
  replace hst := (hst.addZ hx trivial).addR hy trivial
  clear hx hy
  refine wp_seq ?_
  refine region_seq ?_
  refine seq_step rfl (op_box (c := #[.bool (neg z), .slice A (zl z) c]) henv hst rfl rfl rfl ?_)
  clear henv hst a; intro a w2 g1 henv hst
  refine seq_step rfl (op_box (c := #[.bool (neg z), .slice B (dl z) d]) henv hst rfl rfl rfl ?_)
  clear henv hst a; intro a w4 g3 henv hst
  refine sv (v := .bool false) henv rfl (rn_assign henv rfl) ?_
  clear henv a; intro a henv
  refine wpList_nil ?_
  refine th_n ?_
  refine wp_seq ?_
  refine region_seq ?_
  refine sv (v := .agg #[.bool (neg z), .slice A (zl z) c]) henv rfl (rn_load0 henv ty_anvil_integer_Int rfl (hst.oat (k := 1) rfl) rfl) ?_
  clear henv a; intro a henv
  refine seq_step rfl (op_call henv rfl Tryd.call106 rfl (limbs_z (z := z) (show ZIn _ A c z from hst.pat (k := 1) rfl) (by omega)) ?_)
  rintro e w8 ⟨A5, c6, rfl, hz7, -, hb⟩
  refine ⟨_, rfl, ?_⟩
  clear henv a; intro a henv
  replace hst := (hst.call hb).addZ hz7 ⟨nou_bk rfl, nou_bk rfl, trivial⟩
  clear hz7
  clear hb
  revert a
  refine mA rfl rfl ?_
  refine sA (v := .bool (neg z)) rfl (fun _ henv => rn_extract henv rfl rfl) ?_
  refine sA (v := .slice A5 (zl z) c6) rfl (fun _ henv => rn_extract henv rfl rfl) ?_
  refine aA rfl rfl ?_
  refine aA rfl rfl ?_
  intro a henv
  refine wpList_nil ?_
  refine th_n ?_
  refine wp_seq ?_
  refine region_any (n := 13) (Sk [bk g3 #[.bool (neg z), .slice B (dl z) d] 39, bk g1 #[.bool (neg z), .slice A (zl z) c] 36] [pfZ A5 c6 z, pfR B d z, pfZ A c z] [] []) mixed rfl henv hst ?_
  clear henv hst; intro w9 henv hst
  refine tM (i := 0) [2, 4, 5, 6, 7, 8, 9, 10, 11, 12] rfl (by kernel_rfl) (fun _ _ _ h => h) henv rfl rfl ?_
  clear henv a; intro a henv
  refine tM (i := 1) [2, 4, 5, 6, 7, 8, 9, 10, 11, 12] rfl (by kernel_rfl) (fun _ _ _ h => h) henv rfl rfl ?_
  clear henv a; intro a henv
  refine tL (i := 3) 0 0 (rg 4 9) rfl (by kernel_rfl) (fun _ _ _ h => h) henv rfl ty_anvil_anvilref02_Int rfl hst rfl rfl rfl ?_
  clear henv a; intro a henv
  refine sAny_one (i := 2) (by kernel_rfl) rfl rfl (op_call henv rfl Tryd.call20 rfl (make_rz (z := z) (show ZIn _ A5 c6 z from hst.pat (k := 0) rfl) (by omega)) ?_)
  rintro e w13 ⟨_, rfl, ⟨A10, c11, rfl, hz12⟩, hb⟩
  refine ⟨_, rfl, ?_⟩
  clear henv a; intro a henv
  replace hst := (hst.call hb).addR hz12 ⟨nou_bk rfl, nou_bk rfl, trivial⟩
  clear hz12
  clear hb
  refine ⟨.inr ⟨hst.kn.pick [0, 1] [1, 2, 3], .inr (hst.kn.pick [] [])⟩, ?_⟩
  refine sAny_one (i := 4) (by kernel_rfl) rfl rfl (op_call henv rfl Tryd.call107 rfl (same_rb4 (x := z) (y := z) (show RIn _ A10 c11 z from hst.pat (k := 0) rfl) (show RIn _ B d z from hst.pat (k := 2) rfl)) ?_)
  rintro e w14 ⟨rfl, hb⟩
  refine ⟨_, rfl, ?_⟩
  clear henv a; intro a henv
  replace hst := hst.call hb
  clear hb
  refine ⟨.inr ⟨hst.kn.pick [0, 1] [1, 2, 3], .inr (hst.kn.pick [] [])⟩, ?_⟩
  rw [show (decide (z = z)) = true from (decide_eq_true rfl)] at henv
  refine tM (i := 5) (rg 6 7) rfl (by kernel_rfl) (fun _ _ _ h => h) henv rfl rfl ?_
  clear henv a; intro a henv
  refine tLg (i := 6) 1 1 [7, 9, 10, 11, 12] rfl (by kernel_rfl) (fun _ _ _ h => h) henv rfl rfl rfl rfl ty_anvil_integer_Int rfl hst rfl rfl rfl ?_
  clear henv a; intro a henv
  refine tLg (i := 8) 0 0 (rg 9 4) rfl (by kernel_rfl) (fun _ _ _ h => h) henv rfl rfl rfl rfl ty_anvil_anvilref02_Int rfl hst rfl rfl rfl ?_
  clear henv a; intro a henv
  refine sAny_oneg (i := 7) (by kernel_rfl) rfl rfl henv rfl rfl rfl (op_call henv rfl Tryd.call31 rfl (sign_z (z := z)) ?_)
  rintro e w15 ⟨rfl, hb⟩
  refine ⟨_, rfl, ?_⟩
  clear henv a; intro a henv
  replace hst := hst.call hb
  clear hb
  refine ⟨.inr ⟨hst.kn.pick [0, 1] [1, 2, 3], .inr (hst.kn.pick [] [])⟩, ?_⟩
  refine sAny_oneg (i := 9) (by kernel_rfl) rfl rfl henv rfl rfl rfl (op_call henv rfl Tryd.call82 rfl (sign_r (z := z)) ?_)
  rintro e w16 ⟨rfl, hb⟩
  refine ⟨_, rfl, ?_⟩
  clear henv a; intro a henv
  replace hst := hst.call hb
  clear hb
  refine ⟨.inr ⟨hst.kn.pick [0, 1] [1, 2, 3], .inr (hst.kn.pick [] [])⟩, ?_⟩
  refine tAg (i := 10) [11, 12] (v := .bool (z.sign == z.sign)) rfl (by kernel_rfl) (fun _ _ _ h => h) henv rfl rfl rfl rfl (fun _ => rn_bin henv rfl rfl rfl) ?_
  clear henv a; intro a henv
  rw [show (z.sign == z.sign) = true from (beq_self_eq_true _)] at henv
  refine tA (i := 11) [12] (v := .bool true) rfl (by kernel_rfl) (fun _ _ _ h => h) henv rfl (fun _ => rn_pick henv rfl rfl) ?_
  clear henv a; intro a henv
  refine tA (i := 12) [] (v := .bool true) rfl (by kernel_rfl) (fun _ _ _ h => h) henv rfl (fun _ => rn_assign henv rfl) ?_
  clear henv a; intro a henv
  refine sAny_done (by kernel_rfl) ?_ _
  refine th_n ?_
  refine wp_ret ?_
  refine leave henv (res1 Tryd.results35 (RV.tmp henv rfl)) ?_
  exact ⟨rfl, hst.below⟩
end Go.Proofs.YtegglooojlheoaaDoor.W

/- row.Cmp, Same; the reference's Cmp, Same, IsZero. Printed by pv/gen_row5.py. No condition. -/
namespace Go.Proofs.YtegglooojlheoaaDoor.W
open Go.RowKit Anv Go.Lib
def lexc : List Int → List Int → Int
  | x :: xs, y :: ys => if (x - y).sign = 0 then lexc xs ys else (x - y).sign
  | _, _ => 0
def cmpR (xs ys : List Int) : Int := if xs.length < ys.length then -1 else if ys.length < xs.length then 1 else lexc xs ys
theorem cmpR_lt {xs ys : List Int} (h : xs.length < ys.length) : cmpR xs ys = -1 := by unfold cmpR; rw [if_pos h]
theorem cmpR_gt {xs ys : List Int} (h : ys.length < xs.length) : cmpR xs ys = 1 := by unfold cmpR; rw [if_neg (by omega), if_pos h]
theorem lexc_self (xs : List Int) : lexc xs xs = 0 := by
  induction xs with
  | nil => rfl
  | cons x xs ih => rw [lexc, Int.sub_self, if_pos (show Int.sign 0 = 0 from rfl), ih]
theorem lexc_at : ∀ {xs ys : List Int} {j : Nat} {x y : Int}, xs.take j = ys.take j → xs[j]? = some x → ys[j]? = some y → (x - y).sign ≠ 0 → lexc xs ys = (x - y).sign
  | [], _, _, _, _, _, h, _, _ => by cases h
  | _ :: _, [], _, _, _, _, _, h, _ => by cases h
  | a :: xs, b :: ys, 0, x, y, _, h1, h2, h => by
    rw [List.getElem?_cons_zero] at h1 h2
    cases h1; cases h2
    rw [lexc, if_neg h]
  | a :: xs, b :: ys, j + 1, x, y, h0, h1, h2, h => by
    rw [List.take_succ_cons, List.take_succ_cons] at h0
    obtain ⟨rfl, h9⟩ := List.cons.inj h0
    rw [lexc, Int.sub_self, if_pos (show Int.sign 0 = 0 from rfl)]
    exact lexc_at h9 h1 h2 h
theorem cmpR_eq {xs ys : List Int} (_h : xs.length = ys.length) (h2 : xs = ys) : cmpR xs ys = 0 := by
  subst h2
  unfold cmpR
  rw [if_neg (by omega), if_neg (by omega), lexc_self]
theorem cmpR_at {es0 es1 : List NE} {j : Nat} {A B : Option Addr} {c d : Nat} {x y : Int} (h : (es0.map zz).length = (es1.map zz).length) (hq : (es0.map zz).take j = (es1.map zz).take j) (h0 : es0[j]? = some (A, c, x)) (h1 : es1[j]? = some (B, d, y)) (hn : (x - y).sign ≠ 0) : cmpR (es0.map zz) (es1.map zz) = (x - y).sign := by
  unfold cmpR
  rw [if_neg (by omega), if_neg (by omega)]
  exact lexc_at hq (by rw [List.getElem?_map, h0]; rfl) (by rw [List.getElem?_map, h1]; rfl) hn
theorem cmpR_ne {xs ys : List Int} (h : xs.length ≠ ys.length) : (cmpR xs ys == 0) = false := by
  rcases Nat.lt_or_gt_of_ne h with h | h
  · rw [cmpR_lt h]; rfl
  · rw [cmpR_gt h]; rfl
theorem take_both {es0 es1 : List NE} {j : Nat} {A B : Option Addr} {c d : Nat} {x y : Int} (hq : (es0.map zz).take j = (es1.map zz).take j) (h0 : es0[j]? = some (A, c, x)) (h1 : es1[j]? = some (B, d, y)) (h : x = y) : (es0.map zz).take (j + 1) = (es1.map zz).take (j + 1) := by
  rw [take_one (x := x) (by rw [List.getElem?_map, h0]; rfl), take_one (x := y) (by rw [List.getElem?_map, h1]; rfl), hq, h]
theorem of_bne {a b : Int} (h : (a != b) = true) : a ≠ b := bne_iff_ne.1 h
theorem eq_of_sign {x y : Int} (h : ((x - y).sign != 0) = false) : x = y := by
  have h1 : (x - y).sign = 0 := by simpa using h
  have := Int.sign_eq_zero_iff_zero.1 h1
  omega
theorem nat_bne_true {a b : Int} (h : (a != b) = true) : a ≠ b := bne_iff_ne.1 h
theorem nat_bne_false {a b : Int} (h : (a != b) = false) : a = b := by simpa using h
set_option maxRecDepth 100000 in
set_option maxHeartbeats 2000000 in
theorem row_cmp {A0 : Option Addr} {n0 c0 : Nat} {es0 : List NE} {A1 : Option Addr} {n1 c1 : Nat} {es1 : List NE} {w0 : World} (h0 : (pfRow fN FN 2 A0 n0 c0 es0).P w0) (h1 : (pfRow fN FN 2 A1 n1 c1 es1).P w0) :
    Calls Tryd.prog 48 #[.slice A0 n0 c0, .slice A1 n1 c1] w0 fun e w' => e = .returned (.int .i64 (cmpR (es0.map zz) (es1.map zz))) ∧ Below w0.heap.size w0 w' := by
  refine enter Tryd.func48 rfl Tryd.ntmps48 rfl ?_
  intro a henv hst
  have hlen0 := h0.2.1
  have hbig0 := Nat.le_trans h0.1.cap h0.1.big
  unfold maxLen at hbig0
  replace hst := hst.argRow h0
  clear h0
  have hlen1 := h1.2.1
  have hbig1 := Nat.le_trans h1.1.cap h1.1.big
  unfold maxLen at hbig1
  replace hst := hst.argRow h1
  clear h1
  refine wp_seq ?_
  refine region_seq ?_
  refine sv (v := .int .i64 0) henv rfl (rn_assign henv rfl) ?_
  clear henv a; intro a henv
  refine wpList_nil ?_
  refine th_n ?_
  refine wp_seq ?_
  refine wp_block ?_
  refine wp_seq ?_
  refine region_seq ?_
  revert a
  refine mA rfl rfl ?_
  refine sA (v := .int .i64 (n0 : Nat)) rfl (fun _ henv => rn_len henv Tryd.underlying30 rfl) ?_
  refine mA rfl rfl ?_
  refine sA (v := .int .i64 (n1 : Nat)) rfl (fun _ henv => rn_len henv Tryd.underlying30 rfl) ?_
  refine sA (v := .bool (decide (((n0 : Nat) : Int) < ((n1 : Nat) : Int)))) rfl (fun _ henv => rn_bin henv rfl rfl rfl) ?_
  refine aA rfl rfl ?_
  intro a henv
  refine wpList_nil ?_
  refine th_n ?_
  refine if_split henv rfl (fun hc1 => ?_) (fun hc1 => ?_)
  · have hc2 := of_decide_eq_true hc1
    refine wp_seq ?_
    refine region_seq ?_
    refine sv (v := .int .i64 (-1)) henv rfl (rn_assign henv rfl) ?_
    clear henv a; intro a henv
    refine wpList_nil ?_
    refine th_n ?_
    refine wp_ret ?_
    refine bl_r (th_r ?_)
    refine leave henv (res1 Tryd.results48 (RV.tmp henv rfl)) ?_
    exact ⟨by rw [cmpR_lt (by rw [List.length_map, List.length_map]; omega)], hst.below⟩
  · have hc3 := of_decide_eq_false hc1
    refine wp_seq ?_
    refine region_seq ?_
    revert a
    refine mA rfl rfl ?_
    refine sA (v := .int .i64 (n0 : Nat)) rfl (fun _ henv => rn_len henv Tryd.underlying30 rfl) ?_
    refine mA rfl rfl ?_
    refine sA (v := .int .i64 (n1 : Nat)) rfl (fun _ henv => rn_len henv Tryd.underlying30 rfl) ?_
    refine sA (v := .bool (decide (((n0 : Nat) : Int) > ((n1 : Nat) : Int)))) rfl (fun _ henv => rn_bin henv rfl rfl rfl) ?_
    refine aA rfl rfl ?_
    intro a henv
    refine wpList_nil ?_
    refine th_n ?_
    refine if_split henv rfl (fun hc4 => ?_) (fun hc4 => ?_)
    · have hc5 := of_decide_eq_true hc4
      refine wp_seq ?_
      refine region_seq ?_
      refine sv (v := .int .i64 1) henv rfl (rn_assign henv rfl) ?_
      clear henv a; intro a henv
      refine wpList_nil ?_
      refine th_n ?_
      refine wp_ret ?_
      refine bl_r (th_r ?_)
      refine leave henv (res1 Tryd.results48 (RV.tmp henv rfl)) ?_
      exact ⟨by rw [cmpR_gt (by rw [List.length_map, List.length_map]; omega)], hst.below⟩
    · have hc6 := of_decide_eq_false hc4
      refine wp_skip ?_
      refine bl_n (th_n ?_)
      refine wp_seq ?_
      refine wp_seq ?_
      refine region_seq ?_
      revert a
      refine mA rfl rfl ?_
      refine sA (v := .int .i64 (n0 : Nat)) rfl (fun _ henv => rn_len henv Tryd.underlying30 rfl) ?_
      refine mA rfl rfl ?_
      intro a henv
      refine wpList_nil ?_
      refine th_n ?_
      refine wp_block ?_
      refine wp_loop_ghost (fun mz a w => ∃ j : Nat, n0 - j = mz ∧ Env 37 a [(0, .slice A0 n0 c0), (1, .slice A1 n1 c1), (20, .slice A0 n0 c0), (21, .int .i64 (n0 : Nat)), (22, .int .i64 (j : Nat))] ∧ St w0 w [] [pfRow fN FN 2 A1 n1 c1 es1, pfRow fN FN 2 A0 n0 c0 es0] ∧ j ≤ n0 ∧ (es0.map zz).take j = (es1.map zz).take j) _ ⟨0, rfl, henv.sub ⟨rfl, rfl, rfl, rfl, rfl, trivial⟩, hst.pick [] [0, 1] (by decide), (Nat.zero_le _), rfl⟩ ?_
      clear henv hst a
      rintro mz a w7 ⟨j, rfl, henv, hst, hj, hq⟩
      refine wp_seq ?_
      refine region_seq ?_
      refine sv (v := .bool (decide (((j : Nat) : Int) < ((n0 : Nat) : Int)))) henv rfl (rn_bin henv rfl rfl rfl) ?_
      clear henv a; intro a henv
      refine wpList_nil ?_
      refine th_n ?_
      refine wp_seq ?_
      refine if_split henv rfl (fun hc8 => ?_) (fun hc8 => ?_)
      · have hlt : j < n0 := by have := of_decide_eq_true hc8; omega
        obtain ⟨⟨A, c, x⟩, he0⟩ : ∃ e, es0[j]? = some e := ⟨_, List.getElem?_eq_getElem (by omega)⟩
        replace hst := hst.elem (k := 1) rfl he0
        replace hst : St w0 _ [] [pfZ A c x, pfRow fN FN 2 A1 n1 c1 es1, pfRow fN FN 2 A0 n0 c0 es0] := hst
        obtain ⟨⟨B, d, y⟩, he1⟩ : ∃ e, es1[j]? = some e := ⟨_, List.getElem?_eq_getElem (by omega)⟩
        replace hst := hst.elem (k := 1) rfl he1
        replace hst : St w0 _ [] [pfZ B d y, pfZ A c x, pfRow fN FN 2 A1 n1 c1 es1, pfRow fN FN 2 A0 n0 c0 es0] := hst
        refine wp_skip ?_
        refine th_n ?_
        refine wp_seq ?_
        refine wp_block ?_
        refine wp_seq ?_
        refine region_seq ?_
        revert a
        refine mA rfl rfl ?_
        refine sA (v := .pointer (some ⟨ab A0, ao A0 + j * 2, none⟩)) rfl (fun _ henv => rn_idxR (i := j) henv Tryd.underlying30 (ty_anvil_integer_Int.size) rfl rfl (by omega) rfl (show (pfRow fN FN 2 A0 n0 c0 es0).P _ from (hst.pat (k := 3) rfl)).1) ?_
        refine sA (v := .agg #[.bool (neg x), .slice A (zl x) c]) rfl (fun _ henv => rn_loadE (i := j) (e := (A, c, x)) henv ty_anvil_integer_Int rfl rfl fN_len (show (pfRow fN FN 2 A0 n0 c0 es0).P _ from (hst.pat (k := 3) rfl)).1 (by omega) he0 rfl) ?_
        intro a henv
        refine seq_step rfl (op_alloc (c := #[.bool (neg 0), .slice none (zl 0) 0]) henv hst rfl zero_anvil_integer_Int zcells ?_)
        clear henv hst a; intro a w10 g9 henv hst
        refine sv (v := .int .i64 (j : Nat)) henv rfl (rn_assign henv rfl) ?_
        clear henv a; intro a henv
        refine seq_step rfl (op_store (k := 0) (c' := #[.bool (neg x), .slice A (zl x) c]) henv hst (ty_anvil_integer_Int.size) rfl rfl rfl rfl (by simp) rfl rfl ?_)
        clear henv hst a; intro a w11 henv hst
        refine wpList_nil ?_
        refine th_n ?_
        refine wp_seq ?_
        refine region_any (n := 7) (Sk [bk g9 #[.bool (neg x), .slice A (zl x) c] 36] [pfZ B d y, pfZ A c x, pfRow fN FN 2 A1 n1 c1 es1, pfRow fN FN 2 A0 n0 c0 es0] [] []) mixed rfl henv hst ?_
        clear henv hst; intro w12 henv hst
        refine tL (i := 0) 0 0 [5, 6] rfl (by kernel_rfl) (fun _ _ _ h => h) henv rfl ty_anvil_integer_Int rfl hst rfl rfl rfl ?_
        clear henv a; intro a henv
        refine tM (i := 1) (rg 3 4) rfl (by kernel_rfl) (fun _ _ _ h => h) henv rfl rfl ?_
        clear henv a; intro a henv
        refine tM (i := 2) (rg 3 4) rfl (by kernel_rfl) (fun _ _ _ h => h) henv rfl rfl ?_
        clear henv a; intro a henv
        refine sAny_take (i := 3) [4, 5, 6] (fun w' => (pfRow fN FN 2 A1 n1 c1 es1).P w') (v := .pointer (some ⟨ab A1, ao A1 + j * 2, none⟩)) rfl (by kernel_rfl) (fun _ _ _ h => h) (fun _ _ _ hS => hS.1.pat (k := 2) rfl) henv rfl (hst.pat (k := 2) rfl) (fun w' hg => rn_idxR (i := j) henv Tryd.underlying30 (ty_anvil_integer_Int.size) rfl rfl (by omega) rfl (show (pfRow fN FN 2 A1 n1 c1 es1).P _ from hg).1) ?_
        clear henv a; intro a henv
        refine sAny_take (i := 4) [5, 6] (fun w' => (pfRow fN FN 2 A1 n1 c1 es1).P w') (v := .agg #[.bool (neg y), .slice B (zl y) d]) rfl (by kernel_rfl) (fun _ _ _ h => h) (fun _ _ _ hS => hS.1.pat (k := 2) rfl) henv rfl (hst.pat (k := 2) rfl) (fun w' hg => rn_loadE (i := j) (e := (B, d, y)) henv ty_anvil_integer_Int rfl rfl fN_len (show (pfRow fN FN 2 A1 n1 c1 es1).P _ from hg).1 (by omega) he1 rfl) ?_
        clear henv a; intro a henv
        refine sAny_one (i := 5) (by kernel_rfl) rfl rfl (op_call henv rfl Tryd.call42 rfl (cmp_z (x := x) (y := y) (show ZIn _ A c x from hst.pat (k := 1) rfl) (show ZIn _ B d y from hst.pat (k := 0) rfl)) ?_)
        rintro e w13 ⟨rfl, hb⟩
        refine ⟨_, rfl, ?_⟩
        clear henv a; intro a henv
        replace hst := hst.call hb
        clear hb
        refine ⟨.inr ⟨hst.kn.pick [0] (rg 0 4), .inr (hst.kn.pick [] [])⟩, ?_⟩
        refine tA (i := 6) [] (v := .int .i64 ((x - y).sign)) rfl (by kernel_rfl) (fun _ _ _ h => h) henv rfl (fun _ => rn_assign henv rfl) ?_
        clear henv a; intro a henv
        refine sAny_done (by kernel_rfl) ?_ _
        refine th_n ?_
        refine wp_seq ?_
        refine region_seq ?_
        revert a
        refine mA rfl rfl ?_
        refine sA (v := .bool ((x - y).sign != (0 : Int))) rfl (fun _ henv => rn_bin henv rfl rfl rfl) ?_
        intro a henv
        refine wpList_nil ?_
        refine th_n ?_
        refine if_split henv rfl (fun hc14 => ?_) (fun hc14 => ?_)
        · have hnz : (x - y).sign ≠ 0 := of_bne hc14
          refine wp_seq ?_
          refine region_seq ?_
          revert a
          refine mA rfl rfl ?_
          refine aA rfl rfl ?_
          intro a henv
          refine wpList_nil ?_
          refine th_n ?_
          refine wp_ret ?_
          refine bl_r (th_r (th_r (bl_r (th_r ?_))))
          refine leave henv (res1 Tryd.results48 (RV.tmp henv rfl)) ?_
          exact ⟨by rw [cmpR_at (by rw [List.length_map, List.length_map]; omega) hq he0 he1 hnz], hst.below⟩
        · have hzz : x = y := eq_of_sign hc14
          refine wp_skip ?_
          refine bl_n (th_n ?_)
          refine region_seq ?_
          revert a
          refine sA (v := .int .i64 (j + 1 : Nat)) rfl (fun _ henv => rn_add henv rfl rfl (by rw [IntWalk.i64_in _ (by omega)]; omega)) ?_
          refine mA rfl rfl ?_
          intro a henv
          refine wpList_nil ?_
          exact th_n ⟨_, (by omega), ⟨j + 1, rfl, henv.sub ⟨rfl, rfl, rfl, rfl, rfl, trivial⟩, hst.pick [] [2, 3] (by decide), (by omega), (take_both hq he0 he1 hzz)⟩⟩
      · have hjn : j = n0 := by have := of_decide_eq_false hc8; omega
        refine wp_exit ?_
        refine th_x (th_x (bl_x (th_n ?_)))
        refine wp_seq ?_
        refine region_seq ?_
        refine sv (v := .int .i64 0) henv rfl (rn_assign henv rfl) ?_
        clear henv a; intro a henv
        refine wpList_nil ?_
        refine th_n ?_
        refine wp_ret ?_
        refine leave henv (res1 Tryd.results48 (RV.tmp henv rfl)) ?_
        exact ⟨by rw [cmpR_eq (by rw [List.length_map, List.length_map]; omega) (by rw [List.take_of_length_le (by rw [List.length_map]; omega), List.take_of_length_le (by rw [List.length_map]; omega)] at hq; exact hq)], hst.below⟩
set_option maxRecDepth 100000 in
set_option maxHeartbeats 2000000 in
theorem ref_cmp {A0 : Option Addr} {n0 c0 : Nat} {es0 : List NE} {A1 : Option Addr} {n1 c1 : Nat} {es1 : List NE} {w0 : World} (h0 : (pfRow fM FM 2 A0 n0 c0 es0).P w0) (h1 : (pfRow fM FM 2 A1 n1 c1 es1).P w0) :
    Calls Tryd.prog 44 #[.slice A0 n0 c0, .slice A1 n1 c1] w0 fun e w' => e = .returned (.int .i64 (cmpR (es0.map zz) (es1.map zz))) ∧ Below w0.heap.size w0 w' := by
  refine enter Tryd.func44 rfl Tryd.ntmps44 rfl ?_
  intro a henv hst
  have hlen0 := h0.2.1
  have hbig0 := Nat.le_trans h0.1.cap h0.1.big
  unfold maxLen at hbig0
  replace hst := hst.argRow h0
  clear h0
  have hlen1 := h1.2.1
  have hbig1 := Nat.le_trans h1.1.cap h1.1.big
  unfold maxLen at hbig1
  replace hst := hst.argRow h1
  clear h1
  refine wp_seq ?_
  refine region_seq ?_
  refine sv (v := .int .i64 0) henv rfl (rn_assign henv rfl) ?_
  clear henv a; intro a henv
  refine wpList_nil ?_
  refine th_n ?_
  refine wp_seq ?_
  refine wp_seq ?_
  refine region_seq ?_
  revert a
  refine mA rfl rfl ?_
  refine sA (v := .int .i64 (n0 : Nat)) rfl (fun _ henv => rn_len henv Tryd.underlying32 rfl) ?_
  refine mA rfl rfl ?_
  refine sA (v := .int .i64 (n1 : Nat)) rfl (fun _ henv => rn_len henv Tryd.underlying32 rfl) ?_
  refine sA (v := .bool (((n0 : Nat) : Int) != ((n1 : Nat) : Int))) rfl (fun _ henv => rn_bin henv rfl rfl rfl) ?_
  intro a henv
  refine wpList_nil ?_
  refine th_n ?_
  refine if_split henv rfl (fun hc1 => ?_) (fun hc1 => ?_)
  · have hne := nat_bne_true hc1
    refine wp_seq ?_
    refine wp_seq ?_
    refine region_seq ?_
    revert a
    refine mA rfl rfl ?_
    refine sA (v := .int .i64 (n0 : Nat)) rfl (fun _ henv => rn_len henv Tryd.underlying32 rfl) ?_
    refine mA rfl rfl ?_
    refine sA (v := .int .i64 (n1 : Nat)) rfl (fun _ henv => rn_len henv Tryd.underlying32 rfl) ?_
    refine sA (v := .bool (decide (((n0 : Nat) : Int) < ((n1 : Nat) : Int)))) rfl (fun _ henv => rn_bin henv rfl rfl rfl) ?_
    intro a henv
    refine wpList_nil ?_
    refine th_n ?_
    refine if_split henv rfl (fun hc2 => ?_) (fun hc2 => ?_)
    · have hc3 := of_decide_eq_true hc2
      refine wp_seq ?_
      refine region_seq ?_
      refine sv (v := .int .i64 (-1)) henv rfl (rn_assign henv rfl) ?_
      clear henv a; intro a henv
      refine wpList_nil ?_
      refine th_n ?_
      refine wp_ret ?_
      refine th_r (th_r ?_)
      refine leave henv (res1 Tryd.results44 (RV.tmp henv rfl)) ?_
      exact ⟨by rw [cmpR_lt (by rw [List.length_map, List.length_map]; omega)], hst.below⟩
    · have hc4 := of_decide_eq_false hc2
      refine wp_skip ?_
      refine th_n ?_
      refine wp_seq ?_
      refine region_seq ?_
      refine sv (v := .int .i64 1) henv rfl (rn_assign henv rfl) ?_
      clear henv a; intro a henv
      refine wpList_nil ?_
      refine th_n ?_
      refine wp_ret ?_
      refine th_r ?_
      refine leave henv (res1 Tryd.results44 (RV.tmp henv rfl)) ?_
      exact ⟨by rw [cmpR_gt (by rw [List.length_map, List.length_map]; omega)], hst.below⟩
  · have hne := nat_bne_false hc1
    refine wp_skip ?_
    refine th_n ?_
    refine wp_seq ?_
    refine wp_seq ?_
    refine region_seq ?_
    refine sv (v := .int .i64 0) henv rfl (rn_assign henv rfl) ?_
    clear henv a; intro a henv
    refine wpList_nil ?_
    refine th_n ?_
    refine wp_block ?_
    refine wp_loop_ghost (fun mz a w => ∃ j : Nat, n0 - j = mz ∧ Env 35 a [(0, .slice A0 n0 c0), (1, .slice A1 n1 c1), (5, .int .i64 (j : Nat))] ∧ St w0 w [] [pfRow fM FM 2 A1 n1 c1 es1, pfRow fM FM 2 A0 n0 c0 es0] ∧ j ≤ n0 ∧ (es0.map zz).take j = (es1.map zz).take j) _ ⟨0, rfl, henv.sub ⟨rfl, rfl, rfl, trivial⟩, hst.pick [] [0, 1] (by decide), (Nat.zero_le _), rfl⟩ ?_
    clear henv hst a
    rintro mz a w5 ⟨j, rfl, henv, hst, hj, hq⟩
    refine wp_seq ?_
    refine wp_seq ?_
    refine region_seq ?_
    revert a
    refine mA rfl rfl ?_
    refine mA rfl rfl ?_
    refine sA (v := .int .i64 (n0 : Nat)) rfl (fun _ henv => rn_len henv Tryd.underlying32 rfl) ?_
    refine sA (v := .bool (decide (((j : Nat) : Int) < ((n0 : Nat) : Int)))) rfl (fun _ henv => rn_bin henv rfl rfl rfl) ?_
    intro a henv
    refine wpList_nil ?_
    refine th_n ?_
    refine if_split henv rfl (fun hc6 => ?_) (fun hc6 => ?_)
    · have hlt : j < n0 := by have := of_decide_eq_true hc6; omega
      obtain ⟨⟨A, c, x⟩, he0⟩ : ∃ e, es0[j]? = some e := ⟨_, List.getElem?_eq_getElem (by omega)⟩
      replace hst := hst.elem (k := 1) rfl he0
      replace hst : St w0 _ [] [pfR A c x, pfRow fM FM 2 A1 n1 c1 es1, pfRow fM FM 2 A0 n0 c0 es0] := hst
      obtain ⟨⟨B, d, y⟩, he1⟩ : ∃ e, es1[j]? = some e := ⟨_, List.getElem?_eq_getElem (by omega)⟩
      replace hst := hst.elem (k := 1) rfl he1
      replace hst : St w0 _ [] [pfR B d y, pfR A c x, pfRow fM FM 2 A1 n1 c1 es1, pfRow fM FM 2 A0 n0 c0 es0] := hst
      refine wp_skip ?_
      refine th_n ?_
      refine wp_seq ?_
      refine wp_block ?_
      refine wp_seq ?_
      refine region_any (n := 10) (Sk [] [pfR B d y, pfR A c x, pfRow fM FM 2 A1 n1 c1 es1, pfRow fM FM 2 A0 n0 c0 es0] [] []) mixed rfl henv hst ?_
      clear henv hst; intro w7 henv hst
      refine tM (i := 0) [2, 3, 8, 9] rfl (by kernel_rfl) (fun _ _ _ h => h) henv rfl rfl ?_
      clear henv a; intro a henv
      refine tM (i := 1) [2, 3, 8, 9] rfl (by kernel_rfl) (fun _ _ _ h => h) henv rfl rfl ?_
      clear henv a; intro a henv
      refine sAny_take (i := 2) [3, 8, 9] (fun w' => (pfRow fM FM 2 A0 n0 c0 es0).P w') (v := .pointer (some ⟨ab A0, ao A0 + j * 2, none⟩)) rfl (by kernel_rfl) (fun _ _ _ h => h) (fun _ _ _ hS => hS.1.pat (k := 3) rfl) henv rfl (hst.pat (k := 3) rfl) (fun w' hg => rn_idxR (i := j) henv Tryd.underlying32 (ty_anvil_anvilref02_Int.size) rfl rfl (by omega) rfl (show (pfRow fM FM 2 A0 n0 c0 es0).P _ from hg).1) ?_
      clear henv a; intro a henv
      refine sAny_take (i := 3) [8, 9] (fun w' => (pfRow fM FM 2 A0 n0 c0 es0).P w') (v := .agg #[.bool (neg x), .slice A (dl x) c]) rfl (by kernel_rfl) (fun _ _ _ h => h) (fun _ _ _ hS => hS.1.pat (k := 3) rfl) henv rfl (hst.pat (k := 3) rfl) (fun w' hg => rn_loadE (i := j) (e := (A, c, x)) henv ty_anvil_anvilref02_Int rfl rfl fM_len (show (pfRow fM FM 2 A0 n0 c0 es0).P _ from hg).1 (by omega) he0 rfl) ?_
      clear henv a; intro a henv
      refine tM (i := 4) (rg 6 4) rfl (by kernel_rfl) (fun _ _ _ h => h) henv rfl rfl ?_
      clear henv a; intro a henv
      refine tM (i := 5) (rg 6 4) rfl (by kernel_rfl) (fun _ _ _ h => h) henv rfl rfl ?_
      clear henv a; intro a henv
      refine sAny_take (i := 6) [7, 8, 9] (fun w' => (pfRow fM FM 2 A1 n1 c1 es1).P w') (v := .pointer (some ⟨ab A1, ao A1 + j * 2, none⟩)) rfl (by kernel_rfl) (fun _ _ _ h => h) (fun _ _ _ hS => hS.1.pat (k := 2) rfl) henv rfl (hst.pat (k := 2) rfl) (fun w' hg => rn_idxR (i := j) henv Tryd.underlying32 (ty_anvil_anvilref02_Int.size) rfl rfl (by omega) rfl (show (pfRow fM FM 2 A1 n1 c1 es1).P _ from hg).1) ?_
      clear henv a; intro a henv
      refine sAny_take (i := 7) [8, 9] (fun w' => (pfRow fM FM 2 A1 n1 c1 es1).P w') (v := .agg #[.bool (neg y), .slice B (dl y) d]) rfl (by kernel_rfl) (fun _ _ _ h => h) (fun _ _ _ hS => hS.1.pat (k := 2) rfl) henv rfl (hst.pat (k := 2) rfl) (fun w' hg => rn_loadE (i := j) (e := (B, d, y)) henv ty_anvil_anvilref02_Int rfl rfl fM_len (show (pfRow fM FM 2 A1 n1 c1 es1).P _ from hg).1 (by omega) he1 rfl) ?_
      clear henv a; intro a henv
      refine sAny_one (i := 8) (by kernel_rfl) rfl rfl (op_call henv rfl Tryd.call109 rfl (cmp_r (x := x) (y := y) (show RIn _ A c x from hst.pat (k := 1) rfl) (show RIn _ B d y from hst.pat (k := 0) rfl)) ?_)
      rintro e w8 ⟨rfl, hb⟩
      refine ⟨_, rfl, ?_⟩
      clear henv a; intro a henv
      replace hst := hst.call hb
      clear hb
      refine ⟨.inr ⟨hst.kn.pick [] (rg 0 4), .inr (hst.kn.pick [] [])⟩, ?_⟩
      refine tA (i := 9) [] (v := .int .i64 ((x - y).sign)) rfl (by kernel_rfl) (fun _ _ _ h => h) henv rfl (fun _ => rn_assign henv rfl) ?_
      clear henv a; intro a henv
      refine sAny_done (by kernel_rfl) ?_ _
      refine th_n ?_
      refine wp_seq ?_
      refine region_seq ?_
      revert a
      refine mA rfl rfl ?_
      refine sA (v := .bool ((x - y).sign != (0 : Int))) rfl (fun _ henv => rn_bin henv rfl rfl rfl) ?_
      intro a henv
      refine wpList_nil ?_
      refine th_n ?_
      refine if_split henv rfl (fun hc9 => ?_) (fun hc9 => ?_)
      · have hnz : (x - y).sign ≠ 0 := of_bne hc9
        refine wp_seq ?_
        refine region_seq ?_
        revert a
        refine mA rfl rfl ?_
        refine aA rfl rfl ?_
        intro a henv
        refine wpList_nil ?_
        refine th_n ?_
        refine wp_ret ?_
        refine bl_r (th_r (th_r (bl_r (th_r ?_))))
        refine leave henv (res1 Tryd.results44 (RV.tmp henv rfl)) ?_
        exact ⟨by rw [cmpR_at (by rw [List.length_map, List.length_map]; omega) hq he0 he1 hnz], hst.below⟩
      · have hzz : x = y := eq_of_sign hc9
        refine wp_skip ?_
        refine bl_n (th_n ?_)
        refine region_seq ?_
        revert a
        refine mA rfl rfl ?_
        refine sA (v := .int .i64 (j + 1 : Nat)) rfl (fun _ henv => rn_add henv rfl rfl (by rw [IntWalk.i64_in _ (by omega)]; omega)) ?_
        refine aA rfl rfl ?_
        intro a henv
        refine wpList_nil ?_
        exact th_n ⟨_, (by omega), ⟨j + 1, rfl, henv.sub ⟨rfl, rfl, rfl, trivial⟩, hst.pick [] [2, 3] (by decide), (by omega), (take_both hq he0 he1 hzz)⟩⟩
    · have hjn : j = n0 := by have := of_decide_eq_false hc6; omega
      refine wp_exit ?_
      refine th_x (th_x (bl_x (th_n ?_)))
      refine wp_seq ?_
      refine region_seq ?_
      refine sv (v := .int .i64 0) henv rfl (rn_assign henv rfl) ?_
      clear henv a; intro a henv
      refine wpList_nil ?_
      refine th_n ?_
      refine wp_ret ?_
      refine leave henv (res1 Tryd.results44 (RV.tmp henv rfl)) ?_
      exact ⟨by rw [cmpR_eq (by rw [List.length_map, List.length_map]; omega) (by rw [List.take_of_length_le (by rw [List.length_map]; omega), List.take_of_length_le (by rw [List.length_map]; omega)] at hq; exact hq)], hst.below⟩
set_option maxRecDepth 100000 in
set_option maxHeartbeats 2000000 in
theorem row_same {A0 : Option Addr} {n0 c0 : Nat} {es0 : List NE} {A1 : Option Addr} {n1 c1 : Nat} {es1 : List NE} {w0 : World} (h0 : (pfRow fN FN 2 A0 n0 c0 es0).P w0) (h1 : (pfRow fN FN 2 A1 n1 c1 es1).P w0) :
    Calls Tryd.prog 45 #[.slice A0 n0 c0, .slice A1 n1 c1] w0 fun e w' => e = .returned (.bool ((cmpR (es0.map zz) (es1.map zz)) == 0)) ∧ Below w0.heap.size w0 w' := by
  refine enter Tryd.func45 rfl Tryd.ntmps45 rfl ?_
  intro a henv hst
  have hlen0 := h0.2.1
  have hbig0 := Nat.le_trans h0.1.cap h0.1.big
  unfold maxLen at hbig0
  replace hst := hst.argRow h0
  clear h0
  have hlen1 := h1.2.1
  have hbig1 := Nat.le_trans h1.1.cap h1.1.big
  unfold maxLen at hbig1
  replace hst := hst.argRow h1
  clear h1
  refine wp_seq ?_
  refine region_seq ?_
  refine sv (v := .bool false) henv rfl (rn_assign henv rfl) ?_
  clear henv a; intro a henv
  refine wpList_nil ?_
  refine th_n ?_
  refine wp_seq ?_
  refine region_seq ?_
  revert a
  refine mA rfl rfl ?_
  refine mA rfl rfl ?_
  intro a henv
  refine seq_step rfl (op_call henv rfl Tryd.call48 rfl (row_cmp (hst.pat (k := 1) rfl) (hst.pat (k := 0) rfl)) ?_)
  rintro e w1 ⟨rfl, hb⟩
  refine ⟨_, rfl, ?_⟩
  clear henv a; intro a henv
  replace hst := hst.call hb
  clear hb
  revert a
  refine sA (v := .bool ((cmpR (es0.map zz) (es1.map zz)) == (0 : Int))) rfl (fun _ henv => rn_bin henv rfl rfl rfl) ?_
  refine aA rfl rfl ?_
  intro a henv
  refine wpList_nil ?_
  refine th_n ?_
  refine wp_ret ?_
  refine leave henv (res1 Tryd.results45 (RV.tmp henv rfl)) ?_
  exact ⟨rfl, hst.below⟩
set_option maxRecDepth 100000 in
set_option maxHeartbeats 2000000 in
theorem ref_same {A0 : Option Addr} {n0 c0 : Nat} {es0 : List NE} {A1 : Option Addr} {n1 c1 : Nat} {es1 : List NE} {w0 : World} (h0 : (pfRow fM FM 2 A0 n0 c0 es0).P w0) (h1 : (pfRow fM FM 2 A1 n1 c1 es1).P w0) :
    Calls Tryd.prog 46 #[.slice A0 n0 c0, .slice A1 n1 c1] w0 fun e w' => e = .returned (.bool ((cmpR (es0.map zz) (es1.map zz)) == 0)) ∧ Below w0.heap.size w0 w' := by
  refine enter Tryd.func46 rfl Tryd.ntmps46 rfl ?_
  intro a henv hst
  have hlen0 := h0.2.1
  have hbig0 := Nat.le_trans h0.1.cap h0.1.big
  unfold maxLen at hbig0
  replace hst := hst.argRow h0
  clear h0
  have hlen1 := h1.2.1
  have hbig1 := Nat.le_trans h1.1.cap h1.1.big
  unfold maxLen at hbig1
  replace hst := hst.argRow h1
  clear h1
  refine wp_seq ?_
  refine region_seq ?_
  refine sv (v := .bool false) henv rfl (rn_assign henv rfl) ?_
  clear henv a; intro a henv
  refine wpList_nil ?_
  refine th_n ?_
  refine wp_seq ?_
  refine wp_seq ?_
  refine region_seq ?_
  revert a
  refine mA rfl rfl ?_
  refine sA (v := .int .i64 (n0 : Nat)) rfl (fun _ henv => rn_len henv Tryd.underlying32 rfl) ?_
  refine mA rfl rfl ?_
  refine sA (v := .int .i64 (n1 : Nat)) rfl (fun _ henv => rn_len henv Tryd.underlying32 rfl) ?_
  refine sA (v := .bool (((n0 : Nat) : Int) != ((n1 : Nat) : Int))) rfl (fun _ henv => rn_bin henv rfl rfl rfl) ?_
  intro a henv
  refine wpList_nil ?_
  refine th_n ?_
  refine if_split henv rfl (fun hc1 => ?_) (fun hc1 => ?_)
  · have hne := nat_bne_true hc1
    refine wp_seq ?_
    refine region_seq ?_
    refine sv (v := .bool false) henv rfl (rn_assign henv rfl) ?_
    clear henv a; intro a henv
    refine wpList_nil ?_
    refine th_n ?_
    refine wp_ret ?_
    refine th_r ?_
    refine leave henv (res1 Tryd.results46 (RV.tmp henv rfl)) ?_
    exact ⟨by rw [cmpR_ne (by rw [List.length_map, List.length_map]; omega)], hst.below⟩
  · have hne := nat_bne_false hc1
    refine wp_skip ?_
    refine th_n ?_
    refine wp_seq ?_
    refine wp_seq ?_
    refine region_seq ?_
    refine sv (v := .int .i64 0) henv rfl (rn_assign henv rfl) ?_
    clear henv a; intro a henv
    refine wpList_nil ?_
    refine th_n ?_
    refine wp_block ?_
    refine wp_loop_ghost (fun mz a w => ∃ j : Nat, n0 - j = mz ∧ Env 27 a [(0, .slice A0 n0 c0), (1, .slice A1 n1 c1), (5, .int .i64 (j : Nat))] ∧ St w0 w [] [pfRow fM FM 2 A1 n1 c1 es1, pfRow fM FM 2 A0 n0 c0 es0] ∧ j ≤ n0 ∧ (es0.map zz).take j = (es1.map zz).take j) _ ⟨0, rfl, henv.sub ⟨rfl, rfl, rfl, trivial⟩, hst.pick [] [0, 1] (by decide), (Nat.zero_le _), rfl⟩ ?_
    clear henv hst a
    rintro mz a w2 ⟨j, rfl, henv, hst, hj, hq⟩
    refine wp_seq ?_
    refine wp_seq ?_
    refine region_seq ?_
    revert a
    refine mA rfl rfl ?_
    refine mA rfl rfl ?_
    refine sA (v := .int .i64 (n0 : Nat)) rfl (fun _ henv => rn_len henv Tryd.underlying32 rfl) ?_
    refine sA (v := .bool (decide (((j : Nat) : Int) < ((n0 : Nat) : Int)))) rfl (fun _ henv => rn_bin henv rfl rfl rfl) ?_
    intro a henv
    refine wpList_nil ?_
    refine th_n ?_
    refine if_split henv rfl (fun hc3 => ?_) (fun hc3 => ?_)
    · have hlt : j < n0 := by have := of_decide_eq_true hc3; omega
      obtain ⟨⟨A, c, x⟩, he0⟩ : ∃ e, es0[j]? = some e := ⟨_, List.getElem?_eq_getElem (by omega)⟩
      replace hst := hst.elem (k := 1) rfl he0
      replace hst : St w0 _ [] [pfR A c x, pfRow fM FM 2 A1 n1 c1 es1, pfRow fM FM 2 A0 n0 c0 es0] := hst
      obtain ⟨⟨B, d, y⟩, he1⟩ : ∃ e, es1[j]? = some e := ⟨_, List.getElem?_eq_getElem (by omega)⟩
      replace hst := hst.elem (k := 1) rfl he1
      replace hst : St w0 _ [] [pfR B d y, pfR A c x, pfRow fM FM 2 A1 n1 c1 es1, pfRow fM FM 2 A0 n0 c0 es0] := hst
      refine wp_skip ?_
      refine th_n ?_
      refine wp_seq ?_
      refine wp_block ?_
      refine wp_seq ?_
      refine region_any (n := 10) (Sk [] [pfR B d y, pfR A c x, pfRow fM FM 2 A1 n1 c1 es1, pfRow fM FM 2 A0 n0 c0 es0] [] []) mixed rfl henv hst ?_
      clear henv hst; intro w4 henv hst
      refine tM (i := 0) [2, 3, 8, 9] rfl (by kernel_rfl) (fun _ _ _ h => h) henv rfl rfl ?_
      clear henv a; intro a henv
      refine tM (i := 1) [2, 3, 8, 9] rfl (by kernel_rfl) (fun _ _ _ h => h) henv rfl rfl ?_
      clear henv a; intro a henv
      refine sAny_take (i := 2) [3, 8, 9] (fun w' => (pfRow fM FM 2 A0 n0 c0 es0).P w') (v := .pointer (some ⟨ab A0, ao A0 + j * 2, none⟩)) rfl (by kernel_rfl) (fun _ _ _ h => h) (fun _ _ _ hS => hS.1.pat (k := 3) rfl) henv rfl (hst.pat (k := 3) rfl) (fun w' hg => rn_idxR (i := j) henv Tryd.underlying32 (ty_anvil_anvilref02_Int.size) rfl rfl (by omega) rfl (show (pfRow fM FM 2 A0 n0 c0 es0).P _ from hg).1) ?_
      clear henv a; intro a henv
      refine sAny_take (i := 3) [8, 9] (fun w' => (pfRow fM FM 2 A0 n0 c0 es0).P w') (v := .agg #[.bool (neg x), .slice A (dl x) c]) rfl (by kernel_rfl) (fun _ _ _ h => h) (fun _ _ _ hS => hS.1.pat (k := 3) rfl) henv rfl (hst.pat (k := 3) rfl) (fun w' hg => rn_loadE (i := j) (e := (A, c, x)) henv ty_anvil_anvilref02_Int rfl rfl fM_len (show (pfRow fM FM 2 A0 n0 c0 es0).P _ from hg).1 (by omega) he0 rfl) ?_
      clear henv a; intro a henv
      refine tM (i := 4) (rg 6 4) rfl (by kernel_rfl) (fun _ _ _ h => h) henv rfl rfl ?_
      clear henv a; intro a henv
      refine tM (i := 5) (rg 6 4) rfl (by kernel_rfl) (fun _ _ _ h => h) henv rfl rfl ?_
      clear henv a; intro a henv
      refine sAny_take (i := 6) [7, 8, 9] (fun w' => (pfRow fM FM 2 A1 n1 c1 es1).P w') (v := .pointer (some ⟨ab A1, ao A1 + j * 2, none⟩)) rfl (by kernel_rfl) (fun _ _ _ h => h) (fun _ _ _ hS => hS.1.pat (k := 2) rfl) henv rfl (hst.pat (k := 2) rfl) (fun w' hg => rn_idxR (i := j) henv Tryd.underlying32 (ty_anvil_anvilref02_Int.size) rfl rfl (by omega) rfl (show (pfRow fM FM 2 A1 n1 c1 es1).P _ from hg).1) ?_
      clear henv a; intro a henv
      refine sAny_take (i := 7) [8, 9] (fun w' => (pfRow fM FM 2 A1 n1 c1 es1).P w') (v := .agg #[.bool (neg y), .slice B (dl y) d]) rfl (by kernel_rfl) (fun _ _ _ h => h) (fun _ _ _ hS => hS.1.pat (k := 2) rfl) henv rfl (hst.pat (k := 2) rfl) (fun w' hg => rn_loadE (i := j) (e := (B, d, y)) henv ty_anvil_anvilref02_Int rfl rfl fM_len (show (pfRow fM FM 2 A1 n1 c1 es1).P _ from hg).1 (by omega) he1 rfl) ?_
      clear henv a; intro a henv
      refine sAny_one (i := 8) (by kernel_rfl) rfl rfl (op_call henv rfl Tryd.call109 rfl (cmp_r (x := x) (y := y) (show RIn _ A c x from hst.pat (k := 1) rfl) (show RIn _ B d y from hst.pat (k := 0) rfl)) ?_)
      rintro e w5 ⟨rfl, hb⟩
      refine ⟨_, rfl, ?_⟩
      clear henv a; intro a henv
      replace hst := hst.call hb
      clear hb
      refine ⟨.inr ⟨hst.kn.pick [] (rg 0 4), .inr (hst.kn.pick [] [])⟩, ?_⟩
      refine tA (i := 9) [] (v := .bool ((x - y).sign != (0 : Int))) rfl (by kernel_rfl) (fun _ _ _ h => h) henv rfl (fun _ => rn_bin henv rfl rfl rfl) ?_
      clear henv a; intro a henv
      refine sAny_done (by kernel_rfl) ?_ _
      refine th_n ?_
      refine if_split henv rfl (fun hc6 => ?_) (fun hc6 => ?_)
      · have hnz : (x - y).sign ≠ 0 := of_bne hc6
        refine wp_seq ?_
        refine region_seq ?_
        refine sv (v := .bool false) henv rfl (rn_assign henv rfl) ?_
        clear henv a; intro a henv
        refine wpList_nil ?_
        refine th_n ?_
        refine wp_ret ?_
        refine bl_r (th_r (th_r (bl_r (th_r ?_))))
        refine leave henv (res1 Tryd.results46 (RV.tmp henv rfl)) ?_
        exact ⟨by rw [cmpR_at (by rw [List.length_map, List.length_map]; omega) hq he0 he1 hnz, beq_eq_false_iff_ne.2 hnz], hst.below⟩
      · have hzz : x = y := eq_of_sign hc6
        refine wp_skip ?_
        refine bl_n (th_n ?_)
        refine region_seq ?_
        revert a
        refine mA rfl rfl ?_
        refine sA (v := .int .i64 (j + 1 : Nat)) rfl (fun _ henv => rn_add henv rfl rfl (by rw [IntWalk.i64_in _ (by omega)]; omega)) ?_
        refine aA rfl rfl ?_
        intro a henv
        refine wpList_nil ?_
        exact th_n ⟨_, (by omega), ⟨j + 1, rfl, henv.sub ⟨rfl, rfl, rfl, trivial⟩, hst.pick [] [2, 3] (by decide), (by omega), (take_both hq he0 he1 hzz)⟩⟩
    · have hjn : j = n0 := by have := of_decide_eq_false hc3; omega
      refine wp_exit ?_
      refine th_x (th_x (bl_x (th_n ?_)))
      refine wp_seq ?_
      refine region_seq ?_
      refine sv (v := .bool true) henv rfl (rn_assign henv rfl) ?_
      clear henv a; intro a henv
      refine wpList_nil ?_
      refine th_n ?_
      refine wp_ret ?_
      refine leave henv (res1 Tryd.results46 (RV.tmp henv rfl)) ?_
      exact ⟨by rw [cmpR_eq (by rw [List.length_map, List.length_map]; omega) (by rw [List.take_of_length_le (by rw [List.length_map]; omega), List.take_of_length_le (by rw [List.length_map]; omega)] at hq; exact hq)]; rfl, hst.below⟩
set_option maxRecDepth 100000 in
set_option maxHeartbeats 2000000 in
theorem ref_iszero {A0 : Option Addr} {n0 c0 : Nat} {es0 : List NE} {w0 : World} (h0 : (pfRow fM FM 2 A0 n0 c0 es0).P w0) :
    Calls Tryd.prog 47 #[.slice A0 n0 c0] w0 fun e w' => e = .returned (.bool (allz es0)) ∧ Below w0.heap.size w0 w' := by
  refine enter Tryd.func47 rfl Tryd.ntmps47 rfl ?_
  intro a henv hst
  have hlen0 := h0.2.1
  have hbig0 := Nat.le_trans h0.1.cap h0.1.big
  unfold maxLen at hbig0
  replace hst := hst.argRow h0
  clear h0
  refine wp_seq ?_
  refine region_seq ?_
  refine sv (v := .bool false) henv rfl (rn_assign henv rfl) ?_
  clear henv a; intro a henv
  refine wpList_nil ?_
  refine th_n ?_
  refine wp_seq ?_
  refine wp_seq ?_
  refine region_seq ?_
  refine sv (v := .int .i64 0) henv rfl (rn_assign henv rfl) ?_
  clear henv a; intro a henv
  refine wpList_nil ?_
  refine th_n ?_
  refine wp_block ?_
  refine wp_loop_ghost (fun mz a w => ∃ j : Nat, n0 - j = mz ∧ Env 16 a [(0, .slice A0 n0 c0), (3, .int .i64 (j : Nat))] ∧ St w0 w [] [pfRow fM FM 2 A0 n0 c0 es0] ∧ j ≤ n0 ∧ (∀ i e, i < j → es0[i]? = some e → zz e = 0)) _ ⟨0, rfl, henv.sub ⟨rfl, rfl, trivial⟩, hst.pick [] [0] (by decide), (Nat.zero_le _), (fun i _ hi => absurd hi (Nat.not_lt_zero _))⟩ ?_
  clear henv hst a
  rintro mz a w1 ⟨j, rfl, henv, hst, hj, hq⟩
  refine wp_seq ?_
  refine wp_seq ?_
  refine region_seq ?_
  revert a
  refine mA rfl rfl ?_
  refine mA rfl rfl ?_
  refine sA (v := .int .i64 (n0 : Nat)) rfl (fun _ henv => rn_len henv Tryd.underlying32 rfl) ?_
  refine sA (v := .bool (decide (((j : Nat) : Int) < ((n0 : Nat) : Int)))) rfl (fun _ henv => rn_bin henv rfl rfl rfl) ?_
  intro a henv
  refine wpList_nil ?_
  refine th_n ?_
  refine if_split henv rfl (fun hc2 => ?_) (fun hc2 => ?_)
  · have hlt : j < n0 := by have := of_decide_eq_true hc2; omega
    obtain ⟨⟨A, c, z⟩, he0⟩ : ∃ e, es0[j]? = some e := ⟨_, List.getElem?_eq_getElem (by omega)⟩
    replace hst := hst.elem (k := 0) rfl he0
    replace hst : St w0 _ [] [pfR A c z, pfRow fM FM 2 A0 n0 c0 es0] := hst
    refine wp_skip ?_
    refine th_n ?_
    refine wp_seq ?_
    refine wp_block ?_
    refine wp_seq ?_
    refine region_seq ?_
    revert a
    refine mA rfl rfl ?_
    refine mA rfl rfl ?_
    refine sA (v := .pointer (some ⟨ab A0, ao A0 + j * 2, none⟩)) rfl (fun _ henv => rn_idxR (i := j) henv Tryd.underlying32 (ty_anvil_anvilref02_Int.size) rfl rfl (by omega) rfl (show (pfRow fM FM 2 A0 n0 c0 es0).P _ from (hst.pat (k := 1) rfl)).1) ?_
    refine sA (v := .agg #[.bool (neg z), .slice A (dl z) c]) rfl (fun _ henv => rn_loadE (i := j) (e := (A, c, z)) henv ty_anvil_anvilref02_Int rfl rfl fM_len (show (pfRow fM FM 2 A0 n0 c0 es0).P _ from (hst.pat (k := 1) rfl)).1 (by omega) he0 rfl) ?_
    intro a henv
    refine seq_step rfl (op_call henv rfl Tryd.call82 rfl (sign_r (z := z)) ?_)
    rintro e w3 ⟨rfl, hb⟩
    refine ⟨_, rfl, ?_⟩
    clear henv a; intro a henv
    replace hst := hst.call hb
    clear hb
    refine sv (v := .bool (z.sign != (0 : Int))) henv rfl (rn_bin henv rfl rfl rfl) ?_
    clear henv a; intro a henv
    refine wpList_nil ?_
    refine th_n ?_
    refine if_split henv rfl (fun hc4 => ?_) (fun hc4 => ?_)
    · have hnz : z ≠ 0 := fun e0 => by rw [e0] at hc4; cases hc4
      refine wp_seq ?_
      refine region_seq ?_
      refine sv (v := .bool false) henv rfl (rn_assign henv rfl) ?_
      clear henv a; intro a henv
      refine wpList_nil ?_
      refine th_n ?_
      refine wp_ret ?_
      refine bl_r (th_r (th_r (bl_r (th_r ?_))))
      refine leave henv (res1 Tryd.results47 (RV.tmp henv rfl)) ?_
      exact ⟨by rw [allz_no he0 hnz], hst.below⟩
    · have hzz : z = 0 := Int.sign_eq_zero_iff_zero.1 (by simpa using hc4)
      refine wp_skip ?_
      refine bl_n (th_n ?_)
      refine region_seq ?_
      revert a
      refine mA rfl rfl ?_
      refine sA (v := .int .i64 (j + 1 : Nat)) rfl (fun _ henv => rn_add henv rfl rfl (by rw [IntWalk.i64_in _ (by omega)]; omega)) ?_
      refine aA rfl rfl ?_
      intro a henv
      refine wpList_nil ?_
      exact th_n ⟨_, (by omega), ⟨j + 1, rfl, henv.sub ⟨rfl, rfl, trivial⟩, hst.pick [] [1] (by decide), (by omega), (fun i e hi h1 => by rcases Nat.lt_or_ge i j with h2 | h2; exact hq i e h2 h1; obtain rfl : i = j := (by omega); rw [he0] at h1; cases h1; exact hzz)⟩⟩
  · obtain rfl : j = n0 := by have := of_decide_eq_false hc2; omega
    refine wp_exit ?_
    refine th_x (th_x (bl_x (th_n ?_)))
    refine wp_seq ?_
    refine region_seq ?_
    refine sv (v := .bool true) henv rfl (rn_assign henv rfl) ?_
    clear henv a; intro a henv
    refine wpList_nil ?_
    refine th_n ?_
    refine wp_ret ?_
    refine leave henv (res1 Tryd.results47 (RV.tmp henv rfl)) ?_
    exact ⟨by rw [allz_yes hq hlen0], hst.below⟩
end Go.Proofs.YtegglooojlheoaaDoor.W

/- row.Widest, anvilref04.Widest. Printed by pv/gen_row6.py. No condition. -/
namespace Go.Proofs.YtegglooojlheoaaDoor.W
open Go.RowKit Anv Go.Lib
def wid (zs : List Int) : Int := zs.foldl (fun w z => if w < (z.natAbs : Int) then (z.natAbs : Int) else w) 0
theorem wid_step {es : List NE} {j : Nat} {A : Option Addr} {c : Nat} {z : Int} (h : es[j]? = some (A, c, z)) : wid ((es.map zz).take (j + 1)) = if wid ((es.map zz).take j) < (z.natAbs : Int) then (z.natAbs : Int) else wid ((es.map zz).take j) := by
  rw [take_one (x := z) (by rw [List.getElem?_map, h]; rfl)]
  unfold wid
  rw [List.foldl_append]
  rfl
theorem wid_gt {es : List NE} {j : Nat} {A : Option Addr} {c : Nat} {z m : Int} (hm : m = wid ((es.map zz).take j)) (h : es[j]? = some (A, c, z)) (hw : ((z.natAbs : Int) - m).sign > 0) : (z.natAbs : Int) = wid ((es.map zz).take (j + 1)) := by
  have h1 := Int.sign_pos_iff.1 hw
  rw [wid_step h, ← hm, if_pos (by omega)]
theorem wid_le {es : List NE} {j : Nat} {A : Option Addr} {c : Nat} {z m : Int} (hm : m = wid ((es.map zz).take j)) (h : es[j]? = some (A, c, z)) (hw : ¬ ((z.natAbs : Int) - m).sign > 0) : m = wid ((es.map zz).take (j + 1)) := by
  have h1 : ¬ 0 < (z.natAbs : Int) - m := fun h => hw (Int.sign_pos_iff.2 h)
  rw [wid_step h, ← hm, if_neg (by omega)]
set_option maxRecDepth 100000 in
set_option maxHeartbeats 2000000 in
theorem row_widest {A0 : Option Addr} {n0 c0 : Nat} {es0 : List NE} {w0 : World} (h0 : (pfRow fN FN 2 A0 n0 c0 es0).P w0) :
    Calls Tryd.prog 49 #[.slice A0 n0 c0] w0 fun e w' => ∃ v, e = .returned v ∧ ZAt w' v (wid (es0.map zz)) ∧ Below w0.heap.size w0 w' := by
  refine enter Tryd.func49 rfl Tryd.ntmps49 rfl ?_
  intro a henv hst
  have hlen0 := h0.2.1
  have hbig0 := Nat.le_trans h0.1.cap h0.1.big
  unfold maxLen at hbig0
  replace hst := hst.argRow h0
  clear h0
  refine wp_seq ?_
  refine region_seq ?_
  refine seq_step rfl (op_alloc (c := #[.bool (neg 0), .slice none (zl 0) 0]) henv hst rfl zero_anvil_integer_Int zcells ?_)
  clear henv hst a; intro a w2 g1 henv hst
  refine wpList_nil ?_
  refine th_n ?_
  refine wp_seq ?_
  refine region_seq ?_
  refine seq_step rfl (op_alloc (c := #[.bool (neg 0), .slice none (zl 0) 0]) henv hst rfl zero_anvil_integer_Int zcells ?_)
  clear henv hst a; intro a w4 g3 henv hst
  refine wpList_nil ?_
  refine th_n ?_
  refine wp_seq ?_
  refine wp_seq ?_
  refine region_seq ?_
  revert a
  refine mA rfl rfl ?_
  refine sA (v := .int .i64 (n0 : Nat)) rfl (fun _ henv => rn_len henv Tryd.underlying30 rfl) ?_
  refine mA rfl rfl ?_
  intro a henv
  refine wpList_nil ?_
  refine th_n ?_
  refine wp_block ?_
  replace hst := hst.addZ (zin_none _) ⟨nou_bk rfl, nou_bk rfl, trivial⟩
  refine wp_loop_ghost (fun mz a w => ∃ j : Nat, ∃ m : Int, ∃ B : Option Addr, ∃ d : Nat, n0 - j = mz ∧ Env 22 a [(7, .slice A0 n0 c0), (8, .int .i64 (n0 : Nat)), (9, .int .i64 (j : Nat)), (2, .pointer (some ⟨g1, 0, none⟩)), (3, .pointer (some ⟨g3, 0, none⟩))] ∧ St w0 w [bk g3 #[.bool (neg m), .slice B (zl m) d] 36, bk g1 #[.bool (neg 0), .slice none (zl 0) 0] 36] [pfZ B d m, pfRow fN FN 2 A0 n0 c0 es0] ∧ j ≤ n0 ∧ m = wid ((es0.map zz).take j)) _ ⟨0, 0, none, 0, rfl, henv.sub ⟨rfl, rfl, rfl, rfl, rfl, trivial⟩, hst.pick [0, 1] [0, 1] (by decide), (Nat.zero_le _), rfl⟩ ?_
  clear henv hst a
  rintro mz a w5 ⟨j, m, B, d, rfl, henv, hst, hj, hm⟩
  refine wp_seq ?_
  refine region_seq ?_
  refine sv (v := .bool (decide (((j : Nat) : Int) < ((n0 : Nat) : Int)))) henv rfl (rn_bin henv rfl rfl rfl) ?_
  clear henv a; intro a henv
  refine wpList_nil ?_
  refine th_n ?_
  refine wp_seq ?_
  refine if_split henv rfl (fun hc6 => ?_) (fun hc6 => ?_)
  · have hlt : j < n0 := by have := of_decide_eq_true hc6; omega
    obtain ⟨⟨A, c, z⟩, he0⟩ : ∃ e, es0[j]? = some e := ⟨_, List.getElem?_eq_getElem (by omega)⟩
    replace hst := hst.elem (k := 1) rfl he0
    replace hst : St w0 _ [bk g3 #[.bool (neg m), .slice B (zl m) d] 36, bk g1 #[.bool (neg 0), .slice none (zl 0) 0] 36] [pfZ A c z, pfZ B d m, pfRow fN FN 2 A0 n0 c0 es0] := hst
    refine wp_skip ?_
    refine th_n ?_
    refine wp_seq ?_
    refine wp_block ?_
    refine wp_seq ?_
    refine region_seq ?_
    revert a
    refine sA (v := .pointer (some ⟨ab A0, ao A0 + j * 2, none⟩)) rfl (fun _ henv => rn_idxR (i := j) henv Tryd.underlying30 (ty_anvil_integer_Int.size) rfl rfl (by omega) rfl (show (pfRow fN FN 2 A0 n0 c0 es0).P _ from (hst.pat (k := 2) rfl)).1) ?_
    refine sA (v := .agg #[.bool (neg z), .slice A (zl z) c]) rfl (fun _ henv => rn_loadE (i := j) (e := (A, c, z)) henv ty_anvil_integer_Int rfl rfl fN_len (show (pfRow fN FN 2 A0 n0 c0 es0).P _ from (hst.pat (k := 2) rfl)).1 (by omega) he0 rfl) ?_
    intro a henv
    refine seq_step rfl (op_alloc (c := #[.bool (neg 0), .slice none (zl 0) 0]) henv hst rfl zero_anvil_integer_Int zcells ?_)
    clear henv hst a; intro a w8 g7 henv hst
    refine seq_step rfl (op_store (k := 0) (c' := #[.bool (neg z), .slice A (zl z) c]) henv hst (ty_anvil_integer_Int.size) rfl rfl rfl rfl (by simp) rfl rfl ?_)
    clear henv hst a; intro a w9 henv hst
    refine wpList_nil ?_
    refine th_n ?_
    refine wp_seq ?_
    refine region_seq ?_
    refine sv (v := .agg #[.bool (neg z), .slice A (zl z) c]) henv rfl (rn_load0 henv ty_anvil_integer_Int rfl (hst.oat (k := 0) rfl) rfl) ?_
    clear henv a; intro a henv
    refine seq_step rfl (op_call henv rfl Tryd.call86 rfl (abs_z (z := z) (show ZIn _ A c z from hst.pat (k := 0) rfl)) ?_)
    rintro e w13 ⟨_, rfl, ⟨A10, c11, rfl, hz12⟩, hb⟩
    refine ⟨_, rfl, ?_⟩
    clear henv a; intro a henv
    replace hst := (hst.call hb).addZ hz12 ⟨nou_bk rfl, nou_bk rfl, nou_bk rfl, trivial⟩
    clear hz12
    clear hb
    refine seq_step rfl (op_alloc (c := #[.bool (neg 0), .slice none (zl 0) 0]) henv hst rfl zero_anvil_integer_Int zcells ?_)
    clear henv hst a; intro a w15 g14 henv hst
    refine seq_step rfl (op_store (k := 0) (c' := #[.bool (neg (z.natAbs : Int)), .slice A10 (zl (z.natAbs : Int)) c11]) henv hst (ty_anvil_integer_Int.size) rfl rfl rfl rfl (by simp) rfl rfl ?_)
    clear henv hst a; intro a w16 henv hst
    refine wpList_nil ?_
    refine th_n ?_
    refine wp_seq ?_
    refine region_seq ?_
    revert a
    refine sA (v := .agg #[.bool (neg (z.natAbs : Int)), .slice A10 (zl (z.natAbs : Int)) c11]) rfl (fun _ henv => rn_load0 henv ty_anvil_integer_Int rfl (hst.oat (k := 0) rfl) rfl) ?_
    refine sA (v := .agg #[.bool (neg m), .slice B (zl m) d]) rfl (fun _ henv => rn_load0 henv ty_anvil_integer_Int rfl (hst.oat (k := 2) rfl) rfl) ?_
    intro a henv
    refine seq_step rfl (op_call henv rfl Tryd.call42 rfl (cmp_z (x := (z.natAbs : Int)) (y := m) (show ZIn _ A10 c11 (z.natAbs : Int) from hst.pat (k := 0) rfl) (show ZIn _ B d m from hst.pat (k := 2) rfl)) ?_)
    rintro e w17 ⟨rfl, hb⟩
    refine ⟨_, rfl, ?_⟩
    clear henv a; intro a henv
    replace hst := hst.call hb
    clear hb
    refine sv (v := .bool (decide (((z.natAbs : Int) - m).sign > (0 : Int)))) henv rfl (rn_bin henv rfl rfl rfl) ?_
    clear henv a; intro a henv
    refine wpList_nil ?_
    refine th_n ?_
    refine if_split henv rfl (fun hc18 => ?_) (fun hc18 => ?_)
    · have hw := of_decide_eq_true hc18
      refine region_seq ?_
      refine sv (v := .agg #[.bool (neg (z.natAbs : Int)), .slice A10 (zl (z.natAbs : Int)) c11]) henv rfl (rn_load0 henv ty_anvil_integer_Int rfl (hst.oat (k := 0) rfl) rfl) ?_
      clear henv a; intro a henv
      refine seq_step rfl (op_store (k := 2) (c' := #[.bool (neg (z.natAbs : Int)), .slice A10 (zl (z.natAbs : Int)) c11]) henv hst (ty_anvil_integer_Int.size) rfl rfl rfl rfl (by simp) rfl rfl ?_)
      clear henv hst a; intro a w19 henv hst
      refine wpList_nil ?_
      refine bl_n (th_n ?_)
      refine region_seq ?_
      revert a
      refine sA (v := .int .i64 (j + 1 : Nat)) rfl (fun _ henv => rn_add henv rfl rfl (by rw [IntWalk.i64_in _ (by omega)]; omega)) ?_
      refine mA rfl rfl ?_
      intro a henv
      refine wpList_nil ?_
      exact th_n ⟨_, (by omega), ⟨j + 1, (z.natAbs : Int), A10, c11, rfl, henv.sub ⟨rfl, rfl, rfl, rfl, rfl, trivial⟩, hst.pick [2, 3] [0, 3] (by decide), (by omega), (wid_gt hm he0 hw)⟩⟩
    · have hw := of_decide_eq_false hc18
      refine wp_skip ?_
      refine bl_n (th_n ?_)
      refine region_seq ?_
      revert a
      refine sA (v := .int .i64 (j + 1 : Nat)) rfl (fun _ henv => rn_add henv rfl rfl (by rw [IntWalk.i64_in _ (by omega)]; omega)) ?_
      refine mA rfl rfl ?_
      intro a henv
      refine wpList_nil ?_
      exact th_n ⟨_, (by omega), ⟨j + 1, m, B, d, rfl, henv.sub ⟨rfl, rfl, rfl, rfl, rfl, trivial⟩, hst.pick [2, 3] [2, 3] (by decide), (by omega), (wid_le hm he0 hw)⟩⟩
  · obtain rfl : j = n0 := by have := of_decide_eq_false hc6; omega
    refine wp_exit ?_
    refine th_x (th_x (bl_x (th_n ?_)))
    refine wp_seq ?_
    refine region_seq ?_
    refine sv (v := .agg #[.bool (neg m), .slice B (zl m) d]) henv rfl (rn_load0 henv ty_anvil_integer_Int rfl (hst.oat (k := 0) rfl) rfl) ?_
    clear henv a; intro a henv
    refine seq_step rfl (op_store (k := 1) (c' := #[.bool (neg m), .slice B (zl m) d]) henv hst (ty_anvil_integer_Int.size) rfl rfl rfl rfl (by simp) rfl rfl ?_)
    clear henv hst a; intro a w20 henv hst
    refine wpList_nil ?_
    refine th_n ?_
    refine wp_ret ?_
    refine leave henv (res1 Tryd.results49 (RV.cell henv ty_anvil_integer_Int rfl (hst.oat (k := 1) rfl) rfl)) ?_
    have hfin : m = wid (es0.map zz) := by rw [hm, List.take_of_length_le (by rw [List.length_map]; omega)]
    exact ⟨_, rfl, (by rw [← hfin]; exact ⟨_, _, rfl, hst.pat (k := 0) rfl⟩), hst.below⟩
set_option maxRecDepth 100000 in
set_option maxHeartbeats 2000000 in
theorem ref_widest {A0 : Option Addr} {n0 c0 : Nat} {es0 : List NE} {w0 : World} (h0 : (pfRow fM FM 2 A0 n0 c0 es0).P w0) :
    Calls Tryd.prog 50 #[.slice A0 n0 c0] w0 fun e w' => ∃ v, e = .returned v ∧ RAt w' v (wid (es0.map zz)) ∧ Below w0.heap.size w0 w' := by
  refine enter Tryd.func50 rfl Tryd.ntmps50 rfl ?_
  intro a henv hst
  have hlen0 := h0.2.1
  have hbig0 := Nat.le_trans h0.1.cap h0.1.big
  unfold maxLen at hbig0
  replace hst := hst.argRow h0
  clear h0
  refine wp_seq ?_
  refine region_seq ?_
  refine seq_step rfl (op_alloc (c := #[.bool (neg 0), .slice none (dl 0) 0]) henv hst rfl zero_anvil_anvilref02_Int rcells ?_)
  clear henv hst a; intro a w2 g1 henv hst
  refine wpList_nil ?_
  refine th_n ?_
  refine wp_seq ?_
  refine region_seq ?_
  refine sv (v := .agg #[.bool (neg 0), .slice none (dl 0) 0]) henv rfl (rn_zref) ?_
  clear henv a; intro a henv
  refine seq_step rfl (op_alloc (c := #[.bool (neg 0), .slice none (dl 0) 0]) henv hst rfl zero_anvil_anvilref02_Int rcells ?_)
  clear henv hst a; intro a w4 g3 henv hst
  refine seq_step rfl (op_store (k := 0) (c' := #[.bool (neg 0), .slice none (dl 0) 0]) henv hst (ty_anvil_anvilref02_Int.size) rfl rfl rfl rfl (by simp) rfl rfl ?_)
  clear henv hst a; intro a w5 henv hst
  refine wpList_nil ?_
  refine th_n ?_
  refine wp_seq ?_
  refine wp_seq ?_
  refine region_seq ?_
  refine sv (v := .int .i64 0) henv rfl (rn_assign henv rfl) ?_
  clear henv a; intro a henv
  refine wpList_nil ?_
  refine th_n ?_
  refine wp_block ?_
  replace hst := hst.addR (rin_none _) ⟨nou_bk rfl, nou_bk rfl, trivial⟩
  refine wp_loop_ghost (fun mz a w => ∃ j : Nat, ∃ m : Int, ∃ B : Option Addr, ∃ d : Nat, n0 - j = mz ∧ Env 26 a [(0, .slice A0 n0 c0), (4, .int .i64 (j : Nat)), (2, .pointer (some ⟨g1, 0, none⟩)), (3, .pointer (some ⟨g3, 0, none⟩))] ∧ St w0 w [bk g3 #[.bool (neg m), .slice B (dl m) d] 39, bk g1 #[.bool (neg 0), .slice none (dl 0) 0] 39] [pfR B d m, pfRow fM FM 2 A0 n0 c0 es0] ∧ j ≤ n0 ∧ m = wid ((es0.map zz).take j)) _ ⟨0, 0, none, 0, rfl, henv.sub ⟨rfl, rfl, rfl, rfl, trivial⟩, hst.pick [0, 1] [0, 1] (by decide), (Nat.zero_le _), rfl⟩ ?_
  clear henv hst a
  rintro mz a w6 ⟨j, m, B, d, rfl, henv, hst, hj, hm⟩
  refine wp_seq ?_
  refine wp_seq ?_
  refine region_seq ?_
  revert a
  refine mA rfl rfl ?_
  refine mA rfl rfl ?_
  refine sA (v := .int .i64 (n0 : Nat)) rfl (fun _ henv => rn_len henv Tryd.underlying32 rfl) ?_
  refine sA (v := .bool (decide (((j : Nat) : Int) < ((n0 : Nat) : Int)))) rfl (fun _ henv => rn_bin henv rfl rfl rfl) ?_
  intro a henv
  refine wpList_nil ?_
  refine th_n ?_
  refine if_split henv rfl (fun hc7 => ?_) (fun hc7 => ?_)
  · have hlt : j < n0 := by have := of_decide_eq_true hc7; omega
    obtain ⟨⟨A, c, z⟩, he0⟩ : ∃ e, es0[j]? = some e := ⟨_, List.getElem?_eq_getElem (by omega)⟩
    replace hst := hst.elem (k := 1) rfl he0
    replace hst : St w0 _ [bk g3 #[.bool (neg m), .slice B (dl m) d] 39, bk g1 #[.bool (neg 0), .slice none (dl 0) 0] 39] [pfR A c z, pfR B d m, pfRow fM FM 2 A0 n0 c0 es0] := hst
    refine wp_skip ?_
    refine th_n ?_
    refine wp_seq ?_
    refine wp_block ?_
    refine wp_seq ?_
    refine region_any (n := 8) (Sk [bk g3 #[.bool (neg m), .slice B (dl m) d] 39, bk g1 #[.bool (neg 0), .slice none (dl 0) 0] 39] [pfR A c z, pfR B d m, pfRow fM FM 2 A0 n0 c0 es0] [] []) mixed rfl henv hst ?_
    clear henv hst; intro w8 henv hst
    refine tM (i := 0) [2, 3, 4, 6, 7] rfl (by kernel_rfl) (fun _ _ _ h => h) henv rfl rfl ?_
    clear henv a; intro a henv
    refine tM (i := 1) [2, 3, 4, 6, 7] rfl (by kernel_rfl) (fun _ _ _ h => h) henv rfl rfl ?_
    clear henv a; intro a henv
    refine sAny_take (i := 2) [3, 4, 6, 7] (fun w' => (pfRow fM FM 2 A0 n0 c0 es0).P w') (v := .pointer (some ⟨ab A0, ao A0 + j * 2, none⟩)) rfl (by kernel_rfl) (fun _ _ _ h => h) (fun _ _ _ hS => hS.1.pat (k := 2) rfl) henv rfl (hst.pat (k := 2) rfl) (fun w' hg => rn_idxR (i := j) henv Tryd.underlying32 (ty_anvil_anvilref02_Int.size) rfl rfl (by omega) rfl (show (pfRow fM FM 2 A0 n0 c0 es0).P _ from hg).1) ?_
    clear henv a; intro a henv
    refine sAny_take (i := 3) [4, 6, 7] (fun w' => (pfRow fM FM 2 A0 n0 c0 es0).P w') (v := .agg #[.bool (neg z), .slice A (dl z) c]) rfl (by kernel_rfl) (fun _ _ _ h => h) (fun _ _ _ hS => hS.1.pat (k := 2) rfl) henv rfl (hst.pat (k := 2) rfl) (fun w' hg => rn_loadE (i := j) (e := (A, c, z)) henv ty_anvil_anvilref02_Int rfl rfl fM_len (show (pfRow fM FM 2 A0 n0 c0 es0).P _ from hg).1 (by omega) he0 rfl) ?_
    clear henv a; intro a henv
    refine tL (i := 5) 0 0 [6, 7] rfl (by kernel_rfl) (fun _ _ _ h => h) henv rfl ty_anvil_anvilref02_Int rfl hst rfl rfl rfl ?_
    clear henv a; intro a henv
    refine sAny_one (i := 4) (by kernel_rfl) rfl rfl (op_call henv rfl Tryd.call110 rfl (abs_r (z := z) (show RIn _ A c z from hst.pat (k := 0) rfl)) ?_)
    rintro e w12 ⟨_, rfl, ⟨A9, c10, rfl, hz11⟩, hb⟩
    refine ⟨_, rfl, ?_⟩
    clear henv a; intro a henv
    replace hst := (hst.call hb).addR hz11 ⟨nou_bk rfl, nou_bk rfl, trivial⟩
    clear hz11
    clear hb
    refine ⟨.inr ⟨hst.kn.pick [0, 1] [1, 2, 3], .inr (hst.kn.pick [] [])⟩, ?_⟩
    refine sAny_one (i := 6) (by kernel_rfl) rfl rfl (op_call henv rfl Tryd.call109 rfl (cmp_r (x := (z.natAbs : Int)) (y := m) (show RIn _ A9 c10 (z.natAbs : Int) from hst.pat (k := 0) rfl) (show RIn _ B d m from hst.pat (k := 2) rfl)) ?_)
    rintro e w13 ⟨rfl, hb⟩
    refine ⟨_, rfl, ?_⟩
    clear henv a; intro a henv
    replace hst := hst.call hb
    clear hb
    refine ⟨.inr ⟨hst.kn.pick [0, 1] [1, 2, 3], .inr (hst.kn.pick [] [])⟩, ?_⟩
    refine tA (i := 7) [] (v := .bool (decide (((z.natAbs : Int) - m).sign > (0 : Int)))) rfl (by kernel_rfl) (fun _ _ _ h => h) henv rfl (fun _ => rn_bin henv rfl rfl rfl) ?_
    clear henv a; intro a henv
    refine sAny_done (by kernel_rfl) ?_ _
    refine th_n ?_
    refine if_split henv rfl (fun hc14 => ?_) (fun hc14 => ?_)
    · have hw := of_decide_eq_true hc14
      refine region_seq ?_
      revert a
      refine mA rfl rfl ?_
      refine mA rfl rfl ?_
      refine sA (v := .pointer (some ⟨ab A0, ao A0 + j * 2, none⟩)) rfl (fun _ henv => rn_idxR (i := j) henv Tryd.underlying32 (ty_anvil_anvilref02_Int.size) rfl rfl (by omega) rfl (show (pfRow fM FM 2 A0 n0 c0 es0).P _ from (hst.pat (k := 3) rfl)).1) ?_
      refine sA (v := .agg #[.bool (neg z), .slice A (dl z) c]) rfl (fun _ henv => rn_loadE (i := j) (e := (A, c, z)) henv ty_anvil_anvilref02_Int rfl rfl fM_len (show (pfRow fM FM 2 A0 n0 c0 es0).P _ from (hst.pat (k := 3) rfl)).1 (by omega) he0 rfl) ?_
      intro a henv
      refine seq_step rfl (op_call henv rfl Tryd.call110 rfl (abs_r (z := z) (show RIn _ A c z from hst.pat (k := 1) rfl)) ?_)
      rintro e w18 ⟨_, rfl, ⟨A15, c16, rfl, hz17⟩, hb⟩
      refine ⟨_, rfl, ?_⟩
      clear henv a; intro a henv
      replace hst := (hst.call hb).addR hz17 ⟨nou_bk rfl, nou_bk rfl, trivial⟩
      clear hz17
      clear hb
      refine seq_step rfl (op_store (k := 0) (c' := #[.bool (neg (z.natAbs : Int)), .slice A15 (dl (z.natAbs : Int)) c16]) henv hst (ty_anvil_anvilref02_Int.size) rfl rfl rfl rfl (by simp) rfl rfl ?_)
      clear henv hst a; intro a w19 henv hst
      refine wpList_nil ?_
      refine bl_n (th_n ?_)
      refine region_seq ?_
      revert a
      refine mA rfl rfl ?_
      refine sA (v := .int .i64 (j + 1 : Nat)) rfl (fun _ henv => rn_add henv rfl rfl (by rw [IntWalk.i64_in _ (by omega)]; omega)) ?_
      refine aA rfl rfl ?_
      intro a henv
      refine wpList_nil ?_
      exact th_n ⟨_, (by omega), ⟨j + 1, (z.natAbs : Int), A15, c16, rfl, henv.sub ⟨rfl, rfl, rfl, rfl, trivial⟩, hst.pick [0, 1] [0, 4] (by decide), (by omega), (wid_gt hm he0 hw)⟩⟩
    · have hw := of_decide_eq_false hc14
      refine wp_skip ?_
      refine bl_n (th_n ?_)
      refine region_seq ?_
      revert a
      refine mA rfl rfl ?_
      refine sA (v := .int .i64 (j + 1 : Nat)) rfl (fun _ henv => rn_add henv rfl rfl (by rw [IntWalk.i64_in _ (by omega)]; omega)) ?_
      refine aA rfl rfl ?_
      intro a henv
      refine wpList_nil ?_
      exact th_n ⟨_, (by omega), ⟨j + 1, m, B, d, rfl, henv.sub ⟨rfl, rfl, rfl, rfl, trivial⟩, hst.pick [0, 1] [2, 3] (by decide), (by omega), (wid_le hm he0 hw)⟩⟩
  · obtain rfl : j = n0 := by have := of_decide_eq_false hc7; omega
    refine wp_exit ?_
    refine th_x (th_x (bl_x (th_n ?_)))
    refine wp_seq ?_
    refine region_seq ?_
    refine sv (v := .agg #[.bool (neg m), .slice B (dl m) d]) henv rfl (rn_load0 henv ty_anvil_anvilref02_Int rfl (hst.oat (k := 0) rfl) rfl) ?_
    clear henv a; intro a henv
    refine seq_step rfl (op_store (k := 1) (c' := #[.bool (neg m), .slice B (dl m) d]) henv hst (ty_anvil_anvilref02_Int.size) rfl rfl rfl rfl (by simp) rfl rfl ?_)
    clear henv hst a; intro a w20 henv hst
    refine wpList_nil ?_
    refine th_n ?_
    refine wp_ret ?_
    refine leave henv (res1 Tryd.results50 (RV.cell henv ty_anvil_anvilref02_Int rfl (hst.oat (k := 1) rfl) rfl)) ?_
    have hfin : m = wid (es0.map zz) := by rw [hm, List.take_of_length_le (by rw [List.length_map]; omega)]
    exact ⟨_, rfl, (by rw [← hfin]; exact ⟨_, _, rfl, hst.pat (k := 0) rfl⟩), hst.below⟩
end Go.Proofs.YtegglooojlheoaaDoor.W

/- What the law RowHolds needs, with no program in sight but the shape of the memory. No condition. -/
namespace Go.Proofs.YtegglooojlheoaaDoor.W
open Go.RowKit Anv Go.Lib
theorem pv2 {w : World} {g : Nat} {v0 v1 : VE} {t : TypeId} (h : w.heap[g]? = some (.cells #[.slice v0.1 v0.2.1 v0.2.2.1, .slice v1.1 v1.2.1 v1.2.2.1] t (0, 0))) (h0 : (FV v0).P w) (h1 : (FV v1).P w) : (pfRow fV FV 1 (some ⟨g, 0, none⟩) 2 2 [v0, v1]).P w := by
  refine ⟨⟨rfl, Nat.le_refl _, by decide, fun _ => ⟨g, 0, rfl, lt_of_block h, fun i _ => by rw [Nat.zero_add, cell_of_row w g i _ t (0, 0) h, ← Array.getElem?_toList]; rfl⟩⟩, rfl, fun e he => ?_⟩
  rcases List.mem_cons.1 he with rfl | he
  · exact h0
  · rw [List.mem_singleton.1 he]; exact h1
theorem St.fresh2 {α β : Type} {f : α → List Value} {F : α → PF} {f' : β → List Value} {F' : β → PF} {es : List α} {es' : List β} {q q' : Value → Bool} {E E' z z' n n' c c' : Nat} {A A' : Option Addr} {w0 w w' : World} {own ps : List PF} (h : St w0 w own ps) (hb : Below w.heap.size w w')
    (hr : NewRow q E z f F w.heap.size w' A n c es) (hl : es.length = n) (hE : ∀ o ∈ own, ∀ b, o.foot b → o.P w' → ¬ (pfEs F es).foot b)
    (hr' : NewRow q' E' z' f' F' w.heap.size w' A' n' c' es') (hl' : es'.length = n') (hE' : ∀ o ∈ own, ∀ b, o.foot b → o.P w' → ¬ (pfEs F' es').foot b) :
    St w0 w' own (pfRow f' F' z' A' n' c' es' :: pfRow f F z A n c es :: ps) :=
  (h.freshRd hb hr hl hE).addP _ ((h.freshRd hb hr' hl' hE').pat (k := 0) rfl) fun o ho b h1 h2 => (h.freshRd hb hr' hl' hE').apart _ (List.mem_cons_self ..) o ho b h1 h2
theorem tl_mem {us : List UE} {e : UE} (h : e ∈ us) : e.2.2.1 ≤ tl us := by
  induction us with
  | nil => cases h
  | cons x us ih =>
    unfold tl at *
    rw [List.map_cons, List.sum_cons]
    rcases List.mem_cons.1 h with rfl | h
    · omega
    · have := ih h; omega
theorem tv_two {A B : Option Addr} {n m c d : Nat} {us ws : List UE} (h : tv [(A, n, c, us), (B, m, d, ws)] ≤ 300) : n ≤ 300 ∧ m ≤ 300 ∧ tl us ≤ 300 ∧ tl ws ≤ 300 := by
  simp [tv] at h
  omega
theorem sg_sign_swap (x y : Int) : (y - x).sign = -(x - y).sign := by
  rw [← Int.sign_neg, Int.neg_sub]
theorem lexc_swap : ∀ (xs ys : List Int), lexc ys xs = -lexc xs ys
  | [], [] => rfl
  | [], _ :: _ => rfl
  | _ :: _, [] => rfl
  | x :: xs, y :: ys => by
    rw [lexc, lexc, sg_sign_swap x y]
    by_cases h : (x - y).sign = 0
    · rw [if_pos h, if_pos (by omega)]; exact lexc_swap xs ys
    · rw [if_neg h, if_neg (by omega)]
theorem cmpR_swap (xs ys : List Int) : cmpR ys xs = -cmpR xs ys := by
  unfold cmpR
  rcases Nat.lt_trichotomy xs.length ys.length with h | h | h
  · rw [if_neg (by omega), if_pos h, if_pos h]; rfl
  · rw [if_neg (by omega), if_neg (by omega), if_neg (by omega), if_neg (by omega)]; exact lexc_swap xs ys
  · rw [if_pos h, if_neg (by omega), if_pos h]
theorem lexc_bd : ∀ (xs ys : List Int), -1 ≤ lexc xs ys ∧ lexc xs ys ≤ 1
  | [], _ => by unfold lexc; decide
  | _ :: _, [] => by unfold lexc; decide
  | x :: xs, y :: ys => by
    rw [lexc]
    split
    · exact lexc_bd xs ys
    · have := sign_bd (x - y); omega
theorem cmpR_bd (xs ys : List Int) : -1 ≤ cmpR xs ys ∧ cmpR xs ys ≤ 1 := by
  unfold cmpR
  split
  · omega
  · split
    · omega
    · exact lexc_bd xs ys
theorem nl_wid (zs : List Int) (k : Nat) (h : ∀ z ∈ zs, zl z ≤ k) : zl (wid zs) ≤ k := by
  have main : ∀ (l : List Int) (m : Int), zl m ≤ k → (∀ z ∈ l, zl z ≤ k) → zl (l.foldl (fun w z => if w < (z.natAbs : Int) then (z.natAbs : Int) else w) m) ≤ k := by
    intro l
    induction l with
    | nil => intro m hm _; exact hm
    | cons z l ih =>
      intro m hm hl
      rw [List.foldl_cons]
      refine ih _ ?_ fun y hy => hl y (List.mem_cons_of_mem _ hy)
      split
      · rw [zl_abs]; exact hl z (List.mem_cons_self ..)
      · exact hm
  exact main zs 0 (by rw [zl_zero]; omega) h
end Go.Proofs.YtegglooojlheoaaDoor.W

/- RowHolds: the law's walk. Printed by pv/gen_row7.py. No condition. -/
namespace Go.Proofs.YtegglooojlheoaaDoor.W
open Go.RowKit Anv Go.Lib
theorem long_ok {A B : Option Addr} {n m c d : Nat} {us ws : List UE} (h1 : n ≤ 35184372088832) (h2 : Sz us) (h3 : m ≤ 35184372088832) (h4 : Sz ws) : ∀ v ∈ [((A, n, c, us) : VE), (B, m, d, ws)], v.2.1 ≤ 35184372088832 ∧ Sz v.2.2.2 := by
  intro v hv
  rcases List.mem_cons.1 hv with rfl | hv
  · exact ⟨h1, h2⟩
  · rw [List.mem_singleton.1 hv]; exact ⟨h3, h4⟩
theorem neg_c {P : Program} {w : World} {x : Int} (h : -1 ≤ x ∧ x ≤ 1) : (Op.unary .neg (.int .i64 x)).run P w = .ok (.int .i64 (-x)) w := by
  have e : IntKind.i64.wrap (-x) = -x := by rw [IntKind.wrap_i64]; omega
  simp only [Op.unary, Op.intArith, Int.zero_sub, e]
  rfl
theorem zl_vz {e : UE} : zl (vz e) = nl (val 4294967296 e.2.2.2.2) := by
  unfold vz sg zl
  split
  · rw [Int.natAbs_neg, Int.natAbs_natCast]
  · rw [Int.natAbs_natCast]
theorem zb_vz {es : List UE} {k : Nat} {w : World} (h : (pfEs FU es).P w) (ht : tl es ≤ k) : ∀ z ∈ es.map vz, zl z ≤ k := by
  intro z hz
  obtain ⟨e, he, rfl⟩ := List.mem_map.1 hz
  have h1 : U32 w e.2.1 e.2.2.1 e.2.2.2.1 e.2.2.2.2 := h e he
  have h2 := nl_val h1
  have h3 := tl_mem he
  rw [zl_vz]
  omega
theorem row_cmp' {A0 : Option Addr} {n0 c0 : Nat} {es0 : List NE} {A1 : Option Addr} {n1 c1 : Nat} {es1 : List NE} {xs ys : List Int} {w0 : World} (h0 : (pfRow fN FN 2 A0 n0 c0 es0).P w0) (h1 : (pfRow fN FN 2 A1 n1 c1 es1).P w0) (ha : es0.map zz = xs) (hb : es1.map zz = ys) :
    Calls Tryd.prog 48 #[.slice A0 n0 c0, .slice A1 n1 c1] w0 fun e w' => e = .returned (.int .i64 (cmpR xs ys)) ∧ Below w0.heap.size w0 w' := by
  subst ha hb; exact row_cmp h0 h1
theorem ref_cmp' {A0 : Option Addr} {n0 c0 : Nat} {es0 : List NE} {A1 : Option Addr} {n1 c1 : Nat} {es1 : List NE} {xs ys : List Int} {w0 : World} (h0 : (pfRow fM FM 2 A0 n0 c0 es0).P w0) (h1 : (pfRow fM FM 2 A1 n1 c1 es1).P w0) (ha : es0.map zz = xs) (hb : es1.map zz = ys) :
    Calls Tryd.prog 44 #[.slice A0 n0 c0, .slice A1 n1 c1] w0 fun e w' => e = .returned (.int .i64 (cmpR xs ys)) ∧ Below w0.heap.size w0 w' := by
  subst ha hb; exact ref_cmp h0 h1
theorem row_same' {A0 : Option Addr} {n0 c0 : Nat} {es0 : List NE} {A1 : Option Addr} {n1 c1 : Nat} {es1 : List NE} {xs ys : List Int} {w0 : World} (h0 : (pfRow fN FN 2 A0 n0 c0 es0).P w0) (h1 : (pfRow fN FN 2 A1 n1 c1 es1).P w0) (ha : es0.map zz = xs) (hb : es1.map zz = ys) :
    Calls Tryd.prog 45 #[.slice A0 n0 c0, .slice A1 n1 c1] w0 fun e w' => e = .returned (.bool (cmpR xs ys == 0)) ∧ Below w0.heap.size w0 w' := by
  subst ha hb; exact row_same h0 h1
theorem ref_same' {A0 : Option Addr} {n0 c0 : Nat} {es0 : List NE} {A1 : Option Addr} {n1 c1 : Nat} {es1 : List NE} {xs ys : List Int} {w0 : World} (h0 : (pfRow fM FM 2 A0 n0 c0 es0).P w0) (h1 : (pfRow fM FM 2 A1 n1 c1 es1).P w0) (ha : es0.map zz = xs) (hb : es1.map zz = ys) :
    Calls Tryd.prog 46 #[.slice A0 n0 c0, .slice A1 n1 c1] w0 fun e w' => e = .returned (.bool (cmpR xs ys == 0)) ∧ Below w0.heap.size w0 w' := by
  subst ha hb; exact ref_same h0 h1
theorem row_iszero' {A0 : Option Addr} {n0 c0 : Nat} {es0 : List NE} {xs : List Int} {w0 : World} (h0 : (pfRow fN FN 2 A0 n0 c0 es0).P w0) (ha : es0.map zz = xs) :
    Calls Tryd.prog 41 #[.slice A0 n0 c0] w0 fun e w' => e = .returned (.bool (xs.all fun z => decide (z = 0))) ∧ Below w0.heap.size w0 w' := by
  subst ha; rw [← allz_map]; exact row_iszero h0
theorem ref_iszero' {A0 : Option Addr} {n0 c0 : Nat} {es0 : List NE} {xs : List Int} {w0 : World} (h0 : (pfRow fM FM 2 A0 n0 c0 es0).P w0) (ha : es0.map zz = xs) :
    Calls Tryd.prog 47 #[.slice A0 n0 c0] w0 fun e w' => e = .returned (.bool (xs.all fun z => decide (z = 0))) ∧ Below w0.heap.size w0 w' := by
  subst ha; rw [← allz_map]; exact ref_iszero h0
theorem row_widest' {A0 : Option Addr} {n0 c0 : Nat} {es0 : List NE} {xs : List Int} {w0 : World} (h0 : (pfRow fN FN 2 A0 n0 c0 es0).P w0) (ha : es0.map zz = xs) :
    Calls Tryd.prog 49 #[.slice A0 n0 c0] w0 fun e w' => ∃ v, e = .returned v ∧ ZAt w' v (wid xs) ∧ Below w0.heap.size w0 w' := by
  subst ha; exact row_widest h0
theorem ref_widest' {A0 : Option Addr} {n0 c0 : Nat} {es0 : List NE} {xs : List Int} {w0 : World} (h0 : (pfRow fM FM 2 A0 n0 c0 es0).P w0) (ha : es0.map zz = xs) :
    Calls Tryd.prog 50 #[.slice A0 n0 c0] w0 fun e w' => ∃ v, e = .returned v ∧ RAt w' v (wid xs) ∧ Below w0.heap.size w0 w' := by
  subst ha; exact ref_widest h0
set_option maxRecDepth 100000 in
set_option maxHeartbeats 8000000 in
theorem rholds_law {A0 : Option Addr} {n0 c0 : Nat} {es0 : List UE} {A1 : Option Addr} {n1 c1 : Nat} {es1 : List UE} {w0 : World} (h0 : (pfRow fU FU 2 A0 n0 c0 es0).P w0) (hn0 : n0 ≤ 35184372088832) (hs0 : Sz es0) (h1 : (pfRow fU FU 2 A1 n1 c1 es1).P w0) (hn1 : n1 ≤ 35184372088832) (hs1 : Sz es1) :
    Calls Tryd.prog 5 #[.slice A0 n0 c0, .slice A1 n1 c1] w0 fun e w' => e = .returned (.bool true) ∧ Below w0.heap.size w0 w' := by
  refine enter Tryd.func5 rfl Tryd.ntmps5 rfl ?_
  intro a henv hst
  have hlen0 := h0.2.1
  have hbig0 := Nat.le_trans h0.1.cap h0.1.big
  unfold maxLen at hbig0
  replace hst := hst.argRow h0
  clear h0
  have hlen1 := h1.2.1
  have hbig1 := Nat.le_trans h1.1.cap h1.1.big
  unfold maxLen at hbig1
  replace hst := hst.argRow h1
  clear h1
  refine wp_seq ?_
  refine region_seq ?_
  refine sv (v := .bool false) henv rfl (rn_assign henv rfl) ?_
  clear henv a; intro a henv
  refine wpList_nil ?_
  refine th_n ?_
  refine wp_seq ?_
  refine wp_seq ?_
  refine region_seq ?_
  refine seq_step rfl (op_call henv rfl Tryd.call16 rfl (row_live) ?_)
  rintro e w1 ⟨rfl, hb⟩
  refine ⟨_, rfl, ?_⟩
  clear henv a; intro a henv
  replace hst := hst.call hb
  clear hb
  refine sv (v := .bool false) henv rfl (rn_un henv rfl rfl) ?_
  clear henv a; intro a henv
  refine wpList_nil ?_
  refine th_n ?_
  refine if_f henv rfl (rfl) ?_
  refine wp_skip ?_
  refine th_n ?_
  refine wp_seq ?_
  refine wp_seq ?_
  refine region_seq ?_
  revert a
  refine mA rfl rfl ?_
  refine mA rfl rfl ?_
  intro a henv
  refine seq_step rfl (op_buildSlice (z := 1) (pv := #[(0, .slice A0 n0 c0), (1, .slice A1 n1 c1)]) (c := #[.slice A0 n0 c0, .slice A1 n1 c1]) henv hst rfl Tryd.underlying139 (ty__anvillaw04_Num.size) zero__anvillaw04_Num (by decide) (by decide) rfl (by kernel_rfl) ?_)
  clear henv hst a; intro a w3 g2 henv hst
  refine seq_step rfl (op_call henv rfl Tryd.call17 rfl (row_long (pv2 (v0 := (A0, n0, c0, es0)) (v1 := (A1, n1, c1, es1)) (hst.oat (k := 0) rfl) (hst.pat (k := 1) rfl) (hst.pat (k := 0) rfl)) (long_ok hn0 hs0 hn1 hs1)) ?_)
  rintro e w4 ⟨bl, rfl, hbl, hb⟩
  refine ⟨_, rfl, ?_⟩
  clear henv a; intro a henv
  replace hst := hst.call hb
  clear hb
  refine wpList_nil ?_
  refine th_n ?_
  refine if_split henv rfl (fun hc5 => ?_) (fun hc5 => ?_)
  · refine wp_seq ?_
    refine region_seq ?_
    refine sv (v := .bool true) henv rfl (rn_assign henv rfl) ?_
    clear henv a; intro a henv
    refine wpList_nil ?_
    refine th_n ?_
    refine wp_ret ?_
    refine th_r ?_
    refine leave henv (res1 Tryd.results5 (RV.tmp henv rfl)) ?_
    exact ⟨rfl, hst.below⟩
  · obtain ⟨hx0, hx1, hx2, hx3⟩ := tv_two (hbl hc5)
    have hwb : zl (wid (es0.map vz)) ≤ 100000 := nl_wid _ _ (zb_vz (hst.pat (k := 1) rfl).2.2 (by omega))
    have hcb := cmpR_bd (es0.map vz) (es1.map vz)
    refine wp_skip ?_
    refine th_n ?_
    refine wp_seq ?_
    refine region_seq ?_
    refine sv (v := .slice A0 n0 c0) henv rfl (rn_move henv rfl) ?_
    clear henv a; intro a henv
    refine seq_step rfl (op_call henv rfl Tryd.call18 rfl (row_of2 (hst.pat (k := 1) rfl) (fun e he => Nat.le_trans (tl_mem he) (by omega)) (by omega)) ?_)
    rintro e w16 ⟨_, _, rfl, ⟨A6, c7, es8, rfl, hr, hl9, hz10⟩, ⟨A11, c12, es13, rfl, hr2, hl14, hz15⟩, hb⟩
    refine ⟨_, rfl, ?_⟩
    clear henv a; intro a henv
    replace hst := hst.fresh2 hb hr hl9 (ap_N hr.2.1 ⟨nou_bk rfl, trivial⟩) hr2 hl14 (ap_M hr2.2.1 ⟨nou_bk rfl, trivial⟩)
    clear hr
    clear hr2
    clear hb
    revert a
    refine mA rfl rfl ?_
    refine sA (v := .slice A6 n0 c7) rfl (fun _ henv => rn_extract henv rfl rfl) ?_
    refine sA (v := .slice A11 n0 c12) rfl (fun _ henv => rn_extract henv rfl rfl) ?_
    refine aA rfl rfl ?_
    refine aA rfl rfl ?_
    intro a henv
    refine wpList_nil ?_
    refine th_n ?_
    refine wp_seq ?_
    refine region_seq ?_
    refine sv (v := .slice A1 n1 c1) henv rfl (rn_move henv rfl) ?_
    clear henv a; intro a henv
    refine seq_step rfl (op_call henv rfl Tryd.call18 rfl (row_of2 (hst.pat (k := 2) rfl) (fun e he => Nat.le_trans (tl_mem he) (by omega)) (by omega)) ?_)
    rintro e w27 ⟨_, _, rfl, ⟨A17, c18, es19, rfl, hr, hl20, hz21⟩, ⟨A22, c23, es24, rfl, hr2, hl25, hz26⟩, hb⟩
    refine ⟨_, rfl, ?_⟩
    clear henv a; intro a henv
    replace hst := hst.fresh2 hb hr hl20 (ap_N hr.2.1 ⟨nou_bk rfl, trivial⟩) hr2 hl25 (ap_M hr2.2.1 ⟨nou_bk rfl, trivial⟩)
    clear hr
    clear hr2
    clear hb
    revert a
    refine mA rfl rfl ?_
    refine sA (v := .slice A17 n1 c18) rfl (fun _ henv => rn_extract henv rfl rfl) ?_
    refine sA (v := .slice A22 n1 c23) rfl (fun _ henv => rn_extract henv rfl rfl) ?_
    refine aA rfl rfl ?_
    refine aA rfl rfl ?_
    intro a henv
    refine wpList_nil ?_
    refine th_n ?_
    refine wp_seq ?_
    refine region_seq ?_
    revert a
    refine mA rfl rfl ?_
    refine mA rfl rfl ?_
    intro a henv
    refine seq_step rfl (op_call henv rfl Tryd.call44 rfl (ref_cmp' (hst.pat (k := 2) rfl) (hst.pat (k := 0) rfl) hz15 hz26) ?_)
    rintro e w28 ⟨rfl, hb⟩
    refine ⟨_, rfl, ?_⟩
    clear henv a; intro a henv
    replace hst := hst.call hb
    clear hb
    refine sv (v := .int .i64 (cmpR (es0.map vz) (es1.map vz))) henv rfl (rn_assign henv rfl) ?_
    clear henv a; intro a henv
    refine wpList_nil ?_
    refine th_n ?_
    refine wp_seq ?_
    refine region_seq ?_
    revert a
    refine mA rfl rfl ?_
    refine mA rfl rfl ?_
    intro a henv
    refine seq_step rfl (op_call henv rfl Tryd.call45 rfl (row_same' (hst.pat (k := 3) rfl) (hst.pat (k := 1) rfl) hz10 hz21) ?_)
    rintro e w29 ⟨rfl, hb⟩
    refine ⟨_, rfl, ?_⟩
    clear henv a; intro a henv
    replace hst := hst.call hb
    clear hb
    revert a
    refine mA rfl rfl ?_
    refine mA rfl rfl ?_
    intro a henv
    refine seq_step rfl (op_call henv rfl Tryd.call46 rfl (ref_same' (hst.pat (k := 2) rfl) (hst.pat (k := 0) rfl) hz15 hz26) ?_)
    rintro e w30 ⟨rfl, hb⟩
    refine ⟨_, rfl, ?_⟩
    clear henv a; intro a henv
    replace hst := hst.call hb
    clear hb
    refine sv (v := .bool ((cmpR (es0.map vz) (es1.map vz) == 0) == (cmpR (es0.map vz) (es1.map vz) == 0))) henv rfl (rn_eqlb henv Tryd.underlying4 rfl rfl) ?_
    clear henv a; intro a henv
    rw [show ((cmpR (es0.map vz) (es1.map vz) == 0) == (cmpR (es0.map vz) (es1.map vz) == 0)) = true from (beq_self_eq_true _)] at henv
    revert a
    refine mA rfl rfl ?_
    refine gA (v := .slice A6 n0 c7) rfl rfl rfl rfl (fun _ henv => rn_move henv rfl) ?_
    intro a henv
    refine seq_g rfl henv rfl rfl (op_call henv rfl Tryd.call41 rfl (row_iszero' (hst.pat (k := 3) rfl) hz10) ?_)
    rintro e w31 ⟨rfl, hb⟩
    refine ⟨_, rfl, ?_⟩
    clear henv a; intro a henv
    replace hst := hst.call hb
    clear hb
    refine seq_g rfl henv rfl rfl (op_val (v := .slice A11 n0 c12) henv rfl (rn_move henv rfl) ?_)
    clear henv a; intro a henv
    refine seq_g rfl henv rfl rfl (op_call henv rfl Tryd.call47 rfl (ref_iszero' (hst.pat (k := 2) rfl) hz15) ?_)
    rintro e w32 ⟨rfl, hb⟩
    refine ⟨_, rfl, ?_⟩
    clear henv a; intro a henv
    replace hst := hst.call hb
    clear hb
    refine seq_g rfl henv rfl rfl (op_val (v := .bool (((es0.map vz).all fun z => decide (z = 0)) == ((es0.map vz).all fun z => decide (z = 0)))) henv rfl (rn_eqlb henv Tryd.underlying4 rfl rfl) ?_)
    clear henv a; intro a henv
    rw [show (((es0.map vz).all fun z => decide (z = 0)) == ((es0.map vz).all fun z => decide (z = 0))) = true from (beq_self_eq_true _)] at henv
    revert a
    refine sA (v := .bool true) rfl (fun _ henv => rn_pick henv rfl rfl) ?_
    refine mA rfl rfl ?_
    refine gA (v := .slice A6 n0 c7) rfl rfl rfl rfl (fun _ henv => rn_move henv rfl) ?_
    refine gA (v := .slice A17 n1 c18) rfl rfl rfl rfl (fun _ henv => rn_move henv rfl) ?_
    intro a henv
    refine seq_g rfl henv rfl rfl (op_call henv rfl Tryd.call48 rfl (row_cmp' (hst.pat (k := 3) rfl) (hst.pat (k := 1) rfl) hz10 hz21) ?_)
    rintro e w33 ⟨rfl, hb⟩
    refine ⟨_, rfl, ?_⟩
    clear henv a; intro a henv
    replace hst := hst.call hb
    clear hb
    revert a
    refine gA (v := .int .i64 (cmpR (es0.map vz) (es1.map vz))) rfl rfl rfl rfl (fun _ henv => rn_move henv rfl) ?_
    refine gA (v := .bool ((cmpR (es0.map vz) (es1.map vz)) == (cmpR (es0.map vz) (es1.map vz)))) rfl rfl rfl rfl (fun _ henv => rn_bin henv rfl rfl rfl) ?_
    intro a henv
    rw [show ((cmpR (es0.map vz) (es1.map vz)) == (cmpR (es0.map vz) (es1.map vz))) = true from (beq_self_eq_true _)] at henv
    revert a
    refine sA (v := .bool true) rfl (fun _ henv => rn_pick henv rfl rfl) ?_
    refine mA rfl rfl ?_
    refine gA (v := .slice A17 n1 c18) rfl rfl rfl rfl (fun _ henv => rn_move henv rfl) ?_
    refine gA (v := .slice A6 n0 c7) rfl rfl rfl rfl (fun _ henv => rn_move henv rfl) ?_
    intro a henv
    refine seq_g rfl henv rfl rfl (op_call henv rfl Tryd.call48 rfl (row_cmp' (hst.pat (k := 1) rfl) (hst.pat (k := 3) rfl) hz21 hz10) ?_)
    rintro e w34 ⟨rfl, hb⟩
    refine ⟨_, rfl, ?_⟩
    clear henv a; intro a henv
    replace hst := hst.call hb
    clear hb
    revert a
    refine gA (v := .int .i64 (cmpR (es0.map vz) (es1.map vz))) rfl rfl rfl rfl (fun _ henv => rn_move henv rfl) ?_
    refine gA (v := .int .i64 (-(cmpR (es0.map vz) (es1.map vz)))) rfl rfl rfl rfl (fun _ henv => rn_un henv rfl (neg_c hcb)) ?_
    refine gA (v := .bool ((cmpR (es1.map vz) (es0.map vz)) == (-(cmpR (es0.map vz) (es1.map vz))))) rfl rfl rfl rfl (fun _ henv => rn_bin henv rfl rfl rfl) ?_
    intro a henv
    rw [show ((cmpR (es1.map vz) (es0.map vz)) == (-(cmpR (es0.map vz) (es1.map vz)))) = true from (beq_iff_eq.2 (cmpR_swap _ _))] at henv
    revert a
    refine sA (v := .bool true) rfl (fun _ henv => rn_pick henv rfl rfl) ?_
    refine mA rfl rfl ?_
    refine gA (v := .slice A6 n0 c7) rfl rfl rfl rfl (fun _ henv => rn_move henv rfl) ?_
    intro a henv
    refine seq_g rfl henv rfl rfl (op_call henv rfl Tryd.call49 rfl (row_widest' (hst.pat (k := 3) rfl) hz10) ?_)
    rintro e w38 ⟨_, rfl, ⟨A35, c36, rfl, hz37⟩, hb⟩
    refine ⟨_, rfl, ?_⟩
    clear henv a; intro a henv
    replace hst := (hst.call hb).addZ hz37 ⟨nou_bk rfl, trivial⟩
    clear hz37
    clear hb
    refine seq_g rfl henv rfl rfl (op_val (v := .slice A11 n0 c12) henv rfl (rn_move henv rfl) ?_)
    clear henv a; intro a henv
    refine seq_g rfl henv rfl rfl (op_call henv rfl Tryd.call50 rfl (ref_widest' (hst.pat (k := 3) rfl) hz15) ?_)
    rintro e w42 ⟨_, rfl, ⟨A39, c40, rfl, hz41⟩, hb⟩
    refine ⟨_, rfl, ?_⟩
    clear henv a; intro a henv
    replace hst := (hst.call hb).addR hz41 ⟨nou_bk rfl, trivial⟩
    clear hz41
    clear hb
    refine seq_g rfl henv rfl rfl (op_call henv rfl Tryd.call35 rfl (num_one (z := (wid (es0.map vz))) (show ZIn _ A35 c36 (wid (es0.map vz)) from hst.pat (k := 1) rfl) (show RIn _ A39 c40 (wid (es0.map vz)) from hst.pat (k := 0) rfl) hwb) ?_)
    rintro e w43 ⟨rfl, hb⟩
    refine ⟨_, rfl, ?_⟩
    clear henv a; intro a henv
    replace hst := hst.call hb
    clear hb
    revert a
    refine sA (v := .bool true) rfl (fun _ henv => rn_pick henv rfl rfl) ?_
    refine mA rfl rfl ?_
    intro a henv
    refine seq_g rfl henv rfl rfl (op_call henv rfl Tryd.call16 rfl (row_live) ?_)
    rintro e w44 ⟨rfl, hb⟩
    refine ⟨_, rfl, ?_⟩
    clear henv a; intro a henv
    replace hst := hst.call hb
    clear hb
    revert a
    refine sA (v := .bool true) rfl (fun _ henv => rn_pick henv rfl rfl) ?_
    refine aA rfl rfl ?_
    intro a henv
    refine wpList_nil ?_
    refine th_n ?_
    refine wp_ret ?_
    refine leave henv (res1 Tryd.results5 (RV.tmp henv rfl)) ?_
    exact ⟨rfl, hst.below⟩
end Go.Proofs.YtegglooojlheoaaDoor.W
