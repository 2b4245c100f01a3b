/- More of layer 2: clones, limbs, small numbers. No condition. -/
import Derived.Test.YtegglooojlheoaaDoorM4
import Derived.Test.YtegglooojlheoaaDoorM5
import Derived.Lib.SliceRun

namespace Go.Proofs.YtegglooojlheoaaDoor
open Go.RowKit Anv
theorem new_num {w : World} {t : TypeId} {g : Nat} {cs : Array Value} (ys : List Nat) (hg : g = w.heap.size) (hcs : cs = nums .u32 ys) (hl : AllLt 4294967296 ys) (hm : ys.length ≤ 1000) :
  NumIn (w.alloc (.cells cs t)) (some ⟨g, 0, none⟩) ys.length ys.length (val 4294967296 ys) := by
 subst hg hcs
 have h : Arr .u32 t (w.alloc (.cells (nums .u32 ys) t)) w.heap.size ys := heap_alloc_new w _
 exact ⟨ys, h.u32 hl rfl (by simp only [maxLen]; omega), rfl⟩
theorem two_num {w : World} {t : TypeId} {g : Nat} {a b : Int} (m : Nat) (hg : g = w.heap.size) (hm : m < 18446744073709551616) (ha : a = ((m % 4294967296 : Nat) : Int)) (hb : b = ((m / 4294967296 : Nat) : Int)) :
  NumIn (w.alloc (.cells #[.int .u32 a, .int .u32 b] t)) (some ⟨g, 0, none⟩) 2 2 m := by
 have h := new_num (w := w) (t := t) (cs := #[.int .u32 a, .int .u32 b]) [m % 4294967296, m / 4294967296] hg (by subst ha hb; simp [nums]) (by intro x hx; simp at hx; omega) (by simp)
 have e : val 4294967296 [m % 4294967296, m / 4294967296] = m := by simp; omega
 rw [e] at h
 exact h
theorem nl_le_of_lt {N k : Nat} (h : N < 4294967296 ^ k) : nl N ≤ k := dig_len_of_lt (by omega) h
theorem of_z {n : Int} {w : World} (h1 : -9223372036854775808 ≤ n) (h2 : n ≤ 9223372036854775807) :
  Calls Tryd.prog 43 #[.int .i64 n] w fun e w' => ∃ v, e = .returned v ∧ ZAt w' v n ∧ Below w.heap.size w w' := by
 by_cases hn : n < 0
 ·obtain ⟨m, rfl⟩ : ∃ m : Nat, n = -(m : Int) := ⟨n.natAbs, by omega⟩
  have hw : IntKind.u64.wrap (-IntKind.u64.wrap (-(m : Int))) = (m : Int) := by rw [IntKind.wrap_u64, IntKind.wrap_u64]; omega
  have hnl : nl m ≤ 1000000 := by have := nl_le_of_lt (N := m) (k := 2) (by omega); omega
  go_enter Tryd.func43, Tryd.ntmps43
  go_wp2_with fail
  refine (make_z (b := true) (N := m) (two_num m (by simp) (by omega) (by omega) (by omega)) hnl).mono ?_
  rintro e w1 ⟨v, rfl, ⟨A1, c1, rfl, hz⟩, hb⟩
  have e1 : sg true m = -(m : Int) := rfl
  rw [e1] at hz ⊢
  have hbw := thru (below2 _ _ _) hb
  have q := ((Box2.new w 36 (.bool false) (.slice none 0 0)).alloc _).below hb (by simp; omega)
  have hc0 := q.c0
  have hc1 := q.c1
  have hf0 := q.f 0
  have hf1 := q.f 1
  have hs := q.lt
  go_wp2
  exact bodyPost_ret (v := .agg #[.bool (neg (-(m : Int))), .slice A1 (zl (-(m : Int))) c1]) (by simp [results, Tryd.results43, go_sem, hc0, hc1]) rfl ⟨_, rfl, ⟨_, _, rfl, U32.store2 hz hc0 hc1 _ _⟩, below_store2 hbw (Nat.le_refl _) _ _⟩
 ·obtain ⟨m, rfl⟩ : ∃ m : Nat, n = (m : Int) := ⟨n.natAbs, by omega⟩
  have hnl : nl m ≤ 1000000 := by have := nl_le_of_lt (N := m) (k := 2) (by omega); omega
  go_enter Tryd.func43, Tryd.ntmps43
  go_wp2_with fail
  refine (make_z (b := false) (N := m) (two_num m (by simp) (by omega) (by omega) (by omega)) hnl).mono ?_
  rintro e w1 ⟨v, rfl, ⟨A1, c1, rfl, hz⟩, hb⟩
  have e1 : sg false m = (m : Int) := rfl
  rw [e1] at hz ⊢
  have hbw := thru (below2 _ _ _) hb
  have q := ((Box2.new w 36 (.bool false) (.slice none 0 0)).alloc _).below hb (by simp; omega)
  have hc0 := q.c0
  have hc1 := q.c1
  have hf0 := q.f 0
  have hf1 := q.f 1
  have hs := q.lt
  go_wp2
  exact bodyPost_ret (v := .agg #[.bool (neg (m : Int)), .slice A1 (zl (m : Int)) c1]) (by simp [results, Tryd.results43, go_sem, hc0, hc1]) rfl ⟨_, rfl, ⟨_, _, rfl, U32.store2 hz hc0 hc1 _ _⟩, below_store2 hbw (Nat.le_refl _) _ _⟩
theorem zl_neg (z : Int) : zl (-z) = zl z := by unfold zl; rw [Int.natAbs_neg]
theorem sub_z {A B : Option Addr} {c d : Nat} {x y : Int} {w : World} (hx : ZIn w A c x) (hy : ZIn w B d y) (hn : zl x ≤ 1000000) (hm : zl y ≤ 1000000) :
  Calls Tryd.prog 99 #[.agg #[.bool (neg x), .slice A (zl x) c], .agg #[.bool (neg y), .slice B (zl y) d]] w fun e w' => ∃ v, e = .returned v ∧ ZAt w' v (x - y) ∧ Below w.heap.size w w' := by
 go_enter Tryd.func99, Tryd.ntmps99
 go_wp2_with fail
 go_region_held3 (fun w' => w'.cell? ⟨w.heap.size, 0, none⟩ = some (.bool (neg x)) ∧ w'.cell? ⟨w.heap.size, 1, none⟩ = some (.slice A (zl x) c) ∧ w'.cell? ⟨w.heap.size + 1, 0, none⟩ = some (.bool (neg y)) ∧ w'.cell? ⟨w.heap.size + 1, 1, none⟩ = some (.slice B (zl y) d)) (first | exact ⟨q0.c0, q0.c1, q1.c0, q1.c1⟩ | exact ⟨r0.c0, r0.c1, r1.c0, r1.c1⟩ | exact ⟨(r0.far2 (by omega) _ _).c0, (r0.far2 (by omega) _ _).c1, (r1.far2 (by omega) _ _).c0, (r1.far2 (by omega) _ _).c1⟩ | go_keep)
  (first | (go_at_call 103; refine (neg_z (ZIn.below hy (by exact (below3 _ _ _ _).drew))).mono ?_; rintro e w1 ⟨v, rfl, ⟨A1, c1, rfl, hz1⟩, hb⟩; obtain ⟨q0, q1, q2, hbw, hs⟩ := boxes3 (undrew hb)) | (go_at_call 85; refine (add_z (ZIn.below hx hbw) hz1 hn (by rw [zl_neg]; exact hm)).mono ?_; rintro e w2 ⟨v2, rfl, ⟨A2, c2, rfl, hz2⟩, hb2⟩; have r0 := q0.below hb2 q0.lt; have r1 := q1.below hb2 q1.lt; have r2 := q2.below hb2 q2.lt; have hc0 := r2.c0; have hc1 := r2.c1; have hf0 := r2.f 0; have hf1 := r2.f 1; have hs2 : w.heap.size + 1 + 1 < w2.heap.size := by have := hb2.size; omega))
 go_wp2
 rw [← Int.sub_eq_add_neg] at hz2 ⊢
 exact bodyPost_ret (v := .agg #[.bool (neg (x - y)), .slice A2 (zl (x - y)) c2]) (by simp [results, Tryd.results99, go_sem, hc0, hc1]) rfl ⟨_, rfl, ⟨_, _, rfl, U32.store2 hz2 hc0 hc1 _ _⟩, below_store2 (thru hbw hb2) (by omega) _ _⟩
theorem zl_small {n : Int} (h1 : -9223372036854775808 ≤ n) (h2 : n ≤ 9223372036854775807) : zl n ≤ 2 := nl_le_of_lt (by omega)
def smallV (z : Int) : Value := if -9223372036854775808 ≤ z ∧ z ≤ 9223372036854775807 then .tuple #[.int .i64 z, .bool true] else .tuple #[.int .i64 0, .bool false]
theorem neg_true {z : Int} (h : neg z = true) : z < 0 := by unfold neg at h; simpa using h
theorem neg_false {z : Int} (h : neg z = false) : 0 ≤ z := by unfold neg at h; simpa using h
def D (N : Nat) : List Nat := dig 65536 N
def dn (N : Nat) : Nat := (D N).length
def dl (z : Int) : Nat := dn z.natAbs
theorem val_D (N : Nat) : val 65536 (D N) = N := val_dig (by omega) N
theorem D_lt (N : Nat) : AllLt 65536 (D N) := dig_lt (by omega) N
theorem D_zero : D 0 = [] := dig_zero _
theorem wide {xs : List Nat} (h : AllLt 65536 xs) : AllLt 4294967296 xs := fun x hx => by have := h x hx; omega
theorem dn_zero : dn 0 = 0 := by unfold dn; rw [D_zero]; rfl
theorem dn_pos {N : Nat} (h : 0 < N) : 0 < dn N := by unfold dn D; rw [dig_pos (by omega) h]; simp
theorem dn_dpos (N : Nat) : decide (0 < dn N) = decide (0 < N) := by
 rcases Nat.eq_zero_or_pos N with h | h
 ·subst h; rw [dn_zero]
 ·have := dn_pos h; simp [h, this]
def RIn (w : World) (A : Option Addr) (c : Nat) (z : Int) : Prop := U32 w A (dl z) c (D z.natAbs)
def RAt (w : World) (v : Value) (z : Int) : Prop := ∃ A c, v = .agg #[.bool (neg z), .slice A (dl z) c] ∧ RIn w A c z
theorem RIn.below {w w' : World} {A : Option Addr} {c : Nat} {z : Int} (h : RIn w A c z) (hb : Below w.heap.size w w') : RIn w' A c z := U32.below h hb
theorem RAt.below {w w' : World} {v : Value} {z : Int} (h : RAt w v z) (hb : Below w.heap.size w w') : RAt w' v z := by
 obtain ⟨A, c, rfl, hz⟩ := h
 exact ⟨A, c, rfl, hz.below hb⟩
theorem sg_dl (b : Bool) (N : Nat) : dl (sg b N) = dn N := by unfold dl; rw [sg_abs]
theorem dn_eq {xs : List Nat} (h : AllLt 65536 xs) (m : Nat) (hm : m ≤ xs.length) (hz : ∀ i, m ≤ i → i < xs.length → xs.getD i 0 = 0) (hl : m = 0 ∨ xs.getD (m - 1) 0 ≠ 0) : m = dn (val 65536 xs) := by
 have h1 := take_eq_dig (by omega) h m hm hz hl
 unfold dn D
 rw [← h1]
 simp; omega
theorem take_dn {w : World} {A : Option Addr} {n c m : Nat} {xs : List Nat} (h : U32 w A n c xs) (hd : AllLt 65536 xs) (hm : m = dn (val 65536 xs)) (hmn : m ≤ n) (hz : ∀ i, m ≤ i → i < xs.length → xs.getD i 0 = 0) (hl : m = 0 ∨ xs.getD (m - 1) 0 ≠ 0) :
  U32 w A m c (D (val 65536 xs)) := by
 have h1 := take_eq_dig (by omega) hd m (by rw [h.len]; exact hmn) hz hl
 refine ⟨hm.symm, Nat.le_trans hmn h.cap, h.big, wide (D_lt _), fun hp => ?_⟩
 obtain ⟨b, off, hA, hb, hc⟩ := h.cells (by omega)
 refine ⟨b, off, hA, hb, fun i hi => ?_⟩
 rw [hc i (by omega)]
 unfold D
 rw [← h1]
 congr 3
 simp [List.getD, hi]
def NormPost (w : World) (A : Option Addr) (c : Nat) (b : Bool) (N : Nat) (e : Ending) (w' : World) : Prop :=
 e = .returned (.agg #[.bool (neg (sg b N)), .slice A (dl (sg b N)) c]) ∧ RIn w' A c (sg b N) ∧ Below w.heap.size w w'
theorem norm_fin {w w' : World} {A : Option Addr} {n c : Nat} {xs : List Nat} {b : Bool} (h : U32 w A n c xs) (hd : AllLt 65536 xs) (m : Nat) (bv : Bool) (hmn : m ≤ n) (hz : ∀ j, m ≤ j → j < n → xs.getD j 0 = 0)
  (hl : m = 0 ∨ xs.getD (m - 1) 0 ≠ 0) (hbv : bv = (b && decide (0 < m))) (hb : Below w.heap.size w w') : NormPost w A c b (val 65536 xs) (.returned (.agg #[.bool bv, .slice A m c])) w' := by
 have hz' : ∀ j, m ≤ j → j < xs.length → xs.getD j 0 = 0 := fun j h1 h2 => hz j h1 (by rw [← h.len]; exact h2)
 have hm := dn_eq hd m (by rw [h.len]; exact hmn) hz' hl
 have hU := take_dn h hd hm hmn hz' hl
 refine ⟨?_, ?_, hb⟩
 ·rw [hbv, sg_dl, sg_neg, ← dn_dpos (val 65536 xs), ← hm]
 ·unfold RIn
  rw [sg_dl, sg_abs, ← hm]
  exact hU.below hb
theorem norm_ref {b : Bool} {A : Option Addr} {n c : Nat} {xs : List Nat} {w : World} (h : U32 w A n c xs) (hd : AllLt 65536 xs) :
  Calls Tryd.prog 97 #[.bool b, .slice A n c] w (NormPost w A c b (val 65536 xs)) := by
 have hc := h.cap
 have hb := h.big
 unfold maxLen at hb
 go_enter Tryd.func97, Tryd.ntmps97
 go_wp2
 go_loop [5] (fun i => ∃ m : Nat, m ≤ n ∧ i = .int .i64 m ∧ Hid (∀ j, m ≤ j → j < n → xs.getD j 0 = 0)) (fun i => (intOf i).toNat)
 case atStart => exact ⟨n, Nat.le_refl _, rfl, fun j h1 h2 => by omega⟩
 case round =>
  obtain ⟨m, hm, rfl, HZ⟩ := hrel
  rcases m with _ | m
  ·cases b
   ·go_wp2
    exact bodyPost_ret (v := .agg #[.bool false, .slice A 0 c]) (by simp [results, Tryd.results97, go_sem]) rfl (norm_fin h hd 0 false (by omega) HZ.out (.inl rfl) (by simp) (below1 _ _))
   ·go_wp2
    exact bodyPost_ret (v := .agg #[.bool false, .slice A 0 c]) (by simp [results, Tryd.results97, go_sem]) rfl (norm_fin h hd 0 false (by omega) HZ.out (.inl rfl) (by simp) (below1 _ _))
  ·obtain ⟨bb, off, rfl, hbw, hcs⟩ := h.cells (by omega)
   have hcell := hcs m (by omega)
   clear hcs
   generalize hx : xs.getD m 0 = x at hcell
   have HX := Lib.hid hx
   clear hx
   by_cases hx : x = 0
   ·subst hx
    go_wp2
    go_round
    case rel =>
     refine ⟨m, by omega, rfl, fun j h1 h2 => ?_⟩
     rcases Nat.eq_or_lt_of_le h1 with h3 | h3
     ·rw [← h3]; exact HX.out
     ·exact HZ.out j (by omega) h2
    case measure => simp [intOf]
   ·have hx0 : ((x : Int) == 0) = false := by simp; omega
    cases b
    ·go_wp2
     exact bodyPost_ret (v := .agg #[.bool false, .slice (some ⟨bb, off, none⟩) (m + 1) c]) (by simp [results, Tryd.results97, go_sem]) rfl (norm_fin h hd (m + 1) false (by omega) HZ.out (.inr (by rw [Nat.add_sub_cancel, HX.out]; exact hx)) (by simp) (below1 _ _))
    ·go_wp2
     exact bodyPost_ret (v := .agg #[.bool true, .slice (some ⟨bb, off, none⟩) (m + 1) c]) (by simp [results, Tryd.results97, go_sem]) rfl (norm_fin h hd (m + 1) true (by omega) HZ.out (.inr (by rw [Nat.add_sub_cancel, HX.out]; exact hx)) (by simp) (below1 _ _))
theorem plus_step (x y o : List Nat) (i c : Nat) (hi : o.length = i)
  (h : val 65536 o + 65536 ^ i * c = val 65536 (x.take i) + val 65536 (y.take i)) :
  val 65536 (o ++ [(c + x.getD i 0 + y.getD i 0) % 65536]) + 65536 ^ (i + 1) * ((c + x.getD i 0 + y.getD i 0) / 65536) = val 65536 (x.take (i + 1)) + val 65536 (y.take (i + 1)) := by
 have h1 := add_step 65536 x y (o ++ [0]) i c (by simp; omega) (by rw [List.take_append_of_le_length (by omega), List.take_of_length_le (by omega)]; exact h)
 rw [List.take_of_length_le (by simp; omega)] at h1
 rw [← h1]
 congr 2
 rw [← hi, List.set_append_right _ _ (Nat.le_refl _)]
 simp
theorem plus_ref {A B : Option Addr} {n c m d : Nat} {xs ys : List Nat} {w : World} (hx : U32 w A n c xs) (hy : U32 w B m d ys) (hdx : AllLt 65536 xs) (hdy : AllLt 65536 ys) (hn : n ≤ 1000000) (hm : m ≤ 1000000) :
  Calls Tryd.prog 138 #[.slice A n c, .slice B m d] w fun e w' => ∃ A' k c' os, e = .returned (.slice A' k c') ∧ U32 w' A' k c' os ∧ AllLt 65536 os ∧ k ≤ n + m + 2 ∧ val 65536 os = val 65536 xs + val 65536 ys ∧ Below w.heap.size w w' := by
 go_enter Tryd.func138, Tryd.ntmps138
 go_wp2
 go_loopw [5, 6, 7] (fun o cy i wr => ∃ (k cc : Nat) (os : List Nat), k ≤ max n m + 1 ∧ i = .int .i64 k ∧ cy = .int .u32 cc ∧ cc ≤ 1 ∧
    Hid ((k = max n m + 1 → cc = 0) ∧ os.length = k ∧ AllLt 65536 os ∧ val 65536 os + 65536 ^ k * cc = val 65536 (xs.take k) + val 65536 (ys.take k)) ∧
    Hid (Own w.heap.size 141 wr o os) ∧ Hid (Below w.heap.size w wr)) (fun _ _ i _ => max n m + 1 - (intOf i).toNat)
 case atStart => exact ⟨0, 0, [], Nat.zero_le _, rfl, rfl, by omega, ⟨fun _ => rfl, rfl, AllLt.nil _, by simp⟩, Own.nil _ _ _, Below.refl _ _⟩
 case round =>
  obtain ⟨k, cc, os, hk, rfl, rfl, hcc, HI, HO, HW⟩ := hrel
  by_cases hend : k < n ∨ k < m ∨ 0 < cc
  ·have hkk : k < max n m + 1 := by
    rcases Nat.lt_or_ge k (max n m + 1) with h1 | h1
    ·exact h1
    ·have := HI.out.1 (by omega); omega
   by_cases hlx : k < n
   ·by_cases hly : k < m
    ·obtain ⟨b, off, rfl, hwb, hcs⟩ := hx.cells (by omega)
     have hcx := (HW.out.cell (p := ⟨b, off + k, none⟩) hwb).trans (hcs k (by omega))
     have hxlt := hdx.get (by omega) k
     generalize hx : xs.getD k 0 = x at hcx hxlt
     have HX := Lib.hid hx
     clear hx hcs
     obtain ⟨b2, off2, rfl, hwb2, hcs⟩ := hy.cells (by omega)
     have hcy := (HW.out.cell (p := ⟨b2, off2 + k, none⟩) hwb2).trans (hcs k (by omega))
     have hylt := hdy.get (by omega) k
     generalize hy : ys.getD k 0 = y at hcy hylt
     have HY := Lib.hid hy
     clear hy hcs
     go_wp2_with (at_builtin; refine wpList_append_new _ rfl (.tmp 44) (.tmp 47) 23 rfl 141 4 Tryd.underlying23 info_u32 w.heap.size _ os HO.out 1 _ [(cc + x + y) % 65536] (by simp [nums]) rfl rfl rfl (by rw [HI.out.2.1]; simp only [maxLen]; omega) (by rw [HI.out.2.1]; omega) (HW.out.size) ?_; intro v1 w1 hO1 hs1 hB1; have HO1 := Lib.hid hO1; have HB1 := Lib.hid (hB1 _ _ (Nat.le_refl _) HW.out); clear hO1 hB1)
     go_roundw
     case rel =>
      have h3 := HI.out
      have h4 := plus_step xs ys os k cc h3.2.1 h3.2.2.2
      rw [HX.out, HY.out] at h4
      exact ⟨k + 1, (cc + x + y) / 65536, os ++ [(cc + x + y) % 65536], by omega, by go_num, int_eq (by omega), by omega, ⟨fun _ => by omega, by simp [h3.2.1], h3.2.2.1.append (AllLt.cons (Nat.mod_lt _ (by omega)) (AllLt.nil _)), h4⟩, HO1.out, HB1.out⟩
     case measure => simp [intOf]; omega
    ·obtain ⟨b, off, rfl, hwb, hcs⟩ := hx.cells (by omega)
     have hcx := (HW.out.cell (p := ⟨b, off + k, none⟩) hwb).trans (hcs k (by omega))
     have hxlt := hdx.get (by omega) k
     generalize hx : xs.getD k 0 = x at hcx hxlt
     have HX := Lib.hid hx
     clear hx hcs
     have hy0 : ys.getD k 0 = 0 := getD_ge (by rw [hy.len]; omega)
     have HY := Lib.hid hy0
     clear hy0
     go_wp2_with (at_builtin; refine wpList_append_new _ rfl (.tmp 44) (.tmp 47) 23 rfl 141 4 Tryd.underlying23 info_u32 w.heap.size _ os HO.out 1 _ [(cc + x) % 65536] (by simp [nums]) rfl rfl rfl (by rw [HI.out.2.1]; simp only [maxLen]; omega) (by rw [HI.out.2.1]; omega) (HW.out.size) ?_; intro v1 w1 hO1 hs1 hB1; have HO1 := Lib.hid hO1; have HB1 := Lib.hid (hB1 _ _ (Nat.le_refl _) HW.out); clear hO1 hB1)
     go_roundw
     case rel =>
      have h3 := HI.out
      have h4 := plus_step xs ys os k cc h3.2.1 h3.2.2.2
      rw [HX.out, HY.out, Nat.add_zero] at h4
      exact ⟨k + 1, (cc + x) / 65536, os ++ [(cc + x) % 65536], by omega, by go_num, int_eq (by omega), by omega, ⟨fun _ => by omega, by simp [h3.2.1], h3.2.2.1.append (AllLt.cons (Nat.mod_lt _ (by omega)) (AllLt.nil _)), h4⟩, HO1.out, HB1.out⟩
     case measure => simp [intOf]; omega
   ·by_cases hly : k < m
    ·have hx0 : xs.getD k 0 = 0 := getD_ge (by rw [hx.len]; omega)
     have HX := Lib.hid hx0
     clear hx0
     obtain ⟨b2, off2, rfl, hwb2, hcs⟩ := hy.cells (by omega)
     have hcy := (HW.out.cell (p := ⟨b2, off2 + k, none⟩) hwb2).trans (hcs k (by omega))
     have hylt := hdy.get (by omega) k
     generalize hy : ys.getD k 0 = y at hcy hylt
     have HY := Lib.hid hy
     clear hy hcs
     go_wp2_with (at_builtin; refine wpList_append_new _ rfl (.tmp 44) (.tmp 47) 23 rfl 141 4 Tryd.underlying23 info_u32 w.heap.size _ os HO.out 1 _ [(cc + y) % 65536] (by simp [nums]) rfl rfl rfl (by rw [HI.out.2.1]; simp only [maxLen]; omega) (by rw [HI.out.2.1]; omega) (HW.out.size) ?_; intro v1 w1 hO1 hs1 hB1; have HO1 := Lib.hid hO1; have HB1 := Lib.hid (hB1 _ _ (Nat.le_refl _) HW.out); clear hO1 hB1)
     go_roundw
     case rel =>
      have h3 := HI.out
      have h4 := plus_step xs ys os k cc h3.2.1 h3.2.2.2
      rw [HX.out, HY.out, Nat.add_zero] at h4
      exact ⟨k + 1, (cc + y) / 65536, os ++ [(cc + y) % 65536], by omega, by go_num, int_eq (by omega), by omega, ⟨fun _ => by omega, by simp [h3.2.1], h3.2.2.1.append (AllLt.cons (Nat.mod_lt _ (by omega)) (AllLt.nil _)), h4⟩, HO1.out, HB1.out⟩
     case measure => simp [intOf]; omega
    ·have hcc1 : 0 < cc := by omega
     have hx0 : xs.getD k 0 = 0 := getD_ge (by rw [hx.len]; omega)
     have HX := Lib.hid hx0
     clear hx0
     have hy0 : ys.getD k 0 = 0 := getD_ge (by rw [hy.len]; omega)
     have HY := Lib.hid hy0
     clear hy0
     go_wp2_with (at_builtin; refine wpList_append_new _ rfl (.tmp 44) (.tmp 47) 23 rfl 141 4 Tryd.underlying23 info_u32 w.heap.size _ os HO.out 1 _ [(cc) % 65536] (by simp [nums]) rfl rfl rfl (by rw [HI.out.2.1]; simp only [maxLen]; omega) (by rw [HI.out.2.1]; omega) (HW.out.size) ?_; intro v1 w1 hO1 hs1 hB1; have HO1 := Lib.hid hO1; have HB1 := Lib.hid (hB1 _ _ (Nat.le_refl _) HW.out); clear hO1 hB1)
     go_roundw
     case rel =>
      have h3 := HI.out
      have h4 := plus_step xs ys os k cc h3.2.1 h3.2.2.2
      rw [HX.out, HY.out, Nat.add_zero, Nat.add_zero] at h4
      exact ⟨k + 1, (cc) / 65536, os ++ [(cc) % 65536], by omega, by go_num, int_eq (by omega), by omega, ⟨fun _ => by omega, by simp [h3.2.1], h3.2.2.1.append (AllLt.cons (Nat.mod_lt _ (by omega)) (AllLt.nil _)), h4⟩, HO1.out, HB1.out⟩
     case measure => simp [intOf]; omega
  ·go_wp2
   go_ret
   have h3 := HI.out
   obtain ⟨A', c', rfl, hU, hf⟩ := HO.out.u32 (wide h3.2.2.1)
   refine ⟨A', os.length, c', os, rfl, hU, h3.2.2.1, by rw [h3.2.1]; omega, ?_, HW.out⟩
   have h4 := h3.2.2.2
   rw [show cc = 0 from by omega, List.take_of_length_le (by rw [hx.len]; omega), List.take_of_length_le (by rw [hy.len]; omega)] at h4
   simpa using h4
theorem minus_step (x y o : List Nat) (i r d r' : Nat) (hi : o.length = i) (h : val 65536 o + val 65536 (y.take i) = val 65536 (x.take i) + 65536 ^ i * r) (hd : d + y.getD i 0 + r = x.getD i 0 + 65536 * r') :
  val 65536 (o ++ [d]) + val 65536 (y.take (i + 1)) = val 65536 (x.take (i + 1)) + 65536 ^ (i + 1) * r' := by
 have h1 := sub_step 65536 x y (o ++ [0]) i r d r' (by simp; omega) (by rw [List.take_append_of_le_length (by omega), List.take_of_length_le (by omega)]; exact h) hd
 rw [List.take_of_length_le (by simp; omega)] at h1
 rw [← h1]
 congr 2
 rw [← hi, List.set_append_right _ _ (Nat.le_refl _)]
 simp
theorem minus_own {A B : Option Addr} {n c m d : Nat} {xs ys : List Nat} {w : World} (hx : U32 w A n c xs) (hy : U32 w B m d ys) (hdx : AllLt 65536 xs) (hdy : AllLt 65536 ys) (hn : n ≤ 1000000) (hle : val 65536 ys ≤ val 65536 xs) :
  Calls Tryd.prog 140 #[.slice A n c, .slice B m d] w fun e w' => ∃ v os, e = .returned v ∧ Own w.heap.size 141 w' v os ∧ os.length = n ∧ AllLt 65536 os ∧ val 65536 os = val 65536 xs - val 65536 ys ∧ Below w.heap.size w w' := by
 have HL := Lib.hid hle
 clear hle
 go_enter Tryd.func140, Tryd.ntmps140
 go_wp2
 go_loopw [5, 6, 7] (fun o cy i wr => ∃ (k r : Nat) (os : List Nat), k ≤ n ∧ i = .int .i64 k ∧ cy = .int .u32 r ∧ r ≤ 1 ∧
    Hid (os.length = k ∧ AllLt 65536 os ∧ val 65536 os + val 65536 (ys.take k) = val 65536 (xs.take k) + 65536 ^ k * r) ∧
    Hid (Own w.heap.size 141 wr o os) ∧ Hid (Below w.heap.size w wr)) (fun _ _ i _ => n - (intOf i).toNat)
 case atStart => exact ⟨0, 0, [], Nat.zero_le _, rfl, rfl, by omega, ⟨rfl, AllLt.nil _, by simp⟩, Own.nil _ _ _, Below.refl _ _⟩
 case round =>
  obtain ⟨k, r, os, hk, rfl, rfl, hr, HI, HO, HW⟩ := hrel
  by_cases hlx : k < n
  ·obtain ⟨b, off, rfl, hwb, hcs⟩ := hx.cells (by omega)
   have hcx := (HW.out.cell (p := ⟨b, off + k, none⟩) hwb).trans (hcs k (by omega))
   have hxlt := hdx.get (by omega) k
   generalize hx : xs.getD k 0 = x at hcx hxlt
   have HX := Lib.hid hx
   clear hx hcs
   by_cases hly : k < m
   ·obtain ⟨b2, off2, rfl, hwb2, hcs⟩ := hy.cells (by omega)
    have hcy := (HW.out.cell (p := ⟨b2, off2 + k, none⟩) hwb2).trans (hcs k (by omega))
    have hylt := hdy.get (by omega) k
    generalize hy : ys.getD k 0 = y at hcy hylt
    have HY := Lib.hid hy
    clear hy hcs
    by_cases hxy : x < r + y
    ·go_wp2_with (at_builtin; refine wpList_append_new _ rfl (.tmp 36) (.tmp 40) 23 rfl 141 4 Tryd.underlying23 info_u32 w.heap.size _ os HO.out 1 _ [x + 65536 - (r + y)] (by simp [nums]; omega) rfl rfl rfl (by rw [HI.out.1]; simp only [maxLen]; omega) (by rw [HI.out.1]; omega) (HW.out.size) ?_; intro v1 w1 hO1 hs1 hB1; have HO1 := Lib.hid hO1; have HB1 := Lib.hid (hB1 _ _ (Nat.le_refl _) HW.out); clear hO1 hB1)
     go_roundw
     case rel =>
      have h3 := HI.out
      have h4 := minus_step xs ys os k r (x + 65536 - (r + y)) 1 h3.1 h3.2.2 (by rw [HX.out, HY.out]; omega)
      exact ⟨k + 1, 1, os ++ [x + 65536 - (r + y)], by omega, by go_num, rfl, by omega, ⟨by simp [h3.1], h3.2.1.append (AllLt.cons (by omega) (AllLt.nil _)), h4⟩, HO1.out, HB1.out⟩
     case measure => simp [intOf]; omega
    ·go_wp2_with (at_builtin; refine wpList_append_new _ rfl (.tmp 36) (.tmp 40) 23 rfl 141 4 Tryd.underlying23 info_u32 w.heap.size _ os HO.out 1 _ [x - (r + y)] (by simp [nums]; omega) rfl rfl rfl (by rw [HI.out.1]; simp only [maxLen]; omega) (by rw [HI.out.1]; omega) (HW.out.size) ?_; intro v1 w1 hO1 hs1 hB1; have HO1 := Lib.hid hO1; have HB1 := Lib.hid (hB1 _ _ (Nat.le_refl _) HW.out); clear hO1 hB1)
     go_roundw
     case rel =>
      have h3 := HI.out
      have h4 := minus_step xs ys os k r (x - (r + y)) 0 h3.1 h3.2.2 (by rw [HX.out, HY.out]; omega)
      exact ⟨k + 1, 0, os ++ [x - (r + y)], by omega, by go_num, rfl, by omega, ⟨by simp [h3.1], h3.2.1.append (AllLt.cons (by omega) (AllLt.nil _)), h4⟩, HO1.out, HB1.out⟩
     case measure => simp [intOf]; omega
   ·have hy0 : ys.getD k 0 = 0 := getD_ge (by rw [hy.len]; omega)
    have HY := Lib.hid hy0
    clear hy0
    by_cases hxy : x < r
    ·go_wp2_with (at_builtin; refine wpList_append_new _ rfl (.tmp 36) (.tmp 40) 23 rfl 141 4 Tryd.underlying23 info_u32 w.heap.size _ os HO.out 1 _ [x + 65536 - (r)] (by simp [nums]; omega) rfl rfl rfl (by rw [HI.out.1]; simp only [maxLen]; omega) (by rw [HI.out.1]; omega) (HW.out.size) ?_; intro v1 w1 hO1 hs1 hB1; have HO1 := Lib.hid hO1; have HB1 := Lib.hid (hB1 _ _ (Nat.le_refl _) HW.out); clear hO1 hB1)
     go_roundw
     case rel =>
      have h3 := HI.out
      have h4 := minus_step xs ys os k r (x + 65536 - (r)) 1 h3.1 h3.2.2 (by rw [HX.out, HY.out]; omega)
      exact ⟨k + 1, 1, os ++ [x + 65536 - (r)], by omega, by go_num, rfl, by omega, ⟨by simp [h3.1], h3.2.1.append (AllLt.cons (by omega) (AllLt.nil _)), h4⟩, HO1.out, HB1.out⟩
     case measure => simp [intOf]; omega
    ·go_wp2_with (at_builtin; refine wpList_append_new _ rfl (.tmp 36) (.tmp 40) 23 rfl 141 4 Tryd.underlying23 info_u32 w.heap.size _ os HO.out 1 _ [x - (r)] (by simp [nums]; omega) rfl rfl rfl (by rw [HI.out.1]; simp only [maxLen]; omega) (by rw [HI.out.1]; omega) (HW.out.size) ?_; intro v1 w1 hO1 hs1 hB1; have HO1 := Lib.hid hO1; have HB1 := Lib.hid (hB1 _ _ (Nat.le_refl _) HW.out); clear hO1 hB1)
     go_roundw
     case rel =>
      have h3 := HI.out
      have h4 := minus_step xs ys os k r (x - (r)) 0 h3.1 h3.2.2 (by rw [HX.out, HY.out]; omega)
      exact ⟨k + 1, 0, os ++ [x - (r)], by omega, by go_num, rfl, by omega, ⟨by simp [h3.1], h3.2.1.append (AllLt.cons (by omega) (AllLt.nil _)), h4⟩, HO1.out, HB1.out⟩
     case measure => simp [intOf]; omega
  ·go_wp2
   go_ret
   have h3 := HI.out
   obtain rfl : k = n := by omega
   refine ⟨_, os, rfl, HO.out, h3.1, h3.2.1, ?_, HW.out⟩
   have e1 : os.take k = os := by rw [List.take_of_length_le (by omega)]
   exact sub_final xs ys os k r h3.2.1 h3.1 hx.len hdx hr (by rw [e1]; exact h3.2.2) HL.out
theorem minus_ref {A B : Option Addr} {n c m d : Nat} {xs ys : List Nat} {w : World} (hx : U32 w A n c xs) (hy : U32 w B m d ys) (hdx : AllLt 65536 xs) (hdy : AllLt 65536 ys) (hn : n ≤ 1000000) (hle : val 65536 ys ≤ val 65536 xs) :
  Calls Tryd.prog 140 #[.slice A n c, .slice B m d] w fun e w' => ∃ A' c' os, e = .returned (.slice A' n c') ∧ U32 w' A' n c' os ∧ AllLt 65536 os ∧ val 65536 os = val 65536 xs - val 65536 ys ∧ (∀ a, A' = some a → w.heap.size ≤ a.block) ∧ Below w.heap.size w w' := by
 refine (minus_own hx hy hdx hdy hn hle).mono ?_
 rintro e w' ⟨v, os, rfl, hO, hl, ha, hv, hb⟩
 obtain ⟨A', c', rfl, hU, hf⟩ := hO.u32 (wide ha)
 rw [hl] at hU ⊢
 exact ⟨A', c', os, rfl, hU, ha, hv, hf, hb⟩
theorem size_ref {A B : Option Addr} {c d N M : Nat} {w : World} (hU : U32 w A (dn N) c (D N)) (kU : U32 w B (dn M) d (D M)) :
  Calls Tryd.prog 139 #[.slice A (dn N) c, .slice B (dn M) d] w fun e w' => e = .returned (.int .i64 (cmpI N M)) ∧ ∃ q, w' = w.drewN q := by
 have hbig := hU.big
 have hcap := hU.cap
 have kbig := kU.big
 have kcap := kU.cap
 unfold maxLen at hbig kbig
 by_cases h1 : dn N < dn M
 ·have hne : ((dn N : Int) != (dn M : Int)) = true := by simp; omega
  go_enter Tryd.func139, Tryd.ntmps139
  go_wp2
  go_ret
  exact ⟨by rw [cmpI_lt (dig_len_lt (by omega) h1)]; rfl, 0, rfl⟩
 ·by_cases h2 : dn M < dn N
  ·have hne : ((dn N : Int) != (dn M : Int)) = true := by simp; omega
   go_enter Tryd.func139, Tryd.ntmps139
   go_wp2
   go_ret
   exact ⟨by rw [cmpI_gt (dig_len_lt (by omega) h2)]; rfl, 0, rfl⟩
  ·have h3 : dn N = dn M := by omega
   have hne : ((dn N : Int) != (dn M : Int)) = false := by simp; omega
   have hne2 : ((dn N : Int) == (dn M : Int)) = true := by simp; omega
   have H3 := Lib.hid h3
   clear h3
   go_enter Tryd.func139, Tryd.ntmps139
   go_wp2
   go_loopw [5] (fun i wr => ∃ k : Nat, k ≤ dn N ∧ i = .int .i64 ((k : Int) - 1) ∧ Hid ((D N).drop k = (D M).drop k) ∧ Hid (∃ q, wr = w.drewN q)) (fun i _ => (intOf i + 1).toNat)
   case atStart => exact ⟨dn N, Nat.le_refl _, rfl, by show (D N).drop (dn N) = (D M).drop (dn N); rw [drop_all (xs := D N) (n := dn N) (Nat.le_refl _), drop_all (xs := D M) (n := dn N) (by rw [H3.out]; exact Nat.le_refl _)], 0, rfl⟩
   case round =>
    obtain ⟨k, hk, rfl, HD, HQ⟩ := hrel
    obtain ⟨q, rfl⟩ := HQ.out
    rcases k with _ | k
    ·go_wp2
     go_ret
     refine ⟨?_, q, rfl⟩
     have h4 := HD.out
     rw [List.drop_zero, List.drop_zero] at h4
     have h5 : N = M := by rw [← val_D N, ← val_D M, h4]
     rw [h5, cmpI_eq]; rfl
    ·rw [show (((k + 1 : Nat) : Int) - 1) = (k : Int) from by omega]
     obtain ⟨b, off, rfl, hbw, hcs⟩ := hU.cells (by omega)
     have hcx := hcs k (by omega)
     obtain ⟨b2, off2, rfl, hbw2, hcs2⟩ := kU.cells (by omega)
     have hcy := hcs2 k (by omega)
     clear hcs hcs2
     generalize hx : (D N).getD k 0 = x at hcx
     generalize hy : (D M).getD k 0 = y at hcy
     have HX := Lib.hid hx
     have HY := Lib.hid hy
     clear hx hy
     have hk0 : (0 : Int) ≤ (k : Int) := by omega
     have hk1 : (k : Int) < (dn N : Int) := by omega
     have hk2 : (k : Int) < (dn M : Int) := by omega
     have hkt : ((k : Int)).toNat = k := by omega
     have hlx : k < (D N).length := by show k < dn N; omega
     have hly : k < (D M).length := by show k < dn M; omega
     by_cases hxy : x < y
     ·go_wp2_with fail
      go_quiet (fail)
      go_wp2_with fail
      go_ret
      refine ⟨?_, by simp only [World.drewN_drewN]; exact ⟨_, rfl⟩⟩
      rw [cmpI_lt]
      ·rfl
      ·rw [← val_D N, ← val_D M]
       exact val_lt_of _ _ k (D_lt N) HD.out hlx (by rw [HX.out, HY.out]; exact hxy) hly
     ·by_cases hyx : y < x
      ·go_wp2_with fail
       go_quiet (fail)
       go_wp2_with fail
       go_quiet (fail)
       go_wp2_with fail
       go_ret
       refine ⟨?_, by simp only [World.drewN_drewN]; exact ⟨_, rfl⟩⟩
       rw [cmpI_gt]
       ·rfl
       ·rw [← val_D N, ← val_D M]
        exact val_lt_of _ _ k (D_lt M) HD.out.symm hly (by rw [HX.out, HY.out]; exact hyx) hlx
      ·go_wp2_with fail
       go_quiet (fail)
       go_wp2_with fail
       go_quiet (fail)
       go_wp2_with fail
       go_roundw
       case rel => exact ⟨k, by omega, rfl, by show (D N).drop k = (D M).drop k; rw [drop_step _ k hlx, drop_step _ k hly, HX.out, HY.out, HD.out, show x = y from by omega], by show ∃ q, _ = _; exact ⟨_, rfl⟩⟩
       case measure => simp [intOf]
theorem size_ref' {A B : Option Addr} {c d N M : Nat} {w : World} (hU : U32 w A (dn N) c (D N)) (kU : U32 w B (dn M) d (D M)) :
  Calls Tryd.prog 139 #[.slice A (dn N) c, .slice B (dn M) d] w fun e w' => e = .returned (.int .i64 (cmpI N M)) ∧ Below w.heap.size w w' := by
 refine (size_ref hU kU).mono ?_
 rintro e w' ⟨rfl, q, rfl⟩
 exact ⟨rfl, below_drewN' w q⟩
theorem dl_neg (z : Int) : dl (-z) = dl z := by unfold dl; rw [Int.natAbs_neg]
theorem norm_num' {b : Bool} {A : Option Addr} {c N : Nat} {w : World} (h : U32 w A (dn N) c (D N)) :
  Calls Tryd.prog 97 #[.bool b, .slice A (dn N) c] w (NormPost w A c b N) := by
 have h2 := norm_ref (b := b) h (D_lt N)
 rw [val_D] at h2
 exact h2
theorem sign_r {A : Option Addr} {c : Nat} {z : Int} {w : World} :
  Calls Tryd.prog 82 #[.agg #[.bool (neg z), .slice A (dl z) c]] w fun e w' => e = .returned (.int .i64 z.sign) ∧ Below w.heap.size w w' := by
 rcases Int.lt_trichotomy z 0 with h | h | h
 ·have h1 : neg z = true := by unfold neg; simp [h]
  have h2 : 0 < dl z := dn_pos (by omega)
  have h3 : ((dl z : Int) == 0) = false := by simp; omega
  have h4 : z.sign = -1 := Int.sign_eq_neg_one_of_neg h
  rw [h1, h4]
  clear h1 h4 h
  go_enter Tryd.func82, Tryd.ntmps82
  go_wp2
  go_ret
  exact ⟨rfl, (Below.refl _ _).alloc (Nat.le_refl _) _⟩
 ·subst h
  have h1 : neg 0 = false := by unfold neg; simp
  have h2 : dl 0 = 0 := dn_zero
  rw [h1, h2]
  clear h1 h2
  go_enter Tryd.func82, Tryd.ntmps82
  go_wp2
  go_ret
  exact ⟨rfl, (Below.refl _ _).alloc (Nat.le_refl _) _⟩
 ·have h1 : neg z = false := by unfold neg; simp; omega
  have h2 : 0 < dl z := dn_pos (by omega)
  have h3 : ((dl z : Int) == 0) = false := by simp; omega
  have h4 : z.sign = 1 := Int.sign_eq_one_of_pos h
  rw [h1, h4]
  clear h1 h4 h
  go_enter Tryd.func82, Tryd.ntmps82
  go_wp2
  go_ret
  exact ⟨rfl, (Below.refl _ _).alloc (Nat.le_refl _) _⟩
theorem neg_r {A : Option Addr} {c : Nat} {z : Int} {w : World} (h : RIn w A c z) :
  Calls Tryd.prog 128 #[.agg #[.bool (neg z), .slice A (dl z) c]] w fun e w' => ∃ v, e = .returned v ∧ RAt w' v (-z) ∧ Below w.heap.size w w' := by
 go_enter Tryd.func128, Tryd.ntmps128
 go_wp2_with fail
 refine (norm_num' (h.below (below2 _ _ _))).mono ?_
 rintro e w1 ⟨rfl, hz, hb⟩
 rw [sg_not] at hz ⊢
 have HZ := Lib.hid hz
 clear hz
 obtain ⟨hc, hf⟩ := bcell hb
 have hs : w.heap.size + 1 < w1.heap.size := by have := hb.size; simp at this; omega
 go_wp2
 exact bodyPost_ret (v := .agg #[.bool (neg (-z)), .slice A (dl (-z)) c]) (by simp [results, Tryd.results128, go_sem, hc]) rfl
  ⟨_, rfl, ⟨_, _, rfl, U32.store2 HZ.out (by simp [hc]) (by simp [hc]) _ _⟩, below_store2 (thru (below2 _ _ _) hb) (by omega) _ _⟩
theorem abs_r {A : Option Addr} {c : Nat} {z : Int} {w : World} (h : RIn w A c z) :
  Calls Tryd.prog 110 #[.agg #[.bool (neg z), .slice A (dl z) c]] w fun e w' => ∃ v, e = .returned v ∧ RAt w' v (z.natAbs : Int) ∧ Below w.heap.size w w' := by
 go_enter Tryd.func110, Tryd.ntmps110
 go_wp2_with fail
 refine (norm_num' (h.below (below2 _ _ _))).mono ?_
 rintro e w1 ⟨rfl, hz, hb⟩
 rw [sg_false] at hz ⊢
 have HZ := Lib.hid hz
 clear hz
 obtain ⟨hc, hf⟩ := bcell hb
 have hs : w.heap.size + 1 < w1.heap.size := by have := hb.size; simp at this; omega
 go_wp2
 exact bodyPost_ret (v := .agg #[.bool (neg (z.natAbs : Int)), .slice A (dl (z.natAbs : Int)) c]) (by simp [results, Tryd.results110, go_sem, hc]) rfl
  ⟨_, rfl, ⟨_, _, rfl, U32.store2 HZ.out (by simp [hc]) (by simp [hc]) _ _⟩, below_store2 (thru (below2 _ _ _) hb) (by omega) _ _⟩
theorem add_same_r {A B : Option Addr} {c d : Nat} {x y : Int} {w : World} (hx : RIn w A c x) (hy : RIn w B d y) (hn : dl x ≤ 1000000) (hm : dl y ≤ 1000000) (bx : Bool) (HE : Hid (sg bx (x.natAbs + y.natAbs) = x + y)) :
  Calls Tryd.prog 104 #[.agg #[.bool bx, .slice A (dl x) c], .agg #[.bool bx, .slice B (dl y) d]] w fun e w' => ∃ v, e = .returned v ∧ RAt w' v (x + y) ∧ Below w.heap.size w w' := by
 go_enter Tryd.func104, Tryd.ntmps104
 go_wp2_with fail
 go_region_held3 (fun w' => w'.cell? ⟨w.heap.size, 0, none⟩ = some (.bool bx) ∧ w'.cell? ⟨w.heap.size, 1, none⟩ = some (.slice A (dl x) c) ∧ w'.cell? ⟨w.heap.size + 1, 0, none⟩ = some (.bool bx) ∧ w'.cell? ⟨w.heap.size + 1, 1, none⟩ = some (.slice B (dl y) d)) (first | exact ⟨t0.c0, t0.c1, t1.c0, t1.c1⟩ | exact ⟨r0.c0, r0.c1, r1.c0, r1.c1⟩ | exact ⟨(r0.far2 (by omega) _ _).c0, (r0.far2 (by omega) _ _).c1, (r1.far2 (by omega) _ _).c0, (r1.far2 (by omega) _ _).c1⟩ | go_keep)
  (first | (go_at_call 138; refine (plus_ref (U32.below hx (by exact (below3 _ _ _ _).drew)) (U32.below hy (by exact (below3 _ _ _ _).drew)) (D_lt _) (D_lt _) hn hm).mono ?_; rintro e w2 ⟨A1, k1, c1, os, rfl, hU, hdo, hk1, hv, hb⟩; clear hk1; obtain ⟨t0, t1, t2, hbw2, hs⟩ := boxes3 (undrew hb); rw [val_D, val_D] at hv) | (go_at_call 97; refine (norm_ref hU hdo).mono ?_; rintro e w3 ⟨rfl, hz, hb3⟩; have r0 := t0.below hb3 t0.lt; have r1 := t1.below hb3 t1.lt; have r2 := t2.below hb3 t2.lt; have hc0 := r2.c0; have hc1 := r2.c1; have hf0 := r2.f 0; have hf1 := r2.f 1; have hs2 := r2.lt))
 go_wp2
 rw [hv] at hz
 rw [HE.out] at hz ⊢
 exact bodyPost_ret (v := .agg #[.bool (neg (x + y)), .slice A1 (dl (x + y)) c1]) (by simp [results, Tryd.results104, go_sem, hc0, hc1]) rfl ⟨_, rfl, ⟨_, _, rfl, U32.store2 hz hc0 hc1 _ _⟩, below_store2 (thru hbw2 hb3) (by omega) _ _⟩
theorem add_lt_r {A B : Option Addr} {c d : Nat} {x y : Int} {w : World} (hx : RIn w A c x) (hy : RIn w B d y) (hm : dl y ≤ 1000000) (bx : Bool) (HE : Hid (sg (!bx) (y.natAbs - x.natAbs) = x + y)) (hlt : x.natAbs < y.natAbs) :
  Calls Tryd.prog 104 #[.agg #[.bool bx, .slice A (dl x) c], .agg #[.bool !bx, .slice B (dl y) d]] w fun e w' => ∃ v, e = .returned v ∧ RAt w' v (x + y) ∧ Below w.heap.size w w' := by
 have hcb : ¬ 0 ≤ cmpI x.natAbs y.natAbs := by have := (cmpI_neg x.natAbs y.natAbs).2 hlt; omega
 have hbd := cmpI_bd x.natAbs y.natAbs
 have ht : (bx == !bx) = false := by cases bx <;> rfl
 go_enter Tryd.func104, Tryd.ntmps104
 go_wp2_with fail
 refine (size_ref' (U32.below hx (by exact (below3 _ _ _ _))) (U32.below hy (by exact (below3 _ _ _ _)))).mono ?_
 rintro e w1 ⟨rfl, hb⟩
 obtain ⟨q0, q1, q2, hbw, hs⟩ := boxes3 hb
 have a0 := q0.c0
 have a1 := q0.c1
 have a2 := q1.c0
 have a3 := q1.c1
 clear hb
 go_wp2_with fail
 go_region_held3 (fun w' => w'.cell? ⟨w.heap.size, 0, none⟩ = some (.bool bx) ∧ w'.cell? ⟨w.heap.size, 1, none⟩ = some (.slice A (dl x) c) ∧ w'.cell? ⟨w.heap.size + 1, 0, none⟩ = some (.bool !bx) ∧ w'.cell? ⟨w.heap.size + 1, 1, none⟩ = some (.slice B (dl y) d)) (first | exact ⟨q0.c0, q0.c1, q1.c0, q1.c1⟩ | exact ⟨t0.c0, t0.c1, t1.c0, t1.c1⟩ | exact ⟨r0.c0, r0.c1, r1.c0, r1.c1⟩ | exact ⟨(r0.far2 (by omega) _ _).c0, (r0.far2 (by omega) _ _).c1, (r1.far2 (by omega) _ _).c0, (r1.far2 (by omega) _ _).c1⟩ | go_keep)
  (first | (go_at_call 140; refine (minus_ref (U32.below hy (by exact hbw.drew)) (U32.below hx (by exact hbw.drew)) (D_lt _) (D_lt _) hm (by rw [val_D, val_D]; omega)).mono ?_; rintro e w2 ⟨A1, c1, os, rfl, hU, hdo, hv, _, hb⟩; have t0 := q0.below (undrew hb) q0.lt; have t1 := q1.below (undrew hb) q1.lt; have t2 := q2.below (undrew hb) q2.lt; have hbw2 := thru hbw (undrew hb); rw [val_D, val_D] at hv) | (go_at_call 97; refine (norm_ref hU hdo).mono ?_; rintro e w3 ⟨rfl, hz, hb3⟩; have r0 := t0.below hb3 t0.lt; have r1 := t1.below hb3 t1.lt; have r2 := t2.below hb3 t2.lt; have hc0 := r2.c0; have hc1 := r2.c1; have hf0 := r2.f 0; have hf1 := r2.f 1; have hs2 := r2.lt))
 go_wp2
 rw [hv] at hz
 rw [HE.out] at hz ⊢
 exact bodyPost_ret (v := .agg #[.bool (neg (x + y)), .slice A1 (dl (x + y)) c1]) (by simp [results, Tryd.results104, go_sem, hc0, hc1]) rfl ⟨_, rfl, ⟨_, _, rfl, U32.store2 hz hc0 hc1 _ _⟩, below_store2 (thru hbw2 hb3) (by omega) _ _⟩
theorem add_ge_r {A B : Option Addr} {c d : Nat} {x y : Int} {w : World} (hx : RIn w A c x) (hy : RIn w B d y) (hn : dl x ≤ 1000000) (bx : Bool) (HE : Hid (sg bx (x.natAbs - y.natAbs) = x + y)) (hlt : ¬ x.natAbs < y.natAbs) :
  Calls Tryd.prog 104 #[.agg #[.bool bx, .slice A (dl x) c], .agg #[.bool !bx, .slice B (dl y) d]] w fun e w' => ∃ v, e = .returned v ∧ RAt w' v (x + y) ∧ Below w.heap.size w w' := by
 have hcb : 0 ≤ cmpI x.natAbs y.natAbs := by
  rcases Int.lt_or_le (cmpI x.natAbs y.natAbs) 0 with h | h
  ·exact absurd ((cmpI_neg x.natAbs y.natAbs).1 h) hlt
  ·exact h
 have hbd := cmpI_bd x.natAbs y.natAbs
 have ht : (bx == !bx) = false := by cases bx <;> rfl
 go_enter Tryd.func104, Tryd.ntmps104
 go_wp2_with fail
 refine (size_ref' (U32.below hx (by exact (below3 _ _ _ _))) (U32.below hy (by exact (below3 _ _ _ _)))).mono ?_
 rintro e w1 ⟨rfl, hb⟩
 obtain ⟨q0, q1, q2, hbw, hs⟩ := boxes3 hb
 have a0 := q0.c0
 have a1 := q0.c1
 have a2 := q1.c0
 have a3 := q1.c1
 clear hb
 go_wp2_with fail
 go_region_held3 (fun w' => w'.cell? ⟨w.heap.size, 0, none⟩ = some (.bool bx) ∧ w'.cell? ⟨w.heap.size, 1, none⟩ = some (.slice A (dl x) c) ∧ w'.cell? ⟨w.heap.size + 1, 0, none⟩ = some (.bool !bx) ∧ w'.cell? ⟨w.heap.size + 1, 1, none⟩ = some (.slice B (dl y) d)) (first | exact ⟨q0.c0, q0.c1, q1.c0, q1.c1⟩ | exact ⟨t0.c0, t0.c1, t1.c0, t1.c1⟩ | exact ⟨r0.c0, r0.c1, r1.c0, r1.c1⟩ | exact ⟨(r0.far2 (by omega) _ _).c0, (r0.far2 (by omega) _ _).c1, (r1.far2 (by omega) _ _).c0, (r1.far2 (by omega) _ _).c1⟩ | go_keep)
  (first | (go_at_call 140; refine (minus_ref (U32.below hx (by exact hbw.drew)) (U32.below hy (by exact hbw.drew)) (D_lt _) (D_lt _) hn (by rw [val_D, val_D]; omega)).mono ?_; rintro e w2 ⟨A1, c1, os, rfl, hU, hdo, hv, _, hb⟩; have t0 := q0.below (undrew hb) q0.lt; have t1 := q1.below (undrew hb) q1.lt; have t2 := q2.below (undrew hb) q2.lt; have hbw2 := thru hbw (undrew hb); rw [val_D, val_D] at hv) | (go_at_call 97; refine (norm_ref hU hdo).mono ?_; rintro e w3 ⟨rfl, hz, hb3⟩; have r0 := t0.below hb3 t0.lt; have r1 := t1.below hb3 t1.lt; have r2 := t2.below hb3 t2.lt; have hc0 := r2.c0; have hc1 := r2.c1; have hf0 := r2.f 0; have hf1 := r2.f 1; have hs2 := r2.lt))
 go_wp2
 rw [hv] at hz
 rw [HE.out] at hz ⊢
 exact bodyPost_ret (v := .agg #[.bool (neg (x + y)), .slice A1 (dl (x + y)) c1]) (by simp [results, Tryd.results104, go_sem, hc0, hc1]) rfl ⟨_, rfl, ⟨_, _, rfl, U32.store2 hz hc0 hc1 _ _⟩, below_store2 (thru hbw2 hb3) (by omega) _ _⟩
theorem add_r {A B : Option Addr} {c d : Nat} {x y : Int} {w : World} (hx : RIn w A c x) (hy : RIn w B d y) (hn : dl x ≤ 1000000) (hm : dl y ≤ 1000000) :
  Calls Tryd.prog 104 #[.agg #[.bool (neg x), .slice A (dl x) c], .agg #[.bool (neg y), .slice B (dl y) d]] w fun e w' => ∃ v, e = .returned v ∧ RAt w' v (x + y) ∧ Below w.heap.size w w' := by
 by_cases h : neg x = neg y
 ·rw [← h]
  exact add_same_r hx hy hn hm (neg x) (sg_add x y h)
 ·have h2 : neg y = !neg x := by cases h3 : neg x <;> cases h4 : neg y <;> simp_all
  rw [h2]
  by_cases hlt : x.natAbs < y.natAbs
  ·refine add_lt_r hx hy hm (neg x) ?_ hlt
   rw [← h2, sg_sub y x (fun h3 => h h3.symm) (by omega), Int.add_comm]
   exact rfl
  ·exact add_ge_r hx hy hn (neg x) (sg_sub x y h (by omega)) hlt
theorem sub_r {A B : Option Addr} {c d : Nat} {x y : Int} {w : World} (hx : RIn w A c x) (hy : RIn w B d y) (hn : dl x ≤ 1000000) (hm : dl y ≤ 1000000) :
  Calls Tryd.prog 164 #[.agg #[.bool (neg x), .slice A (dl x) c], .agg #[.bool (neg y), .slice B (dl y) d]] w fun e w' => ∃ v, e = .returned v ∧ RAt w' v (x - y) ∧ Below w.heap.size w w' := by
 go_enter Tryd.func164, Tryd.ntmps164
 go_wp2_with fail
 go_region_held3 (fun w' => w'.cell? ⟨w.heap.size, 0, none⟩ = some (.bool (neg x)) ∧ w'.cell? ⟨w.heap.size, 1, none⟩ = some (.slice A (dl x) c) ∧ w'.cell? ⟨w.heap.size + 1, 0, none⟩ = some (.bool (neg y)) ∧ w'.cell? ⟨w.heap.size + 1, 1, none⟩ = some (.slice B (dl y) d)) (first | exact ⟨q0.c0, q0.c1, q1.c0, q1.c1⟩ | exact ⟨r0.c0, r0.c1, r1.c0, r1.c1⟩ | exact ⟨(r0.far2 (by omega) _ _).c0, (r0.far2 (by omega) _ _).c1, (r1.far2 (by omega) _ _).c0, (r1.far2 (by omega) _ _).c1⟩ | go_keep)
  (first | (go_at_call 128; refine (neg_r (RIn.below hy (by exact (below3 _ _ _ _).drew))).mono ?_; rintro e w1 ⟨v, rfl, ⟨A1, c1, rfl, hz1⟩, hb⟩; obtain ⟨q0, q1, q2, hbw, hs⟩ := boxes3 (undrew hb)) | (go_at_call 104; refine (add_r (RIn.below hx hbw) hz1 hn (by rw [dl_neg]; exact hm)).mono ?_; rintro e w2 ⟨v2, rfl, ⟨A2, c2, rfl, hz2⟩, hb2⟩; have r0 := q0.below hb2 q0.lt; have r1 := q1.below hb2 q1.lt; have r2 := q2.below hb2 q2.lt; have hc0 := r2.c0; have hc1 := r2.c1; have hf0 := r2.f 0; have hf1 := r2.f 1; have hs2 : w.heap.size + 1 + 1 < w2.heap.size := by have := hb2.size; omega))
 go_wp2
 rw [← Int.sub_eq_add_neg] at hz2 ⊢
 exact bodyPost_ret (v := .agg #[.bool (neg (x - y)), .slice A2 (dl (x - y)) c2]) (by simp [results, Tryd.results164, go_sem, hc0, hc1]) rfl ⟨_, rfl, ⟨_, _, rfl, U32.store2 hz2 hc0 hc1 _ _⟩, below_store2 (thru hbw hb2) (by omega) _ _⟩
theorem sign_bd (z : Int) : -1 ≤ z.sign ∧ z.sign ≤ 1 := by
 rcases Int.lt_trichotomy z 0 with h | h | h
 ·rw [Int.sign_eq_neg_one_of_neg h]; omega
 ·subst h; simp
 ·rw [Int.sign_eq_one_of_pos h]; omega
def halves (xs : List Nat) : List Nat := xs.flatMap fun x => [x % 65536, x / 65536]
def prs (ds : List Nat) (k : Nat) : List Nat := (List.range k).map fun j => ds.getD (2 * j) 0 + 65536 * ds.getD (2 * j + 1) 0
theorem D_pos {N : Nat} (h : 0 < N) : D N = (N % 65536) :: D (N / 65536) := dig_pos (by omega) h
theorem dn_le_of_lt {N k : Nat} (h : N < 65536 ^ k) : dn N ≤ k := dig_len_of_lt (by omega) h
theorem of_r {n : Int} {w : World} (h1 : -9223372036854775808 ≤ n) (h2 : n ≤ 9223372036854775807) :
  Calls Tryd.prog 29 #[.int .i64 n] w fun e w' => ∃ v, e = .returned v ∧ RAt w' v n ∧ Below w.heap.size w w' := by
 obtain ⟨N, hN⟩ : ∃ N, N = n.natAbs := ⟨_, rfl⟩
 have hNN : N < 18446744073709551616 := by omega
 have hdn : dn N ≤ 4 := dn_le_of_lt (by omega)
 have HN := Lib.hid hN
 have key : ∀ (b : Bool), b = decide (n < 0) → sg b N = n := by
  intro b hb
  subst hb hN
  by_cases h : n < 0 <;> simp [sg, h] <;> omega
 by_cases hn : n < 0
 ·have hw : IntKind.u64.wrap (-IntKind.u64.wrap n) = (N : Int) := by rw [IntKind.wrap_u64, IntKind.wrap_u64]; omega
  have HK := Lib.hid (key true (by simp [hn]))
  clear key hN
  go_enter Tryd.func29, Tryd.ntmps29
  go_wp2
  go_loopw [3, 4] (fun u o wr => ∃ (m : Nat) (os : List Nat), m ≤ N ∧ u = .int .u64 m ∧ Hid (D N = os ++ D m) ∧ Hid (Own (w.heap.size + 1) 141 wr o os) ∧ Hid (Below (w.heap.size + 1) (w.alloc (.cells #[.bool false, .slice none 0 0] 39)) wr)) (fun u _ _ => (intOf u).toNat)
  case atStart => exact ⟨N, [], Nat.le_refl _, rfl, by show D N = [] ++ D N; rfl, Own.nil _ _ _, Below.refl _ _⟩
  case round =>
   obtain ⟨m, os, hm, rfl, HD, HO, HW⟩ := hrel
   have hol : os.length ≤ 4 := by
    have h5 : (D N).length ≤ 4 := hdn
    rw [HD.out, List.length_append] at h5; omega
   by_cases hpos : 0 < m
   ·go_wp2_with (at_builtin; refine wpList_append_new _ rfl (.tmp 13) (.tmp 17) 23 rfl 141 4 Tryd.underlying23 info_u32 (w.heap.size + 1) _ os HO.out 1 _ [m % 65536] (by simp [nums]; try omega) rfl rfl rfl (by simp only [maxLen]; omega) (by omega) (by have := HW.out.size; simp at this; omega) ?_; intro v1 w1 hO1 hs1 hB1; have HO1 := Lib.hid hO1; have HB1 := Lib.hid (hB1 _ _ (Nat.le_refl _) HW.out); clear hO1 hB1)
    go_roundw
    case rel => exact ⟨m / 65536, os ++ [m % 65536], by omega, int_eq (by omega), by show D N = _; rw [HD.out, D_pos hpos]; simp, HO1.out, HB1.out⟩
    case measure => simp [intOf]; omega
   ·have hm0 : m = 0 := by omega
    have e : os = D N := by rw [HD.out, hm0, D_zero, List.append_nil]
    subst e
    clear HD
    obtain ⟨A1, c1, rfl, hU, hf⟩ := HO.out.u32 (wide (D_lt N))
    have q := (Box2.new w 39 (.bool false) (.slice none 0 0)).below HW.out (Nat.lt_succ_self _)
    go_wp2_with fail
    refine (norm_num' hU).mono ?_
    rintro e w2 ⟨rfl, hz, hb⟩
    have q2 := q.below hb q.lt
    have hc0 := q2.c0
    have hc1 := q2.c1
    have hf0 := q2.f 0
    have hf1 := q2.f 1
    have hs := q2.lt
    rw [HK.out] at hz ⊢
    go_wp2
    exact bodyPost_ret (v := .agg #[.bool (neg n), .slice A1 (dl n) c1]) (by simp [results, Tryd.results29, go_sem, hc0, hc1]) rfl
     ⟨_, rfl, ⟨_, _, rfl, U32.store2 hz hc0 hc1 _ _⟩, below_store2 (thru (w := w) (W := wr) ((below1 w _).trans (HW.out.mono (Nat.le_succ _))) hb) (Nat.le_refl _) _ _⟩
 ·obtain ⟨N', rfl⟩ : ∃ N' : Nat, n = (N' : Int) := ⟨n.natAbs, by omega⟩
  obtain rfl : N = N' := by omega
  have HK := Lib.hid (key false (by simp))
  clear key hN
  go_enter Tryd.func29, Tryd.ntmps29
  go_wp2
  go_loopw [3, 4] (fun u o wr => ∃ (m : Nat) (os : List Nat), m ≤ N ∧ u = .int .u64 m ∧ Hid (D N = os ++ D m) ∧ Hid (Own (w.heap.size + 1) 141 wr o os) ∧ Hid (Below (w.heap.size + 1) (w.alloc (.cells #[.bool false, .slice none 0 0] 39)) wr)) (fun u _ _ => (intOf u).toNat)
  case atStart => exact ⟨N, [], Nat.le_refl _, rfl, by show D N = [] ++ D N; rfl, Own.nil _ _ _, Below.refl _ _⟩
  case round =>
   obtain ⟨m, os, hm, rfl, HD, HO, HW⟩ := hrel
   have hol : os.length ≤ 4 := by
    have h5 : (D N).length ≤ 4 := hdn
    rw [HD.out, List.length_append] at h5; omega
   by_cases hpos : 0 < m
   ·go_wp2_with (at_builtin; refine wpList_append_new _ rfl (.tmp 13) (.tmp 17) 23 rfl 141 4 Tryd.underlying23 info_u32 (w.heap.size + 1) _ os HO.out 1 _ [m % 65536] (by simp [nums]; try omega) rfl rfl rfl (by simp only [maxLen]; omega) (by omega) (by have := HW.out.size; simp at this; omega) ?_; intro v1 w1 hO1 hs1 hB1; have HO1 := Lib.hid hO1; have HB1 := Lib.hid (hB1 _ _ (Nat.le_refl _) HW.out); clear hO1 hB1)
    go_roundw
    case rel => exact ⟨m / 65536, os ++ [m % 65536], by omega, int_eq (by omega), by show D N = _; rw [HD.out, D_pos hpos]; simp, HO1.out, HB1.out⟩
    case measure => simp [intOf]; omega
   ·have hm0 : m = 0 := by omega
    have e : os = D N := by rw [HD.out, hm0, D_zero, List.append_nil]
    subst e
    clear HD
    obtain ⟨A1, c1, rfl, hU, hf⟩ := HO.out.u32 (wide (D_lt N))
    have q := (Box2.new w 39 (.bool false) (.slice none 0 0)).below HW.out (Nat.lt_succ_self _)
    go_wp2_with fail
    rw [show decide ((N : Int) < 0) = false from by simp]
    refine (norm_num' hU).mono ?_
    rintro e w2 ⟨rfl, hz, hb⟩
    have q2 := q.below hb q.lt
    have hc0 := q2.c0
    have hc1 := q2.c1
    have hf0 := q2.f 0
    have hf1 := q2.f 1
    have hs := q2.lt
    rw [HK.out] at hz ⊢
    go_wp2
    exact bodyPost_ret (v := .agg #[.bool (neg (N : Int)), .slice A1 (dl (N : Int)) c1]) (by simp [results, Tryd.results29, go_sem, hc0, hc1]) rfl
     ⟨_, rfl, ⟨_, _, rfl, U32.store2 hz hc0 hc1 _ _⟩, below_store2 (thru (w := w) (W := wr) ((below1 w _).trans (HW.out.mono (Nat.le_succ _))) hb) (Nat.le_refl _) _ _⟩
def RowInv (ys os : List Nat) (n m k q cc x T : Nat) : Prop :=
 os.length = n + m + 1 ∧ AllLt 65536 os ∧ val 65536 os + 65536 ^ (k + q) * cc = T + 65536 ^ k * (x * val 65536 (ys.take q)) ∧
  (∀ j, k + m + 1 ≤ j → os.getD j 0 = 0) ∧ (q ≤ m → os.getD (k + m) 0 = 0) ∧ (q = m + 1 → cc = 0) ∧ q ≤ m + 1
theorem row_step {ys os : List Nat} {n m k q cc x T o y : Nat} (h : RowInv ys os n m k q cc x T) (hk : k < n) (hcc : cc < 65536) (hx : x < 65536) (hy : y < 65536) (hqm : q < m ∨ q = m ∧ y = 0) (hyy : ys.getD q 0 = y) (ho : os.getD (k + q) 0 = o) :
  RowInv ys (os.set (k + q) ((cc + o + x * y) % 65536)) n m k (q + 1) ((cc + o + x * y) / 65536) x T ∧ (cc + o + x * y) / 65536 < 65536 := by
 obtain ⟨h1, h2, h3, h4, h5, h6, h7⟩ := h
 have h8 := mul_step 65536 ys os k q cc x T (by omega) h3
 rw [hyy, ho] at h8
 have hol : o < 65536 := by rw [← ho]; exact h2.get (by omega) _
 have hmc := mul_carry 65536 cc x y o (by omega) hcc hx hy hol
 have e : cc + x * y + o = cc + o + x * y := by omega
 rw [e] at h8 hmc
 refine ⟨⟨by simpa using h1, h2.set _ (Nat.mod_lt _ (by omega)), h8, fun j hj => by rw [dset_ne (by omega)]; exact h4 j hj, fun hq => ?_, fun hq => ?_, by omega⟩, hmc.1⟩
 ·rw [dset_ne (by omega)]; exact h5 (by omega)
 ·have hqe : q = m := by omega
  have hy0 : y = 0 := by
   rcases hqm with h | h
   ·omega
   ·exact h.2
  have ho0 : o = 0 := by rw [← ho, hqe]; exact h5 (by omega)
  subst hy0 ho0
  rw [Nat.mul_zero]
  omega
set_option maxHeartbeats 800000 in
theorem mul_r {A B : Option Addr} {c d : Nat} {x y : Int} {w : World} (hx : RIn w A c x) (hy : RIn w B d y) (hn : dl x ≤ 1000000) (hm : dl y ≤ 1000000) :
  Calls Tryd.prog 105 #[.agg #[.bool (neg x), .slice A (dl x) c], .agg #[.bool (neg y), .slice B (dl y) d]] w fun e w' => ∃ v, e = .returned v ∧ RAt w' v (x * y) ∧ Below w.heap.size w w' := by
 have HS := Lib.hid (sg_mul x y)
 obtain ⟨n, hxn⟩ : ∃ n, n = dl x := ⟨_, rfl⟩
 obtain ⟨m, hym⟩ : ∃ m, m = dl y := ⟨_, rfl⟩
 obtain ⟨xs, hxs⟩ : ∃ xs, xs = D x.natAbs := ⟨_, rfl⟩
 obtain ⟨ys, hys⟩ : ∃ ys, ys = D y.natAbs := ⟨_, rfl⟩
 have ux : U32 w A n c xs := by rw [hxn, hxs]; exact hx
 have uy : U32 w B m d ys := by rw [hym, hys]; exact hy
 have dx : AllLt 65536 xs := by rw [hxs]; exact D_lt _
 have dy : AllLt 65536 ys := by rw [hys]; exact D_lt _
 have HX := Lib.hid hxs
 have HY := Lib.hid hys
 rw [← hxn, ← hym]
 rw [← hxn] at hn
 rw [← hym] at hm
 clear hx hy hxn hym hxs hys
 go_enter Tryd.func105, Tryd.ntmps105
 go_wp2_with (at_make; refine wpList_make_nums _ rfl _ _ 23 rfl 141 .u32 4 Tryd.underlying23 info_u32 _ _ _ _ (n + m + 1) rfl rfl (by omega) (by omega) (by omega) (by omega) ?_; intro w1 hA1 hB1 hz1)
 obtain ⟨q0, q1, q2, hbw, hs⟩ := boxes3 hB1
 rw [size3] at hA1
 have HA := Lib.hid hA1
 have HQ := Lib.hid (And.intro q0 (And.intro q1 (And.intro q2 hbw)))
 clear hA1 hB1 hz1 q0 q1 q2 hbw hs
 go_loopw [6] (fun i wr => ∃ (k : Nat) (os : List Nat), k ≤ n ∧ i = .int .i64 k ∧
   Hid (os.length = n + m + 1 ∧ AllLt 65536 os ∧ val 65536 os = val 65536 (xs.take k) * val 65536 ys ∧ ∀ j, k + m ≤ j → os.getD j 0 = 0) ∧
   Hid (Arr .u32 141 wr (w.heap.size + 1 + 1 + 1) os) ∧
   Hid (Box2 39 wr w.heap.size (.bool (neg x)) (.slice A n c) ∧ Box2 39 wr (w.heap.size + 1) (.bool (neg y)) (.slice B m d) ∧ Box2 39 wr (w.heap.size + 1 + 1) (.bool false) (.slice none 0 0) ∧ Below w.heap.size w wr)) (fun i _ => n - (intOf i).toNat)
 case atStart => exact ⟨0, _, Nat.zero_le _, rfl, ⟨by simp, AllLt.zeros (by omega) _, by rw [val_zeros]; simp, fun j _ => zeros_getD _ _⟩, HA.out, HQ.out⟩
 case round =>
  clear HA HQ
  obtain ⟨k, os, hk, rfl, HI, HR, HQ⟩ := hrel
  have a01 := HQ.out.1.c1
  have a11 := HQ.out.2.1.c1
  by_cases hlt : k < n
  ·go_wp2
   obtain ⟨wo, rfl⟩ : ∃ wo : World, wo = wr := ⟨_, rfl⟩
   have hxlt := dx.get (b := 65536) (by omega) k
   generalize hx : xs.getD k 0 = xk at hxlt
   have HXK := Lib.hid hx
   clear hx
   go_loopw [7, 8] (fun cy j wr => ∃ (q cc : Nat) (os : List Nat), q ≤ m + 1 ∧ j = .int .i64 q ∧ cy = .int .u64 cc ∧ cc < 65536 ∧
     Hid (RowInv ys os n m k q cc xk (val 65536 (xs.take k) * val 65536 ys)) ∧
     Hid (Arr .u32 141 wr (w.heap.size + 1 + 1 + 1) os) ∧
     Hid (Box2 39 wr w.heap.size (.bool (neg x)) (.slice A n c) ∧ Box2 39 wr (w.heap.size + 1) (.bool (neg y)) (.slice B m d) ∧ Box2 39 wr (w.heap.size + 1 + 1) (.bool false) (.slice none 0 0) ∧ Below w.heap.size w wr)) (fun _ j _ => m + 1 - (intOf j).toNat)
   case atStart => exact ⟨0, 0, os, by omega, rfl, rfl, by omega, ⟨HI.out.1, HI.out.2.1, by simp [HI.out.2.2.1], fun j hj => HI.out.2.2.2 j (by omega), fun _ => HI.out.2.2.2 _ (by omega), by omega, by omega⟩, HR.out, HQ.out⟩
   case round =>
    clear HI HR HQ a01 a11
    obtain ⟨q, cc, os, hq, rfl, rfl, hcc, HI, HR, HQ⟩ := hrel
    have a01 := HQ.out.1.c1
    have a11 := HQ.out.2.1.c1
    by_cases hqm : q < m
    ·obtain ⟨b1, off1, rfl, hw1, hcs1⟩ := ux.cells (by omega)
     have hcx := (HQ.out.2.2.2.cell (p := ⟨b1, off1 + k, none⟩) hw1).trans (hcs1 k hlt)
     rw [HXK.out] at hcx
     obtain ⟨b2, off2, rfl, hw2, hcs2⟩ := uy.cells (by omega)
     have hcy := (HQ.out.2.2.2.cell (p := ⟨b2, off2 + q, none⟩) hw2).trans (hcs2 q hqm)
     have hylt := dy.get (b := 65536) (by omega) q
     generalize hyq : ys.getD q 0 = yq at hcy hylt
     have HYQ := Lib.hid hyq
     clear hyq hcs1 hcs2
     have hco := HR.out.cell (k + q) (by rw [HI.out.1]; omega)
     have hfo := HR.out.frozen (k + q)
     have holt := HI.out.2.1.get (b := 65536) (by omega) (k + q)
     generalize ho : os.getD (k + q) 0 = o at hco holt
     have HO := Lib.hid ho
     clear ho
     have σ := row_step HI.out hlt hcc hxlt hylt (.inl hqm) HYQ.out HO.out
     have hdlt := σ.2
     have HST := Lib.hid σ.1
     clear σ
     have hxy : xk * yq ≤ 65535 * 65535 := Nat.mul_le_mul (by omega) (by omega)
     have hk0 : (0 : Int) ≤ (k : Int) := by omega
     have hk1 : (k : Int) < (n : Int) := by omega
     have hkt : ((k : Int)).toNat = k := by omega
     have hq0 : (0 : Int) ≤ (q : Int) := by omega
     have hq1 : (q : Int) < (m : Int) := by omega
     have hqt : ((q : Int)).toNat = q := by omega
     go_upto_region 11 with fail
     have v1 : IntKind.u64.wrap ((xk : Int) * yq) = (xk : Int) * yq := IntWalk.u64_in _ (by rw [← Int.natCast_mul]; omega)
     have v2 : IntKind.u64.wrap ((cc : Int) + o + (xk : Int) * yq) = (cc : Int) + o + (xk : Int) * yq := IntWalk.u64_in _ (by rw [← Int.natCast_mul]; omega)
     go_quiet (fail)
     clear v1 v2
     have R' : Arr .u32 141 (wr.drewN nq) (w.heap.size + 1 + 1 + 1) os := HR.out
     have Q' : Hid (Box2 39 (wr.drewN nq) w.heap.size (.bool (neg x)) (.slice (some ⟨b1, off1, none⟩) n c) ∧ Box2 39 (wr.drewN nq) (w.heap.size + 1) (.bool (neg y)) (.slice (some ⟨b2, off2, none⟩) m d) ∧ Box2 39 (wr.drewN nq) (w.heap.size + 1 + 1) (.bool false) (.slice none 0 0) ∧ Below w.heap.size w (wr.drewN nq)) := ⟨HQ.out.1, HQ.out.2.1, HQ.out.2.2.1, bdrewN HQ.out.2.2.2 nq⟩
     have RH := Lib.hid R'
     have hco' : (wr.drewN nq).cell? ⟨w.heap.size + 1 + 1 + 1, k + q, none⟩ = some (.int .u32 o) := hco
     have hfo' : (wr.drewN nq).frozen? ⟨w.heap.size + 1 + 1 + 1, k + q, none⟩ = false := hfo
     clear R' hco hfo hcx hcy a01 a11 HR HQ
     generalize wr.drewN nq = W2 at *
     go_wp2
     go_roundw
     case rel => exact ⟨q + 1, (cc + o + xk * yq) / 65536, os.set (k + q) ((cc + o + xk * yq) % 65536), by omega, by go_num, int_eq (by omega), hdlt, HST.out, RH.out.set' _ _ _ (by omega), Q'.out.1.far (by simp <;> omega) _, Q'.out.2.1.far (by simp <;> omega) _, Q'.out.2.2.1.far (by simp <;> omega) _, Q'.out.2.2.2.setCell (by simp <;> omega) _⟩
     case measure => simp [intOf] <;> omega
    ·by_cases hcz : 0 < cc
     ·have hqe : q = m := by
       have h7 := HI.out.2.2.2.2.2
       rcases Nat.lt_or_ge m q with h | h
       ·have := h7.1 (by omega); omega
       ·omega
      subst hqe
      have hco := HR.out.cell (k + q) (by rw [HI.out.1]; omega)
      have hfo := HR.out.frozen (k + q)
      have ho0 := HI.out.2.2.2.2.1 (Nat.le_refl _)
      rw [ho0] at hco
      have σ := row_step (y := 0) HI.out hlt hcc hxlt (by omega) (.inr ⟨rfl, rfl⟩) (getD_ge (by rw [uy.len]; exact Nat.le_refl _)) ho0
      rw [Nat.mul_zero, Nat.add_zero, Nat.add_zero] at σ
      have hdlt := σ.2
      have HST := Lib.hid σ.1
      clear σ ho0
      go_wp2
      go_roundw
      case rel => exact ⟨q + 1, cc / 65536, os.set (k + q) (cc % 65536), by omega, by go_num, int_eq (by omega), hdlt, HST.out, HR.out.set' _ _ _ (by omega), HQ.out.1.far (by simp <;> omega) _, HQ.out.2.1.far (by simp <;> omega) _, HQ.out.2.2.1.far (by simp <;> omega) _, HQ.out.2.2.2.setCell (by simp <;> omega) _⟩
      case measure => simp [intOf] <;> omega
     ·go_wp2
      go_roundw
      case rel =>
       have h3 := HI.out
       have hcz' : cc = 0 := by omega
       have hv := h3.2.2.1
       rw [hcz', Nat.mul_zero, Nat.add_zero, List.take_of_length_le (l := ys) (by rw [uy.len]; omega)] at hv
       exact ⟨k + 1, os, by omega, by go_num, ⟨h3.1, h3.2.1, by rw [hv, val_take_step, HXK.out, Nat.add_mul, Nat.mul_assoc], fun j hj => h3.2.2.2.1 j (by omega)⟩, HR.out, HQ.out⟩
      case measure => simp [intOf] <;> omega
  ·have h3 := HI.out
   have hv : val 65536 os = x.natAbs * y.natAbs := by
    rw [h3.2.2.1, List.take_of_length_le (by rw [ux.len]; omega), HX.out, HY.out, val_D, val_D]
   have HV := Lib.hid hv
   have hlt' := h3.2.1
   have hU := HR.out.u32 (wide h3.2.1) h3.1 (by simp only [maxLen]; omega)
   have a00 := HQ.out.1.c0
   have a10 := HQ.out.2.1.c0
   clear hv h3
   go_wp2_with fail
   refine (norm_ref hU hlt').mono ?_
   rintro e w2 ⟨rfl, hz, hb⟩
   have t2 := HQ.out.2.2.1.below hb HQ.out.2.2.1.lt
   have hc0 := t2.c0
   have hc1 := t2.c1
   have hf0 := t2.f 0
   have hf1 := t2.f 1
   have hs2 := t2.lt
   rw [HV.out, HS.out] at hz ⊢
   go_wp2
   exact bodyPost_ret (v := .agg #[.bool (neg (x * y)), .slice (some ⟨w.heap.size + 1 + 1 + 1, 0, none⟩) (dl (x * y)) (n + m + 1)]) (by simp [results, Tryd.results105, go_sem, hc0, hc1]) rfl
    ⟨_, rfl, ⟨_, _, rfl, U32.store2 hz hc0 hc1 _ _⟩, below_store2 (thru HQ.out.2.2.2 hb) (by omega) _ _⟩
theorem zl_zero : zl 0 = 0 := nl_zero
theorem dl_zero : dl 0 = 0 := dn_zero
theorem neg_zero : neg 0 = false := by unfold neg; simp
def flat (l : List (Bool × Option Addr × Nat × Nat)) : List Value := l.flatMap fun x => [.bool x.1, .slice x.2.1 x.2.2.1 x.2.2.2]
def Arg (w : World) (v : Value) (b : Bool) (A : Option Addr) (n c N : Nat) : Prop := v = .agg #[.bool b, .slice A n c] ∧ NumIn w A n c N
theorem lt_nl (N : Nat) : N < 4294967296 ^ nl N := lt_pow_dig (by omega) N
theorem lt_dn (N : Nat) : N < 65536 ^ dn N := lt_pow_dig (by omega) N
theorem nl_mono {N M : Nat} (h : N ≤ M) : nl N ≤ nl M := dig_len_le (by omega) h
theorem dn_mono {N M : Nat} (h : N ≤ M) : dn N ≤ dn M := dig_len_le (by omega) h
theorem len_add {b : Nat} (hb : 2 ≤ b) (N M i j : Nat) (h : N < b ^ i) (k : M < b ^ j) : N + M < b ^ (i + j + 1) := by
 have h1 : b ^ i ≤ b ^ (i + j) := Nat.pow_le_pow_right (by omega) (by omega)
 have h2 : b ^ j ≤ b ^ (i + j) := Nat.pow_le_pow_right (by omega) (by omega)
 have h3 := Nat.mul_le_mul_left (b ^ (i + j)) hb
 rw [Nat.pow_succ]; omega
theorem len_mul {b : Nat} (_hb : 2 ≤ b) (N M i j : Nat) (h : N < b ^ i) (k : M < b ^ j) : N * M < b ^ (i + j) := by
 rw [Nat.pow_add]
 exact Nat.mul_lt_mul'' h k
theorem nl_add (N M : Nat) : nl (N + M) ≤ nl N + nl M + 1 := nl_le_of_lt (len_add (by omega) _ _ _ _ (lt_nl N) (lt_nl M))
theorem nl_mul (N M : Nat) : nl (N * M) ≤ nl N + nl M := nl_le_of_lt (len_mul (by omega) _ _ _ _ (lt_nl N) (lt_nl M))
theorem dn_add (N M : Nat) : dn (N + M) ≤ dn N + dn M + 1 := dn_le_of_lt (len_add (by omega) _ _ _ _ (lt_dn N) (lt_dn M))
theorem dn_mul (N M : Nat) : dn (N * M) ≤ dn N + dn M := dn_le_of_lt (len_mul (by omega) _ _ _ _ (lt_dn N) (lt_dn M))
theorem zl_add (x y : Int) : zl (x + y) ≤ zl x + zl y + 1 := Nat.le_trans (nl_mono (Int.natAbs_add_le x y)) (nl_add _ _)
theorem zl_sub (x y : Int) : zl (x - y) ≤ zl x + zl y + 1 := by
 rw [Int.sub_eq_add_neg, ← zl_neg y]; exact zl_add x (-y)
theorem zl_mul (x y : Int) : zl (x * y) ≤ zl x + zl y := by unfold zl; rw [Int.natAbs_mul]; exact nl_mul _ _
theorem zl_abs (x : Int) : zl (x.natAbs : Int) = zl x := by unfold zl; rw [Int.natAbs_natCast]
theorem dl_add (x y : Int) : dl (x + y) ≤ dl x + dl y + 1 := Nat.le_trans (dn_mono (Int.natAbs_add_le x y)) (dn_add _ _)
theorem dl_mul (x y : Int) : dl (x * y) ≤ dl x + dl y := by unfold dl; rw [Int.natAbs_mul]; exact dn_mul _ _
theorem dl_abs (x : Int) : dl (x.natAbs : Int) = dl x := by unfold dl; rw [Int.natAbs_natCast]
theorem dl_small {n : Int} (h1 : -9223372036854775808 ≤ n) (h2 : n ≤ 9223372036854775807) : dl n ≤ 4 := dn_le_of_lt (by omega)
section
variable {x y c : Int}
end
structure ZList (w : World) (a : Option Addr) (k : Nat) (l : List (Int × Option Addr × Nat)) : Prop where
 len : l.length = k
 cells : 0 < k → ∃ G o, a = some ⟨G, o, none⟩ ∧ G < w.heap.size ∧ ∀ i (h : i < l.length), w.cell? ⟨G, o + i * 2, none⟩ = some (.bool (neg l[i].1)) ∧ w.cell? ⟨G, o + i * 2 + 1, none⟩ = some (.slice l[i].2.1 (zl l[i].1) l[i].2.2)
 nums : ∀ x ∈ l, ZIn w x.2.1 x.2.2 x.1
theorem ZList.below {w w' : World} {a : Option Addr} {k : Nat} {l : List (Int × Option Addr × Nat)} (h : ZList w a k l) (hb : Below w.heap.size w w') : ZList w' a k l :=
  ⟨h.len, fun hp => by
    obtain ⟨G, o, ha, hG, hc⟩ := h.cells hp
    exact ⟨G, o, ha, Nat.lt_of_lt_of_le hG hb.size, fun i hi => ⟨(hb.cell (p := ⟨G, o + i * 2, none⟩) hG).trans (hc i hi).1, (hb.cell (p := ⟨G, o + i * 2 + 1, none⟩) hG).trans (hc i hi).2⟩⟩,
   fun x hx => (h.nums x hx).below hb⟩
theorem ZList.nil (w : World) : ZList w none 0 [] := ⟨rfl, fun h => by omega, fun x hx => by cases hx⟩
def zsum (l : List (Int × Option Addr × Nat)) : Int := l.foldl (fun s x => s + x.1) 0
def zprod (l : List (Int × Option Addr × Nat)) : Int := l.foldl (fun s x => s * x.1) 1
end Go.Proofs.YtegglooojlheoaaDoor
