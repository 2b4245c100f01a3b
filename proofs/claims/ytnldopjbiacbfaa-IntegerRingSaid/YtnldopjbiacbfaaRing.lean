/- The walk of IntegerRing: whatever three numbers, the answer is true and nothing that was there is written. No condition. -/
import Derived.Test.YtnldopjbiacbfaaZl
import Derived.Deep.DeepCutAuto
namespace Go.Proofs.Ytnldopjbiacbfaa
open Go.RowKit Anv

theorem cmp_same {A B : Option Addr} {c d : Nat} {x y : Int} {w : World} (hx : ZIn w A c x) (hy : ZIn w B d y) (h : x = y) :
    Calls Try.prog 13 #[.agg #[.bool (neg x), .slice A (zl x) c], .agg #[.bool (neg y), .slice B (zl y) d]] w fun e w' => e = .returned (.int .i64 0) ∧ Below w.heap.size w w' := by
  refine (cmp_z hx hy).mono ?_
  rintro e w' ⟨rfl, hb⟩
  refine ⟨?_, hb⟩
  rw [h, Int.sub_self]; rfl

theorem sign_same {A : Option Addr} {c : Nat} {z : Int} {w : World} (h : z = 0) :
    Calls Try.prog 11 #[.agg #[.bool (neg z), .slice A (zl z) c]] w fun e w' => e = .returned (.int .i64 0) ∧ Below w.heap.size w w' := by
  refine (sign_z (z := z)).mono ?_
  rintro e w' ⟨rfl, hb⟩
  refine ⟨?_, hb⟩
  rw [h]; rfl

theorem make_some {b : Bool} {A : Option Addr} {n c : Nat} {xs : List Nat} {w : World} (h : U32 w A n c xs) (hn : n ≤ 60) :
    Calls Try.prog 28 #[.bool b, .slice A n c] w fun e w' => ∃ (x : Int) (A' : Option Addr) (c' : Nat), e = .returned (.agg #[.bool (neg x), .slice A' (zl x) c']) ∧ ZIn w' A' c' x ∧ zl x ≤ 60 ∧ Below w.heap.size w w' := by
  have h1 := val_lt h.lt
  rw [h.len] at h1
  have h2 := nl_le_of_lt h1
  refine (make_z ⟨xs, h, rfl⟩ (by omega)).mono ?_
  rintro e w' ⟨v, rfl, ⟨A', c', rfl, hz⟩, hb⟩
  exact ⟨_, A', c', rfl, hz, by rw [sg_zl]; omega, hb⟩

theorem zlist3 {w : World} {t : TypeId} {x y z : Int} {A B C : Option Addr} {c d e : Nat} (hx : ZIn w A c x) (hy : ZIn w B d y) (hz : ZIn w C e z) :
    ZList (w.alloc (.cells #[.bool (neg x), .slice A (zl x) c, .bool (neg y), .slice B (zl y) d, .bool (neg z), .slice C (zl z) e] t)) (some ⟨w.heap.size, 0, none⟩) 3 [(x, A, c), (y, B, d), (z, C, e)] := by
  refine ⟨rfl, fun _ => ⟨w.heap.size, 0, rfl, by simp, fun i hi => ?_⟩, fun q hq => ?_⟩
  · have hg := heap_alloc_new w (.cells #[.bool (neg x), .slice A (zl x) c, .bool (neg y), .slice B (zl y) d, .bool (neg z), .slice C (zl z) e] t)
    rw [cell_of_row _ _ _ _ _ _ hg, cell_of_row _ _ _ _ _ _ hg]
    match i, hi with
    | 0, _ => exact ⟨rfl, rfl⟩
    | 1, _ => exact ⟨rfl, rfl⟩
    | 2, _ => exact ⟨rfl, rfl⟩
  · simp only [List.mem_cons, List.not_mem_nil, or_false] at hq
    rcases hq with rfl | rfl | rfl
    · exact hx.below (below1 _ _)
    · exact hy.below (below1 _ _)
    · exact hz.below (below1 _ _)

theorem zsum3 (x y z : Int) (A B C : Option Addr) (c d e : Nat) : zsum [(x, A, c), (y, B, d), (z, C, e)] = x + y + z := by simp [zsum]
theorem zprod3 (x y z : Int) (A B C : Option Addr) (c d e : Nat) : zprod [(x, A, c), (y, B, d), (z, C, e)] = x * y * z := by simp [zprod]

theorem sub_to {A B : Option Addr} {c d : Nat} {x y z : Int} {w : World} (hx : ZIn w A c x) (hy : ZIn w B d y) (hn : zl x ≤ 1000000) (hm : zl y ≤ 1000000) (h : x - y = z) :
    Calls Try.prog 22 #[.agg #[.bool (neg x), .slice A (zl x) c], .agg #[.bool (neg y), .slice B (zl y) d]] w fun e w' => ∃ v, e = .returned v ∧ ZAt w' v z ∧ Below w.heap.size w w' := by
  rw [← h]; exact sub_z hx hy hn hm
theorem sum_nil {c : Nat} {w : World} : Calls Try.prog 29 #[.slice none 0 c] w fun e w' => ∃ v, e = .returned v ∧ ZAt w' v 0 ∧ Below w.heap.size w w' := sum_z (ZList.nil w) (by omega) (fun q hq => by cases hq)
theorem prod_nil {c : Nat} {w : World} : Calls Try.prog 30 #[.slice none 0 c] w fun e w' => ∃ v, e = .returned v ∧ ZAt w' v 1 ∧ Below w.heap.size w w' := prod_z (ZList.nil w) (by omega) (fun q hq => by cases hq)
theorem sum_three {w : World} {a : Option Addr} {m : Nat} {x y z : Int} {A B C : Option Addr} {c d e : Nat} (h : ZList w a 3 [(x, A, c), (y, B, d), (z, C, e)]) (hx : zl x ≤ 60) (hy : zl y ≤ 60) (hz : zl z ≤ 60) :
    Calls Try.prog 29 #[.slice a 3 m] w fun e w' => ∃ v, e = .returned v ∧ ZAt w' v (x + y + z) ∧ Below w.heap.size w w' := by
  rw [← zsum3 x y z A B C c d e]
  refine sum_z h (by omega) ?_
  intro q hq
  simp only [List.mem_cons, List.not_mem_nil, or_false] at hq
  rcases hq with rfl | rfl | rfl
  · exact Nat.le_trans hx (by omega)
  · exact Nat.le_trans hy (by omega)
  · exact Nat.le_trans hz (by omega)
theorem prod_three {w : World} {a : Option Addr} {m : Nat} {x y z : Int} {A B C : Option Addr} {c d e : Nat} (h : ZList w a 3 [(x, A, c), (y, B, d), (z, C, e)]) (hx : zl x ≤ 60) (hy : zl y ≤ 60) (hz : zl z ≤ 60) :
    Calls Try.prog 30 #[.slice a 3 m] w fun e w' => ∃ v, e = .returned v ∧ ZAt w' v (x * y * z) ∧ Below w.heap.size w w' := by
  rw [← zprod3 x y z A B C c d e]
  refine prod_z h (by omega) ?_
  intro q hq
  simp only [List.mem_cons, List.not_mem_nil, or_false] at hq
  rcases hq with rfl | rfl | rfl
  · exact Nat.le_trans hx (by omega)
  · exact Nat.le_trans hy (by omega)
  · exact Nat.le_trans hz (by omega)

structure At (w : World) (g : Nat) (x : Int) (A : Option Addr) (c : Nat) : Prop where
  b : Box2 28 w g (.bool (neg x)) (.slice A (zl x) c)
  z : ZIn w A c x
theorem At.c0 {w : World} {g : Nat} {x : Int} {A : Option Addr} {c : Nat} (h : At w g x A c) : w.cell? ⟨g, 0, none⟩ = some (.bool (neg x)) := h.b.c0
theorem At.c1 {w : World} {g : Nat} {x : Int} {A : Option Addr} {c : Nat} (h : At w g x A c) : w.cell? ⟨g, 1, none⟩ = some (.slice A (zl x) c) := h.b.c1
theorem At.below {w w' : World} {g : Nat} {x : Int} {A : Option Addr} {c : Nat} (h : At w g x A c) (hb : Below w.heap.size w w') : At w' g x A c := ⟨h.b.below hb h.b.lt, h.z.below hb⟩
theorem At.al {w : World} {g : Nat} {x : Int} {A : Option Addr} {c : Nat} (h : At w g x A c) (o : Obj) : At (w.alloc o) g x A c := h.below (below1 _ _)
theorem At.drw {w : World} {g : Nat} {x : Int} {A : Option Addr} {c : Nat} (h : At w g x A c) : At w.drew g x A c := h.below (Below.refl _ _).drew
theorem At.st {w : World} {g k : Nat} {x : Int} {A : Option Addr} {c : Nat} {t : TypeId} (h : At w g x A c) (hg : Box2 t w k (.bool false) (.slice none 0 0)) (hne : g ≠ k) (u u' : Value) : At ((w.setCell ⟨k, 0, none⟩ u).setCell ⟨k, 1, none⟩ u') g x A c := ⟨h.b.far2 hne u u', U32.store2 h.z hg.c0 hg.c1 _ _⟩
theorem At.mk2 {w : World} {k : Nat} {x : Int} {A : Option Addr} {c : Nat} (h : ZIn w A c x) (hg : Box2 28 w k (.bool false) (.slice none 0 0)) : At ((w.setCell ⟨k, 0, none⟩ (.bool (neg x))).setCell ⟨k, 1, none⟩ (.slice A (zl x) c)) k x A c := ⟨hg.put _ _, U32.store2 h hg.c0 hg.c1 _ _⟩

set_option maxRecDepth 100000 in
set_option maxHeartbeats 8000000 in
theorem ring_short {b0 b1 b2 : Bool} {A0 A1 A2 : Option Addr} {n0 n1 n2 c0 c1 c2 : Nat} {xs0 xs1 xs2 : List Nat} {w : World} (h0 : U32 w A0 n0 c0 xs0) (h1 : U32 w A1 n1 c1 xs1) (h2 : U32 w A2 n2 c2 xs2) (hs0 : n0 ≤ 60) (hs1 : n1 ≤ 60) (hs2 : n2 ≤ 60) :
    Calls Try.prog 4 #[.agg #[.bool b0, .slice A0 n0 c0], .agg #[.bool b1, .slice A1 n1 c1], .agg #[.bool b2, .slice A2 n2 c2]] w fun e w' => e = .returned (.bool true) ∧ Below w.heap.size w w' := by
  go_enter Try.func4, Try.ntmps4
  go_wp2_with fail
  refine (live_true _).mono ?_
  rintro e w1 ⟨rfl, hb⟩
  obtain ⟨q0, q1, q2, bw, hs⟩ := boxes3 hb
  clear hb hs
  have a0 := q0.c0
  have a1 := q0.c1
  have a2 := q1.c0
  have a3 := q1.c1
  have a4 := q2.c0
  have a5 := q2.c1
  go_wp2_with fail
  refine (long3 (Nat.le_trans h0.cap h0.big) (Nat.le_trans h1.cap h1.big) (Nat.le_trans h2.cap h2.big) false (by simp; omega)).mono ?_
  rintro e w2 ⟨rfl, hb⟩
  replace q0 := q0.below hb q0.lt
  replace q1 := q1.below hb q1.lt
  replace q2 := q2.below hb q2.lt
  replace bw := thru bw hb
  clear a0 a1 a2 a3 a4 a5 hb
  have a0 := q0.c0
  have a1 := q0.c1
  go_wp2_with fail
  refine (make_some (h0.below bw) hs0).mono ?_
  rintro e w3 ⟨x, A7, c7, rfl, zx, lx, hb⟩
  replace q1 := (q1.below hb q1.lt).alloc (.cells #[.bool (neg x), .slice A7 (zl x) c7] 28)
  replace q2 := (q2.below hb q2.lt).alloc (.cells #[.bool (neg x), .slice A7 (zl x) c7] 28)
  have k7 := Box2.new w3 28 (.bool (neg x)) (.slice A7 (zl x) c7)
  replace bw := (thru bw hb).alloc (thru bw hb).size (.cells #[.bool (neg x), .slice A7 (zl x) c7] 28)
  replace zx := zx.below (below1 w3 (.cells #[.bool (neg x), .slice A7 (zl x) c7] 28))
  clear a0 a1 hb q0
  have a0 := q1.c0
  have a1 := q1.c1
  go_wp2_with fail
  refine (make_some (h1.below bw) hs1).mono ?_
  rintro e w4 ⟨y, A8, c8, rfl, zy, ly, hb⟩
  replace q2 := (q2.below hb q2.lt).alloc (.cells #[.bool (neg y), .slice A8 (zl y) c8] 28)
  replace k7 := (k7.below hb k7.lt).alloc (.cells #[.bool (neg y), .slice A8 (zl y) c8] 28)
  have k8 := Box2.new w4 28 (.bool (neg y)) (.slice A8 (zl y) c8)
  replace bw := (thru bw hb).alloc (thru bw hb).size (.cells #[.bool (neg y), .slice A8 (zl y) c8] 28)
  replace zx := (zx.below hb).below (below1 w4 (.cells #[.bool (neg y), .slice A8 (zl y) c8] 28))
  replace zy := zy.below (below1 w4 (.cells #[.bool (neg y), .slice A8 (zl y) c8] 28))
  clear a0 a1 hb q1
  have a0 := q2.c0
  have a1 := q2.c1
  go_wp2_with fail
  refine (make_some (h2.below bw) hs2).mono ?_
  rintro e w5 ⟨z, A9, c9, rfl, zz, lz, hb⟩
  replace k7 := (k7.below hb k7.lt).alloc (.cells #[.bool (neg z), .slice A9 (zl z) c9] 28)
  replace k8 := (k8.below hb k8.lt).alloc (.cells #[.bool (neg z), .slice A9 (zl z) c9] 28)
  have k9 := Box2.new w5 28 (.bool (neg z)) (.slice A9 (zl z) c9)
  replace bw := (thru bw hb).alloc (thru bw hb).size (.cells #[.bool (neg z), .slice A9 (zl z) c9] 28)
  replace zx := (zx.below hb).below (below1 w5 (.cells #[.bool (neg z), .slice A9 (zl z) c9] 28))
  replace zy := (zy.below hb).below (below1 w5 (.cells #[.bool (neg z), .slice A9 (zl z) c9] 28))
  replace zz := zz.below (below1 w5 (.cells #[.bool (neg z), .slice A9 (zl z) c9] 28))
  clear a0 a1 hb q2
  replace k7 : At _ _ _ _ _ := ⟨k7, zx⟩
  replace k8 : At _ _ _ _ _ := ⟨k8, zy⟩
  replace k9 : At _ _ _ _ _ := ⟨k9, zz⟩
  clear zx zy zz
  go_upto_region 8 with fail
  generalize w5.alloc (.cells #[.bool (neg z), .slice A9 (zl z) c9] 28) = W at *
  go_cut [10] (fun s wx => ∃ (g : Nat) (A : Option Addr) (c : Nat), s = .pointer (some ⟨g, 0, none⟩) ∧ At wx g (x + y + z) A c ∧ At wx w3.heap.size x A7 c7 ∧ At wx w4.heap.size y A8 c8 ∧ At wx w5.heap.size z A9 c9 ∧ Below w.heap.size w wx)
  case first =>
    have jk7 := (k7.al (.cells #[.bool false, .slice none 0 0] 28)).drw
    replace k7 := k7.drw
    have jk8 := (k8.al (.cells #[.bool false, .slice none 0 0] 28)).drw
    replace k8 := k8.drw
    have jk9 := (k9.al (.cells #[.bool false, .slice none 0 0] 28)).drw
    replace k9 := k9.drw
    have jbw := (bw.alloc bw.size (.cells #[.bool false, .slice none 0 0] 28)).drew
    replace bw : Below w.heap.size w W.drew := bw.drew
    go_region_held3 (fun w' => w'.cell? ⟨w3.heap.size, 0, none⟩ = some (.bool (neg x)) ∧ w'.cell? ⟨w3.heap.size, 1, none⟩ = some (.slice A7 (zl x) c7) ∧ w'.cell? ⟨w4.heap.size, 0, none⟩ = some (.bool (neg y)) ∧ w'.cell? ⟨w4.heap.size, 1, none⟩ = some (.slice A8 (zl y) c8) ∧ w'.cell? ⟨w5.heap.size, 0, none⟩ = some (.bool (neg z)) ∧ w'.cell? ⟨w5.heap.size, 1, none⟩ = some (.slice A9 (zl z) c9)) (first | (with_reducible exact ⟨k7.c0, k7.c1, k8.c0, k8.c1, k9.c0, k9.c1⟩) | (with_reducible exact ⟨(k7.al _).c0, (k7.al _).c1, (k8.al _).c0, (k8.al _).c1, (k9.al _).c0, (k9.al _).c1⟩) | (with_reducible exact ⟨jk7.c0, jk7.c1, jk8.c0, jk8.c1, jk9.c0, jk9.c1⟩) | (with_reducible exact ⟨(k7.st kn nk7 _ _).c0, (k7.st kn nk7 _ _).c1, (k8.st kn nk8 _ _).c0, (k8.st kn nk8 _ _).c1, (k9.st kn nk9 _ _).c0, (k9.st kn nk9 _ _).c1⟩) | go_keep)
      (first | (go_at_call 20; (with_reducible refine (add_z k7.z k8.z (by omega) (by omega)).mono ?_); rintro e wn ⟨v, rfl, ⟨B1, d1, rfl, za⟩, hb⟩; replace k7 := k7.below hb; replace k8 := k8.below hb; replace k9 := k9.below hb; replace bw := thru bw hb; clear hb) | (go_at_call 20; (with_reducible refine (add_z jk7.z jk8.z (by omega) (by omega)).mono ?_); rintro e wn ⟨v, rfl, ⟨B1, d1, rfl, za⟩, hb⟩; have kn : Box2 28 (W.alloc (.cells #[.bool false, .slice none 0 0] 28)).drew W.heap.size (.bool false) (.slice none 0 0) := (Box2.new W 28 (.bool false) (.slice none 0 0)); have nk7 : w3.heap.size ≠ W.heap.size := Nat.ne_of_lt k7.b.lt; have nk8 : w4.heap.size ≠ W.heap.size := Nat.ne_of_lt k8.b.lt; have nk9 : w5.heap.size ≠ W.heap.size := Nat.ne_of_lt k9.b.lt; have nw : w.heap.size ≤ W.heap.size := bw.size; replace kn := kn.below hb kn.lt; replace k7 := jk7.below hb; replace k8 := jk8.below hb; replace k9 := jk9.below hb; replace bw := thru jbw hb; clear hb) | (go_at_call 20; (with_reducible refine (add_z za k9.z (by have := zl_add x y; omega) (by omega)).mono ?_); rintro e wm ⟨v, rfl, ⟨B2, d2, rfl, zs⟩, hb⟩; (try (replace kn := kn.below hb kn.lt; have e0 := kn.c0; have e1 := kn.c1; have e2 := kn.f 0; have e3 := kn.f 1)); replace k7 := k7.below hb; replace k8 := k8.below hb; replace k9 := k9.below hb; replace bw := thru bw hb; clear hb za) | (go_at_call 20; (with_reducible refine (add_z (za.below (below1 _ (.cells #[.bool false, .slice none 0 0] 28))) (k9.al _).z (by have := zl_add x y; omega) (by omega)).mono ?_); rintro e wm ⟨v, rfl, ⟨B2, d2, rfl, zs⟩, hb⟩; have kn := (Box2.new wn 28 (.bool false) (.slice none 0 0)); have nk7 : w3.heap.size ≠ wn.heap.size := Nat.ne_of_lt k7.b.lt; have nk8 : w4.heap.size ≠ wn.heap.size := Nat.ne_of_lt k8.b.lt; have nk9 : w5.heap.size ≠ wn.heap.size := Nat.ne_of_lt k9.b.lt; have nw : w.heap.size ≤ wn.heap.size := bw.size; replace kn := kn.below hb kn.lt; have e0 := kn.c0; have e1 := kn.c1; have e2 := kn.f 0; have e3 := kn.f 1; replace k7 := (k7.al (.cells #[.bool false, .slice none 0 0] 28)).below hb; replace k8 := (k8.al (.cells #[.bool false, .slice none 0 0] 28)).below hb; replace k9 := (k9.al (.cells #[.bool false, .slice none 0 0] 28)).below hb; replace bw := thru (bw.alloc bw.size (.cells #[.bool false, .slice none 0 0] 28)) hb; clear hb za))
    all_goals (go_wp2_with fail)
    all_goals go_meet
    all_goals first
      | exact ⟨_, _, _, rfl, At.mk2 zs kn, k7.st kn nk7 _ _, k8.st kn nk8 _ _, k9.st kn nk9 _ _, below_store2 bw nw _ _⟩
      | exact ⟨_, _, _, rfl, ⟨Box2.new _ _ _ _, zs.below (below1 _ _)⟩, k7.al _, k8.al _, k9.al _, bw.alloc bw.size _⟩
  case rest =>
  clear k7 k8 k9 bw
  obtain ⟨g10, A10, c10, rfl, k10, k7, k8, k9, bw⟩ := hcut
  go_upto_region 9 with fail
  go_cut [11] (fun s wx => ∃ (g : Nat) (A : Option Addr) (c : Nat), s = .pointer (some ⟨g, 0, none⟩) ∧ At wx g (x * y * z) A c ∧ At wx w3.heap.size x A7 c7 ∧ At wx w4.heap.size y A8 c8 ∧ At wx w5.heap.size z A9 c9 ∧ At wx g10 (x + y + z) A10 c10 ∧ Below w.heap.size w wx)
  case first =>
    have jk7 := (k7.al (.cells #[.bool false, .slice none 0 0] 28)).drw
    replace k7 := k7.drw
    have jk8 := (k8.al (.cells #[.bool false, .slice none 0 0] 28)).drw
    replace k8 := k8.drw
    have jk9 := (k9.al (.cells #[.bool false, .slice none 0 0] 28)).drw
    replace k9 := k9.drw
    have jk10 := (k10.al (.cells #[.bool false, .slice none 0 0] 28)).drw
    replace k10 := k10.drw
    have jbw := (bw.alloc bw.size (.cells #[.bool false, .slice none 0 0] 28)).drew
    replace bw : Below w.heap.size w wc.drew := bw.drew
    go_region_held3 (fun w' => w'.cell? ⟨w3.heap.size, 0, none⟩ = some (.bool (neg x)) ∧ w'.cell? ⟨w3.heap.size, 1, none⟩ = some (.slice A7 (zl x) c7) ∧ w'.cell? ⟨w4.heap.size, 0, none⟩ = some (.bool (neg y)) ∧ w'.cell? ⟨w4.heap.size, 1, none⟩ = some (.slice A8 (zl y) c8) ∧ w'.cell? ⟨w5.heap.size, 0, none⟩ = some (.bool (neg z)) ∧ w'.cell? ⟨w5.heap.size, 1, none⟩ = some (.slice A9 (zl z) c9) ∧ w'.cell? ⟨g10, 0, none⟩ = some (.bool (neg (x + y + z))) ∧ w'.cell? ⟨g10, 1, none⟩ = some (.slice A10 (zl (x + y + z)) c10)) (first | (with_reducible exact ⟨k7.c0, k7.c1, k8.c0, k8.c1, k9.c0, k9.c1, k10.c0, k10.c1⟩) | (with_reducible exact ⟨(k7.al _).c0, (k7.al _).c1, (k8.al _).c0, (k8.al _).c1, (k9.al _).c0, (k9.al _).c1, (k10.al _).c0, (k10.al _).c1⟩) | (with_reducible exact ⟨jk7.c0, jk7.c1, jk8.c0, jk8.c1, jk9.c0, jk9.c1, jk10.c0, jk10.c1⟩) | (with_reducible exact ⟨(k7.st kn nk7 _ _).c0, (k7.st kn nk7 _ _).c1, (k8.st kn nk8 _ _).c0, (k8.st kn nk8 _ _).c1, (k9.st kn nk9 _ _).c0, (k9.st kn nk9 _ _).c1, (k10.st kn nk10 _ _).c0, (k10.st kn nk10 _ _).c1⟩) | go_keep)
      (first | (go_at_call 24; (with_reducible refine (mul_z k7.z k8.z (by omega) (by omega)).mono ?_); rintro e wn ⟨v, rfl, ⟨B1, d1, rfl, za⟩, hb⟩; replace k7 := k7.below hb; replace k8 := k8.below hb; replace k9 := k9.below hb; replace k10 := k10.below hb; replace bw := thru bw hb; clear hb) | (go_at_call 24; (with_reducible refine (mul_z jk7.z jk8.z (by omega) (by omega)).mono ?_); rintro e wn ⟨v, rfl, ⟨B1, d1, rfl, za⟩, hb⟩; have kn : Box2 28 (wc.alloc (.cells #[.bool false, .slice none 0 0] 28)).drew wc.heap.size (.bool false) (.slice none 0 0) := (Box2.new wc 28 (.bool false) (.slice none 0 0)); have nk7 : w3.heap.size ≠ wc.heap.size := Nat.ne_of_lt k7.b.lt; have nk8 : w4.heap.size ≠ wc.heap.size := Nat.ne_of_lt k8.b.lt; have nk9 : w5.heap.size ≠ wc.heap.size := Nat.ne_of_lt k9.b.lt; have nk10 : g10 ≠ wc.heap.size := Nat.ne_of_lt k10.b.lt; have nw : w.heap.size ≤ wc.heap.size := bw.size; replace kn := kn.below hb kn.lt; replace k7 := jk7.below hb; replace k8 := jk8.below hb; replace k9 := jk9.below hb; replace k10 := jk10.below hb; replace bw := thru jbw hb; clear hb) | (go_at_call 24; (with_reducible refine (mul_z za k9.z (by have := zl_mul x y; omega) (by omega)).mono ?_); rintro e wm ⟨v, rfl, ⟨B2, d2, rfl, zs⟩, hb⟩; (try (replace kn := kn.below hb kn.lt; have e0 := kn.c0; have e1 := kn.c1; have e2 := kn.f 0; have e3 := kn.f 1)); replace k7 := k7.below hb; replace k8 := k8.below hb; replace k9 := k9.below hb; replace k10 := k10.below hb; replace bw := thru bw hb; clear hb za) | (go_at_call 24; (with_reducible refine (mul_z (za.below (below1 _ (.cells #[.bool false, .slice none 0 0] 28))) (k9.al _).z (by have := zl_mul x y; omega) (by omega)).mono ?_); rintro e wm ⟨v, rfl, ⟨B2, d2, rfl, zs⟩, hb⟩; have kn := (Box2.new wn 28 (.bool false) (.slice none 0 0)); have nk7 : w3.heap.size ≠ wn.heap.size := Nat.ne_of_lt k7.b.lt; have nk8 : w4.heap.size ≠ wn.heap.size := Nat.ne_of_lt k8.b.lt; have nk9 : w5.heap.size ≠ wn.heap.size := Nat.ne_of_lt k9.b.lt; have nk10 : g10 ≠ wn.heap.size := Nat.ne_of_lt k10.b.lt; have nw : w.heap.size ≤ wn.heap.size := bw.size; replace kn := kn.below hb kn.lt; have e0 := kn.c0; have e1 := kn.c1; have e2 := kn.f 0; have e3 := kn.f 1; replace k7 := (k7.al (.cells #[.bool false, .slice none 0 0] 28)).below hb; replace k8 := (k8.al (.cells #[.bool false, .slice none 0 0] 28)).below hb; replace k9 := (k9.al (.cells #[.bool false, .slice none 0 0] 28)).below hb; replace k10 := (k10.al (.cells #[.bool false, .slice none 0 0] 28)).below hb; replace bw := thru (bw.alloc bw.size (.cells #[.bool false, .slice none 0 0] 28)) hb; clear hb za))
    all_goals (go_wp2_with fail)
    all_goals go_meet
    all_goals first
      | exact ⟨_, _, _, rfl, At.mk2 zs kn, k7.st kn nk7 _ _, k8.st kn nk8 _ _, k9.st kn nk9 _ _, k10.st kn nk10 _ _, below_store2 bw nw _ _⟩
      | exact ⟨_, _, _, rfl, ⟨Box2.new _ _ _ _, zs.below (below1 _ _)⟩, k7.al _, k8.al _, k9.al _, k10.al _, bw.alloc bw.size _⟩
  case rest =>
  clear k7 k8 k9 k10 bw
  obtain ⟨g11, A11, c11, rfl, k11, k7, k8, k9, k10, bw⟩ := hcut
  have k7e0 := k7.c0
  have k7e1 := k7.c1
  have k8e0 := k8.c0
  have k8e1 := k8.c1
  have k9e0 := k9.c0
  have k9e1 := k9.c1
  go_upto_region 11 with fail
  clear k7e0 k7e1 k8e0 k8e1 k9e0 k9e1
  have hl := zlist3 (t := 28) k9.z k7.z k8.z
  replace k7 := k7.al (.cells #[.bool (neg z), .slice A9 (zl z) c9, .bool (neg x), .slice A7 (zl x) c7, .bool (neg y), .slice A8 (zl y) c8] 28)
  replace k8 := k8.al (.cells #[.bool (neg z), .slice A9 (zl z) c9, .bool (neg x), .slice A7 (zl x) c7, .bool (neg y), .slice A8 (zl y) c8] 28)
  replace k9 := k9.al (.cells #[.bool (neg z), .slice A9 (zl z) c9, .bool (neg x), .slice A7 (zl x) c7, .bool (neg y), .slice A8 (zl y) c8] 28)
  replace k10 := k10.al (.cells #[.bool (neg z), .slice A9 (zl z) c9, .bool (neg x), .slice A7 (zl x) c7, .bool (neg y), .slice A8 (zl y) c8] 28)
  replace k11 := k11.al (.cells #[.bool (neg z), .slice A9 (zl z) c9, .bool (neg x), .slice A7 (zl x) c7, .bool (neg y), .slice A8 (zl y) c8] 28)
  replace bw := bw.alloc bw.size (.cells #[.bool (neg z), .slice A9 (zl z) c9, .bool (neg x), .slice A7 (zl x) c7, .bool (neg y), .slice A8 (zl y) c8] 28)
  generalize wc.alloc (.cells #[.bool (neg z), .slice A9 (zl z) c9, .bool (neg x), .slice A7 (zl x) c7, .bool (neg y), .slice A8 (zl y) c8] 28) = W3 at *
  have px : zl x ≤ 1000000 := by omega
  have py : zl y ≤ 1000000 := by omega
  have pz : zl z ≤ 1000000 := by omega
  have pzy : zl (z + y) ≤ 1000000 := by have := zl_add z y; omega
  have pmzy : zl (z * y) ≤ 1000000 := by have := zl_mul z y; omega
  have pyz : zl (y + z) ≤ 1000000 := by have := zl_add y z; omega
  have pmxy : zl (x * y) ≤ 1000000 := by have := zl_mul x y; omega
  have pmxz : zl (x * z) ≤ 1000000 := by have := zl_mul x z; omega
  have pxy : zl (x + y) ≤ 1000000 := by have := zl_add x y; omega
  have q1 := Lib.hid (show x + y + z = z + y + x by omega)
  have q2 := Lib.hid (show x + y + z = z + x + y by omega)
  have q3 := Lib.hid (show x * y * z = x * (z * y) by rw [Int.mul_assoc, Int.mul_comm z y])
  have q4 := Lib.hid (show x * y * z = z * x * y by rw [Int.mul_assoc z x y, Int.mul_comm z])
  have q5 := Lib.hid (show x * (y + z) = x * y + x * z from Int.mul_add x y z)
  have q6 := Lib.hid (show x - x = 0 by omega)
  have q7 := Lib.hid (show x + y - y = x by omega)
  replace k7 := k7.drw
  replace k8 := k8.drw
  replace k9 := k9.drw
  replace k10 := k10.drw
  replace k11 := k11.drw
  replace hl := hl.below (Below.refl _ _).drew
  replace bw := bw.drew
  go_region_held3 (fun w' => w'.cell? ⟨w3.heap.size, 0, none⟩ = some (.bool (neg x)) ∧ w'.cell? ⟨w3.heap.size, 1, none⟩ = some (.slice A7 (zl x) c7) ∧ w'.cell? ⟨w4.heap.size, 0, none⟩ = some (.bool (neg y)) ∧ w'.cell? ⟨w4.heap.size, 1, none⟩ = some (.slice A8 (zl y) c8) ∧ w'.cell? ⟨w5.heap.size, 0, none⟩ = some (.bool (neg z)) ∧ w'.cell? ⟨w5.heap.size, 1, none⟩ = some (.slice A9 (zl z) c9) ∧ w'.cell? ⟨g10, 0, none⟩ = some (.bool (neg (x + y + z))) ∧ w'.cell? ⟨g10, 1, none⟩ = some (.slice A10 (zl (x + y + z)) c10) ∧ w'.cell? ⟨g11, 0, none⟩ = some (.bool (neg (x * y * z))) ∧ w'.cell? ⟨g11, 1, none⟩ = some (.slice A11 (zl (x * y * z)) c11)) (first | (with_reducible exact ⟨k7.c0, k7.c1, k8.c0, k8.c1, k9.c0, k9.c1, k10.c0, k10.c1, k11.c0, k11.c1⟩) | go_keep)
    (first | (go_at_call 20; (with_reducible refine (add_z k9.z k8.z pz py).mono ?_); rintro e wn ⟨v, rfl, ⟨Ar52, cr52, rfl, r52⟩, hb⟩; replace k7 := k7.below hb; replace k8 := k8.below hb; replace k9 := k9.below hb; replace k10 := k10.below hb; replace k11 := k11.below hb; replace hl := hl.below hb; replace bw := thru bw hb; (try replace r54 := r54.below hb); (try replace r60 := r60.below hb); (try replace r69 := r69.below hb); (try replace r70 := r70.below hb); (try replace r77 := r77.below hb); clear hb) | (go_at_call 20; (with_reducible refine (add_z r52 k7.z pzy px).mono ?_); rintro e wn ⟨v, rfl, ⟨Ar54, cr54, rfl, r54⟩, hb⟩; replace k7 := k7.below hb; replace k8 := k8.below hb; replace k9 := k9.below hb; replace k10 := k10.below hb; replace k11 := k11.below hb; replace hl := hl.below hb; replace bw := thru bw hb; (try replace r52 := r52.below hb); (try replace r60 := r60.below hb); (try replace r69 := r69.below hb); (try replace r70 := r70.below hb); (try replace r77 := r77.below hb); clear hb) | (go_at_call 13; (with_reducible refine (cmp_same k10.z r54 q1.out).mono ?_); rintro e wn ⟨rfl, hb⟩; replace k7 := k7.below hb; replace k8 := k8.below hb; replace k9 := k9.below hb; replace k10 := k10.below hb; replace k11 := k11.below hb; replace hl := hl.below hb; replace bw := thru bw hb; (try replace r52 := r52.below hb); (try replace r54 := r54.below hb); (try replace r60 := r60.below hb); (try replace r69 := r69.below hb); (try replace r70 := r70.below hb); (try replace r77 := r77.below hb); clear hb) | (go_at_call 29; (with_reducible refine (sum_three hl lz lx ly).mono ?_); rintro e wn ⟨v, rfl, ⟨Ar60, cr60, rfl, r60⟩, hb⟩; replace k7 := k7.below hb; replace k8 := k8.below hb; replace k9 := k9.below hb; replace k10 := k10.below hb; replace k11 := k11.below hb; replace hl := hl.below hb; replace bw := thru bw hb; (try replace r52 := r52.below hb); (try replace r54 := r54.below hb); (try replace r69 := r69.below hb); (try replace r70 := r70.below hb); (try replace r77 := r77.below hb); clear hb) | (go_at_call 13; (with_reducible refine (cmp_same k10.z r60 q2.out).mono ?_); rintro e wn ⟨rfl, hb⟩; replace k7 := k7.below hb; replace k8 := k8.below hb; replace k9 := k9.below hb; replace k10 := k10.below hb; replace k11 := k11.below hb; replace hl := hl.below hb; replace bw := thru bw hb; (try replace r52 := r52.below hb); (try replace r54 := r54.below hb); (try replace r60 := r60.below hb); (try replace r69 := r69.below hb); (try replace r70 := r70.below hb); (try replace r77 := r77.below hb); clear hb) | (go_at_call 24; (with_reducible refine (mul_z k9.z k8.z pz py).mono ?_); rintro e wn ⟨v, rfl, ⟨Ar69, cr69, rfl, r69⟩, hb⟩; replace k7 := k7.below hb; replace k8 := k8.below hb; replace k9 := k9.below hb; replace k10 := k10.below hb; replace k11 := k11.below hb; replace hl := hl.below hb; replace bw := thru bw hb; (try replace r52 := r52.below hb); (try replace r54 := r54.below hb); (try replace r60 := r60.below hb); (try replace r70 := r70.below hb); (try replace r77 := r77.below hb); clear hb) | (go_at_call 24; (with_reducible refine (mul_z k7.z r69 px pmzy).mono ?_); rintro e wn ⟨v, rfl, ⟨Ar70, cr70, rfl, r70⟩, hb⟩; replace k7 := k7.below hb; replace k8 := k8.below hb; replace k9 := k9.below hb; replace k10 := k10.below hb; replace k11 := k11.below hb; replace hl := hl.below hb; replace bw := thru bw hb; (try replace r52 := r52.below hb); (try replace r54 := r54.below hb); (try replace r60 := r60.below hb); (try replace r69 := r69.below hb); (try replace r77 := r77.below hb); clear hb) | (go_at_call 13; (with_reducible refine (cmp_same k11.z r70 q3.out).mono ?_); rintro e wn ⟨rfl, hb⟩; replace k7 := k7.below hb; replace k8 := k8.below hb; replace k9 := k9.below hb; replace k10 := k10.below hb; replace k11 := k11.below hb; replace hl := hl.below hb; replace bw := thru bw hb; (try replace r52 := r52.below hb); (try replace r54 := r54.below hb); (try replace r60 := r60.below hb); (try replace r69 := r69.below hb); (try replace r70 := r70.below hb); (try replace r77 := r77.below hb); clear hb) | (go_at_call 30; (with_reducible refine (prod_three hl lz lx ly).mono ?_); rintro e wn ⟨v, rfl, ⟨Ar77, cr77, rfl, r77⟩, hb⟩; replace k7 := k7.below hb; replace k8 := k8.below hb; replace k9 := k9.below hb; replace k10 := k10.below hb; replace k11 := k11.below hb; replace hl := hl.below hb; replace bw := thru bw hb; (try replace r52 := r52.below hb); (try replace r54 := r54.below hb); (try replace r60 := r60.below hb); (try replace r69 := r69.below hb); (try replace r70 := r70.below hb); clear hb) | (go_at_call 13; (with_reducible refine (cmp_same k11.z r77 q4.out).mono ?_); rintro e wn ⟨rfl, hb⟩; replace k7 := k7.below hb; replace k8 := k8.below hb; replace k9 := k9.below hb; replace k10 := k10.below hb; replace k11 := k11.below hb; replace hl := hl.below hb; replace bw := thru bw hb; (try replace r52 := r52.below hb); (try replace r54 := r54.below hb); (try replace r60 := r60.below hb); (try replace r69 := r69.below hb); (try replace r70 := r70.below hb); (try replace r77 := r77.below hb); clear hb))
  clear k10 k11 hl r52 r54 r60 r69 r70 r77 q1 q2 q3 q4
  go_upto_region 13 with fail
  generalize wn = W4 at *
  replace k7 := k7.drw
  replace k8 := k8.drw
  replace k9 := k9.drw
  replace bw := bw.drew
  go_region_held3 (fun w' => w'.cell? ⟨w3.heap.size, 0, none⟩ = some (.bool (neg x)) ∧ w'.cell? ⟨w3.heap.size, 1, none⟩ = some (.slice A7 (zl x) c7) ∧ w'.cell? ⟨w4.heap.size, 0, none⟩ = some (.bool (neg y)) ∧ w'.cell? ⟨w4.heap.size, 1, none⟩ = some (.slice A8 (zl y) c8) ∧ w'.cell? ⟨w5.heap.size, 0, none⟩ = some (.bool (neg z)) ∧ w'.cell? ⟨w5.heap.size, 1, none⟩ = some (.slice A9 (zl z) c9)) (first | (with_reducible exact ⟨k7.c0, k7.c1, k8.c0, k8.c1, k9.c0, k9.c1⟩) | go_keep)
    (first | (go_at_call 20; (with_reducible refine (add_z k8.z k9.z py pz).mono ?_); rintro e wn ⟨v, rfl, ⟨Ar84, cr84, rfl, r84⟩, hb⟩; replace k7 := k7.below hb; replace k8 := k8.below hb; replace k9 := k9.below hb; replace bw := thru bw hb; (try replace r85 := r85.below hb); (try replace r88 := r88.below hb); (try replace r91 := r91.below hb); (try replace r92 := r92.below hb); (try replace r105 := r105.below hb); (try replace r107 := r107.below hb); (try replace r121 := r121.below hb); (try replace r122 := r122.below hb); clear hb) | (go_at_call 24; (with_reducible refine (mul_z k7.z r84 px pyz).mono ?_); rintro e wn ⟨v, rfl, ⟨Ar85, cr85, rfl, r85⟩, hb⟩; replace k7 := k7.below hb; replace k8 := k8.below hb; replace k9 := k9.below hb; replace bw := thru bw hb; (try replace r84 := r84.below hb); (try replace r88 := r88.below hb); (try replace r91 := r91.below hb); (try replace r92 := r92.below hb); (try replace r105 := r105.below hb); (try replace r107 := r107.below hb); (try replace r121 := r121.below hb); (try replace r122 := r122.below hb); clear hb) | (go_at_call 24; (with_reducible refine (mul_z k7.z k8.z px py).mono ?_); rintro e wn ⟨v, rfl, ⟨Ar88, cr88, rfl, r88⟩, hb⟩; replace k7 := k7.below hb; replace k8 := k8.below hb; replace k9 := k9.below hb; replace bw := thru bw hb; (try replace r84 := r84.below hb); (try replace r85 := r85.below hb); (try replace r91 := r91.below hb); (try replace r92 := r92.below hb); (try replace r105 := r105.below hb); (try replace r107 := r107.below hb); (try replace r121 := r121.below hb); (try replace r122 := r122.below hb); clear hb) | (go_at_call 24; (with_reducible refine (mul_z k7.z k9.z px pz).mono ?_); rintro e wn ⟨v, rfl, ⟨Ar91, cr91, rfl, r91⟩, hb⟩; replace k7 := k7.below hb; replace k8 := k8.below hb; replace k9 := k9.below hb; replace bw := thru bw hb; (try replace r84 := r84.below hb); (try replace r85 := r85.below hb); (try replace r88 := r88.below hb); (try replace r92 := r92.below hb); (try replace r105 := r105.below hb); (try replace r107 := r107.below hb); (try replace r121 := r121.below hb); (try replace r122 := r122.below hb); clear hb) | (go_at_call 20; (with_reducible refine (add_z r88 r91 pmxy pmxz).mono ?_); rintro e wn ⟨v, rfl, ⟨Ar92, cr92, rfl, r92⟩, hb⟩; replace k7 := k7.below hb; replace k8 := k8.below hb; replace k9 := k9.below hb; replace bw := thru bw hb; (try replace r84 := r84.below hb); (try replace r85 := r85.below hb); (try replace r88 := r88.below hb); (try replace r91 := r91.below hb); (try replace r105 := r105.below hb); (try replace r107 := r107.below hb); (try replace r121 := r121.below hb); (try replace r122 := r122.below hb); clear hb) | (go_at_call 13; (with_reducible refine (cmp_same r85 r92 q5.out).mono ?_); rintro e wn ⟨rfl, hb⟩; replace k7 := k7.below hb; replace k8 := k8.below hb; replace k9 := k9.below hb; replace bw := thru bw hb; (try replace r84 := r84.below hb); (try replace r85 := r85.below hb); (try replace r88 := r88.below hb); (try replace r91 := r91.below hb); (try replace r92 := r92.below hb); (try replace r105 := r105.below hb); (try replace r107 := r107.below hb); (try replace r121 := r121.below hb); (try replace r122 := r122.below hb); clear hb) | (go_at_call 22; (with_reducible refine (sub_to k7.z k7.z px px q6.out).mono ?_); rintro e wn ⟨v, rfl, ⟨Ar98, cr98, rfl, r98⟩, hb⟩; replace k7 := k7.below hb; replace k8 := k8.below hb; replace k9 := k9.below hb; replace bw := thru bw hb; (try replace r84 := r84.below hb); (try replace r85 := r85.below hb); (try replace r88 := r88.below hb); (try replace r91 := r91.below hb); (try replace r92 := r92.below hb); (try replace r105 := r105.below hb); (try replace r107 := r107.below hb); (try replace r121 := r121.below hb); (try replace r122 := r122.below hb); clear hb) | (go_at_call 11; (with_reducible refine (sign_same (z := 0) rfl).mono ?_); rintro e wn ⟨rfl, hb⟩; replace k7 := k7.below hb; replace k8 := k8.below hb; replace k9 := k9.below hb; replace bw := thru bw hb; (try replace r84 := r84.below hb); (try replace r85 := r85.below hb); (try replace r88 := r88.below hb); (try replace r91 := r91.below hb); (try replace r92 := r92.below hb); (try replace r105 := r105.below hb); (try replace r107 := r107.below hb); (try replace r121 := r121.below hb); (try replace r122 := r122.below hb); clear hb) | (go_at_call 20; (with_reducible refine (add_z k7.z k8.z px py).mono ?_); rintro e wn ⟨v, rfl, ⟨Ar105, cr105, rfl, r105⟩, hb⟩; replace k7 := k7.below hb; replace k8 := k8.below hb; replace k9 := k9.below hb; replace bw := thru bw hb; (try replace r84 := r84.below hb); (try replace r85 := r85.below hb); (try replace r88 := r88.below hb); (try replace r91 := r91.below hb); (try replace r92 := r92.below hb); (try replace r107 := r107.below hb); (try replace r121 := r121.below hb); (try replace r122 := r122.below hb); clear hb) | (go_at_call 22; (with_reducible refine (sub_to r105 k8.z pxy py q7.out).mono ?_); rintro e wn ⟨v, rfl, ⟨Ar107, cr107, rfl, r107⟩, hb⟩; replace k7 := k7.below hb; replace k8 := k8.below hb; replace k9 := k9.below hb; replace bw := thru bw hb; (try replace r84 := r84.below hb); (try replace r85 := r85.below hb); (try replace r88 := r88.below hb); (try replace r91 := r91.below hb); (try replace r92 := r92.below hb); (try replace r105 := r105.below hb); (try replace r121 := r121.below hb); (try replace r122 := r122.below hb); clear hb) | (go_at_call 13; (with_reducible refine (cmp_same r107 k7.z rfl).mono ?_); rintro e wn ⟨rfl, hb⟩; replace k7 := k7.below hb; replace k8 := k8.below hb; replace k9 := k9.below hb; replace bw := thru bw hb; (try replace r84 := r84.below hb); (try replace r85 := r85.below hb); (try replace r88 := r88.below hb); (try replace r91 := r91.below hb); (try replace r92 := r92.below hb); (try replace r105 := r105.below hb); (try replace r107 := r107.below hb); (try replace r121 := r121.below hb); (try replace r122 := r122.below hb); clear hb) | (go_at_call 29; (with_reducible refine (sum_nil).mono ?_); rintro e wn ⟨v, rfl, ⟨Ar113, cr113, rfl, r113⟩, hb⟩; replace k7 := k7.below hb; replace k8 := k8.below hb; replace k9 := k9.below hb; replace bw := thru bw hb; (try replace r84 := r84.below hb); (try replace r85 := r85.below hb); (try replace r88 := r88.below hb); (try replace r91 := r91.below hb); (try replace r92 := r92.below hb); (try replace r105 := r105.below hb); (try replace r107 := r107.below hb); (try replace r121 := r121.below hb); (try replace r122 := r122.below hb); clear hb) | (go_at_call 11; (with_reducible refine (sign_same (z := 0) rfl).mono ?_); rintro e wn ⟨rfl, hb⟩; replace k7 := k7.below hb; replace k8 := k8.below hb; replace k9 := k9.below hb; replace bw := thru bw hb; (try replace r84 := r84.below hb); (try replace r85 := r85.below hb); (try replace r88 := r88.below hb); (try replace r91 := r91.below hb); (try replace r92 := r92.below hb); (try replace r105 := r105.below hb); (try replace r107 := r107.below hb); (try replace r121 := r121.below hb); (try replace r122 := r122.below hb); clear hb) | (go_at_call 8; (with_reducible refine (live_true _).mono ?_); rintro e wn ⟨rfl, hb⟩; replace k7 := k7.below hb; replace k8 := k8.below hb; replace k9 := k9.below hb; replace bw := thru bw hb; (try replace r84 := r84.below hb); (try replace r85 := r85.below hb); (try replace r88 := r88.below hb); (try replace r91 := r91.below hb); (try replace r92 := r92.below hb); (try replace r105 := r105.below hb); (try replace r107 := r107.below hb); (try replace r121 := r121.below hb); (try replace r122 := r122.below hb); clear hb) | (go_at_call 30; (with_reducible refine (prod_nil).mono ?_); rintro e wn ⟨v, rfl, ⟨Ar121, cr121, rfl, r121⟩, hb⟩; replace k7 := k7.below hb; replace k8 := k8.below hb; replace k9 := k9.below hb; replace bw := thru bw hb; (try replace r84 := r84.below hb); (try replace r85 := r85.below hb); (try replace r88 := r88.below hb); (try replace r91 := r91.below hb); (try replace r92 := r92.below hb); (try replace r105 := r105.below hb); (try replace r107 := r107.below hb); (try replace r122 := r122.below hb); clear hb) | (go_at_call 31; (with_reducible refine (of_z (n := 1) (by omega) (by omega)).mono ?_); rintro e wn ⟨v, rfl, ⟨Ar122, cr122, rfl, r122⟩, hb⟩; replace k7 := k7.below hb; replace k8 := k8.below hb; replace k9 := k9.below hb; replace bw := thru bw hb; (try replace r84 := r84.below hb); (try replace r85 := r85.below hb); (try replace r88 := r88.below hb); (try replace r91 := r91.below hb); (try replace r92 := r92.below hb); (try replace r105 := r105.below hb); (try replace r107 := r107.below hb); (try replace r121 := r121.below hb); clear hb) | (go_at_call 13; (with_reducible refine (cmp_same r121 r122 rfl).mono ?_); rintro e wn ⟨rfl, hb⟩; replace k7 := k7.below hb; replace k8 := k8.below hb; replace k9 := k9.below hb; replace bw := thru bw hb; (try replace r84 := r84.below hb); (try replace r85 := r85.below hb); (try replace r88 := r88.below hb); (try replace r91 := r91.below hb); (try replace r92 := r92.below hb); (try replace r105 := r105.below hb); (try replace r107 := r107.below hb); (try replace r121 := r121.below hb); (try replace r122 := r122.below hb); clear hb))
  all_goals (go_wp2; go_ret; exact ⟨rfl, bw⟩)

end Go.Proofs.Ytnldopjbiacbfaa
