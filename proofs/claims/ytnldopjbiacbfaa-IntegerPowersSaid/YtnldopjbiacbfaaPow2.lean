/- Powers of 0, 1 and -1 by (Int).Pow. No condition. Printed by tools/gen_pow2.py. -/
import Derived.Test.YtnldopjbiacbfaaPow
namespace Go.Proofs.Ytnldopjbiacbfaa
open Go.RowKit Anv

theorem U32.put2 {w : World} {A S : Option Addr} {n c g m k : Nat} {b : Bool} {t : TypeId} {xs : List Nat} (h : U32 w A n c xs) (q : Box2 t w g (.bool b) (.slice S m k)) (u u' : Value) :
    U32 ((w.setCell ⟨g, 0, none⟩ u).setCell ⟨g, 1, none⟩ u') A n c xs :=
  (h.store (p := ⟨g, 0, none⟩) (by rw [q.c0]; intro x hx; cases hx) u).store (p := ⟨g, 1, none⟩) (by rw [World.cell?_setCell_other _ _ _ _ (by simp)]; rw [q.c1]; intro x hx; cases hx) u'

set_option maxRecDepth 100000 in
theorem pow_zero_a {A : Option Addr} {c n : Nat} {x t : Int} {w : World} (hx : ZIn w A c x) (hN : zl x ≤ 1000) (_hn : n ≤ 9223372036854775807) (hb : blen x.natAbs = 0) (hs1 : (x.sign == 0) = true) (h0 : ((n : Int) == 0) = true) (ht : t = 1) :
    Calls Try.prog 32 #[.agg #[.bool (neg x), .slice A (zl x) c], .int .i64 n] w fun r w' => ∃ v, r = .returned (.tuple #[v, .int .i64 0]) ∧ ZAt w' v t ∧ Below w.heap.size w w' := by
  subst ht
  go_enter Try.func32, Try.ntmps32
  have HB := Lib.hid hb
  clear hb
  go_wp2_with fail
  refine (bits_z (hx.below (below2 _ _ _)) (by omega)).mono ?_
  rintro r w1 ⟨rfl, hb1⟩
  rw [HB.out]
  obtain ⟨q0, q1, bw, hs⟩ := boxes2 hb1
  clear hb1 hs
  have a0 := q0.c0
  have a1 := q0.c1
  go_wp2_with fail
  clear a0 a1
  refine (of_z (n := 1) (by omega) (by omega)).mono ?_
  rintro r w3 ⟨v, rfl, ⟨A0, c0, rfl, hz0⟩, hb3⟩
  have hs3 := (q1.below hb3 q1.lt).lt
  replace q0 := (q0.below hb3 q0.lt).alloc (.cells #[.bool (neg 1), .slice A0 (zl 1) c0] 28)
  replace q1 := (q1.below hb3 q1.lt).alloc (.cells #[.bool (neg 1), .slice A0 (zl 1) c0] 28)
  have q2 := Box2.new w3 28 (.bool (neg 1)) (.slice A0 (zl 1) c0)
  replace bw := (thru bw hb3).alloc (thru bw hb3).size (.cells #[.bool (neg 1), .slice A0 (zl 1) c0] 28)
  replace hz0 := hz0.below (below1 w3 (.cells #[.bool (neg 1), .slice A0 (zl 1) c0] 28))
  clear hb3
  have a0 := q0.c0
  have a1 := q0.c1
  go_wp2_with fail
  refine (sign_z (z := x)).mono ?_
  rintro r w4 ⟨rfl, hb4⟩
  replace q0 := q0.below hb4 q0.lt
  replace q1 := q1.below hb4 q1.lt
  replace q2 := q2.below hb4 q2.lt
  replace bw := thru bw hb4
  replace hz0 := hz0.below hb4
  clear hb4 a0 a1
  have a0 := q0.c0
  have a1 := q0.c1
  have hx5 := hx.below bw
  have b0 := q2.c0
  have b1 := q2.c1
  have f0 := q2.f 0
  have f1 := q2.f 1
  have e0 := q1.c0
  have e1 := q1.c1
  have e2 := q1.f 0
  have e3 := q1.f 1
  go_wp2
  exact bodyPost_ret (v := .tuple #[.agg #[.bool (neg 1), .slice A0 (zl 1) c0], .int .i64 0]) (by simp [results, Try.results32, go_sem, e0, e1]) rfl ⟨_, rfl, ⟨_, _, rfl, U32.store2 hz0 e0 e1 _ _⟩, below_store2 bw (by omega) _ _⟩

set_option maxRecDepth 100000 in
theorem pow_zero_d {A : Option Addr} {c n : Nat} {x t : Int} {w : World} (hx : ZIn w A c x) (hN : zl x ≤ 1000) (_hn : n ≤ 9223372036854775807) (hb : blen x.natAbs = 0) (hs1 : (x.sign == 0) = true) (h0 : ((n : Int) == 0) = false) (hneg : neg x = false) (ht : t = x) :
    Calls Try.prog 32 #[.agg #[.bool (neg x), .slice A (zl x) c], .int .i64 n] w fun r w' => ∃ v, r = .returned (.tuple #[v, .int .i64 0]) ∧ ZAt w' v t ∧ Below w.heap.size w w' := by
  rw [ht]
  clear ht
  have HG := Lib.hid hneg
  clear hneg
  go_enter Try.func32, Try.ntmps32
  have HB := Lib.hid hb
  clear hb
  go_wp2_with fail
  refine (bits_z (hx.below (below2 _ _ _)) (by omega)).mono ?_
  rintro r w1 ⟨rfl, hb1⟩
  rw [HB.out]
  obtain ⟨q0, q1, bw, hs⟩ := boxes2 hb1
  clear hb1 hs
  have a0 := q0.c0
  have a1 := q0.c1
  go_wp2_with fail
  clear a0 a1
  refine (of_z (n := 1) (by omega) (by omega)).mono ?_
  rintro r w3 ⟨v, rfl, ⟨A0, c0, rfl, hz0⟩, hb3⟩
  have hs3 := (q1.below hb3 q1.lt).lt
  replace q0 := (q0.below hb3 q0.lt).alloc (.cells #[.bool (neg 1), .slice A0 (zl 1) c0] 28)
  replace q1 := (q1.below hb3 q1.lt).alloc (.cells #[.bool (neg 1), .slice A0 (zl 1) c0] 28)
  have q2 := Box2.new w3 28 (.bool (neg 1)) (.slice A0 (zl 1) c0)
  replace bw := (thru bw hb3).alloc (thru bw hb3).size (.cells #[.bool (neg 1), .slice A0 (zl 1) c0] 28)
  replace hz0 := hz0.below (below1 w3 (.cells #[.bool (neg 1), .slice A0 (zl 1) c0] 28))
  clear hb3
  have a0 := q0.c0
  have a1 := q0.c1
  go_wp2_with fail
  refine (sign_z (z := x)).mono ?_
  rintro r w4 ⟨rfl, hb4⟩
  replace q0 := q0.below hb4 q0.lt
  replace q1 := q1.below hb4 q1.lt
  replace q2 := q2.below hb4 q2.lt
  replace bw := thru bw hb4
  replace hz0 := hz0.below hb4
  clear hb4 a0 a1
  have a0 := q0.c0
  have a1 := q0.c1
  have hx5 := hx.below bw
  have b0 := q2.c0
  have b1 := q2.c1
  have f0 := q2.f 0
  have f1 := q2.f 1
  have e0 := q1.c0
  have e1 := q1.c1
  have e2 := q1.f 0
  have e3 := q1.f 1
  have hneg := HG.out
  go_wp2
  have y1 := U32.put2 hx5 q2 (.bool (neg x)) (.slice A (zl x) c)
  have p1 := q1.far2 (k := w3.heap.size) (by omega) (.bool (neg x)) (.slice A (zl x) c)
  have y2 := U32.store2 y1 p1.c0 p1.c1 (.bool (neg x)) (.slice A (zl x) c)
  have bw2 := below_store2 (g := w.heap.size + 1) (below_store2 (g := w3.heap.size) bw (by omega) (.bool (neg x)) (.slice A (zl x) c)) (by omega) (.bool (neg x)) (.slice A (zl x) c)
  have g0 := p1.c0
  have g1 := p1.c1
  rw [HG.out] at y2 bw2 g0 g1
  exact bodyPost_ret (v := .tuple #[.agg #[.bool false, .slice A (zl x) c], .int .i64 0]) (by simp [results, Try.results32, go_sem, g0, g1]) rfl ⟨_, rfl, ⟨_, _, by rw [HG.out], y2⟩, bw2⟩

set_option maxRecDepth 100000 in
theorem pow_one_a {A : Option Addr} {c n : Nat} {x t : Int} {w : World} (hx : ZIn w A c x) (hN : zl x ≤ 1000) (hn : n ≤ 65536) (hb : blen x.natAbs = 1) (hs1 : (x.sign == 0) = false) (h0 : ((n : Int) == 0) = true) (ht : t = 1) :
    Calls Try.prog 32 #[.agg #[.bool (neg x), .slice A (zl x) c], .int .i64 n] w fun r w' => ∃ v, r = .returned (.tuple #[v, .int .i64 0]) ∧ ZAt w' v t ∧ Below w.heap.size w w' := by
  subst ht
  go_enter Try.func32, Try.ntmps32
  have HB := Lib.hid hb
  clear hb
  go_wp2_with fail
  refine (bits_z (hx.below (below2 _ _ _)) (by omega)).mono ?_
  rintro r w1 ⟨rfl, hb1⟩
  rw [HB.out]
  obtain ⟨q0, q1, bw, hs⟩ := boxes2 hb1
  clear hb1 hs
  have a0 := q0.c0
  have a1 := q0.c1
  go_wp2_with fail
  refine (bits_z (hx.below bw) (by omega)).mono ?_
  rintro r w2 ⟨rfl, hb2⟩
  rw [HB.out]
  replace q0 := q0.below hb2 q0.lt
  replace q1 := q1.below hb2 q1.lt
  replace bw := thru bw hb2
  clear hb2 a0 a1
  go_wp2_with fail
  refine (of_z (n := 1) (by omega) (by omega)).mono ?_
  rintro r w3 ⟨v, rfl, ⟨A0, c0, rfl, hz0⟩, hb3⟩
  have hs3 := (q1.below hb3 q1.lt).lt
  replace q0 := (q0.below hb3 q0.lt).alloc (.cells #[.bool (neg 1), .slice A0 (zl 1) c0] 28)
  replace q1 := (q1.below hb3 q1.lt).alloc (.cells #[.bool (neg 1), .slice A0 (zl 1) c0] 28)
  have q2 := Box2.new w3 28 (.bool (neg 1)) (.slice A0 (zl 1) c0)
  replace bw := (thru bw hb3).alloc (thru bw hb3).size (.cells #[.bool (neg 1), .slice A0 (zl 1) c0] 28)
  replace hz0 := hz0.below (below1 w3 (.cells #[.bool (neg 1), .slice A0 (zl 1) c0] 28))
  clear hb3
  have a0 := q0.c0
  have a1 := q0.c1
  go_wp2_with fail
  refine (sign_z (z := x)).mono ?_
  rintro r w4 ⟨rfl, hb4⟩
  replace q0 := q0.below hb4 q0.lt
  replace q1 := q1.below hb4 q1.lt
  replace q2 := q2.below hb4 q2.lt
  replace bw := thru bw hb4
  replace hz0 := hz0.below hb4
  clear hb4 a0 a1
  have a0 := q0.c0
  have a1 := q0.c1
  go_wp2_with fail
  refine (bits_z (hx.below bw) (by omega)).mono ?_
  rintro r w5 ⟨rfl, hb5⟩
  rw [HB.out]
  replace q0 := q0.below hb5 q0.lt
  replace q1 := q1.below hb5 q1.lt
  replace q2 := q2.below hb5 q2.lt
  replace bw := thru bw hb5
  replace hz0 := hz0.below hb5
  clear hb5 a0 a1
  have a0 := q0.c0
  have a1 := q0.c1
  have hx5 := hx.below bw
  have b0 := q2.c0
  have b1 := q2.c1
  have f0 := q2.f 0
  have f1 := q2.f 1
  have e0 := q1.c0
  have e1 := q1.c1
  have e2 := q1.f 0
  have e3 := q1.f 1
  go_wp2
  exact bodyPost_ret (v := .tuple #[.agg #[.bool (neg 1), .slice A0 (zl 1) c0], .int .i64 0]) (by simp [results, Try.results32, go_sem, e0, e1]) rfl ⟨_, rfl, ⟨_, _, rfl, U32.store2 hz0 e0 e1 _ _⟩, below_store2 bw (by omega) _ _⟩

set_option maxRecDepth 100000 in
theorem pow_one_b {A : Option Addr} {c n : Nat} {x t : Int} {w : World} (hx : ZIn w A c x) (hN : zl x ≤ 1000) (hn : n ≤ 65536) (hb : blen x.natAbs = 1) (hs1 : (x.sign == 0) = false) (h0 : ((n : Int) == 0) = false) (hneg : neg x = true) (h2 : ((n : Int) % 2 == 0) = true) (ht : t = 1) :
    Calls Try.prog 32 #[.agg #[.bool (neg x), .slice A (zl x) c], .int .i64 n] w fun r w' => ∃ v, r = .returned (.tuple #[v, .int .i64 0]) ∧ ZAt w' v t ∧ Below w.heap.size w w' := by
  subst ht
  have HG := Lib.hid hneg
  clear hneg
  go_enter Try.func32, Try.ntmps32
  have HB := Lib.hid hb
  clear hb
  go_wp2_with fail
  refine (bits_z (hx.below (below2 _ _ _)) (by omega)).mono ?_
  rintro r w1 ⟨rfl, hb1⟩
  rw [HB.out]
  obtain ⟨q0, q1, bw, hs⟩ := boxes2 hb1
  clear hb1 hs
  have a0 := q0.c0
  have a1 := q0.c1
  go_wp2_with fail
  refine (bits_z (hx.below bw) (by omega)).mono ?_
  rintro r w2 ⟨rfl, hb2⟩
  rw [HB.out]
  replace q0 := q0.below hb2 q0.lt
  replace q1 := q1.below hb2 q1.lt
  replace bw := thru bw hb2
  clear hb2 a0 a1
  go_wp2_with fail
  refine (of_z (n := 1) (by omega) (by omega)).mono ?_
  rintro r w3 ⟨v, rfl, ⟨A0, c0, rfl, hz0⟩, hb3⟩
  have hs3 := (q1.below hb3 q1.lt).lt
  replace q0 := (q0.below hb3 q0.lt).alloc (.cells #[.bool (neg 1), .slice A0 (zl 1) c0] 28)
  replace q1 := (q1.below hb3 q1.lt).alloc (.cells #[.bool (neg 1), .slice A0 (zl 1) c0] 28)
  have q2 := Box2.new w3 28 (.bool (neg 1)) (.slice A0 (zl 1) c0)
  replace bw := (thru bw hb3).alloc (thru bw hb3).size (.cells #[.bool (neg 1), .slice A0 (zl 1) c0] 28)
  replace hz0 := hz0.below (below1 w3 (.cells #[.bool (neg 1), .slice A0 (zl 1) c0] 28))
  clear hb3
  have a0 := q0.c0
  have a1 := q0.c1
  go_wp2_with fail
  refine (sign_z (z := x)).mono ?_
  rintro r w4 ⟨rfl, hb4⟩
  replace q0 := q0.below hb4 q0.lt
  replace q1 := q1.below hb4 q1.lt
  replace q2 := q2.below hb4 q2.lt
  replace bw := thru bw hb4
  replace hz0 := hz0.below hb4
  clear hb4 a0 a1
  have a0 := q0.c0
  have a1 := q0.c1
  go_wp2_with fail
  refine (bits_z (hx.below bw) (by omega)).mono ?_
  rintro r w5 ⟨rfl, hb5⟩
  rw [HB.out]
  replace q0 := q0.below hb5 q0.lt
  replace q1 := q1.below hb5 q1.lt
  replace q2 := q2.below hb5 q2.lt
  replace bw := thru bw hb5
  replace hz0 := hz0.below hb5
  clear hb5 a0 a1
  have a0 := q0.c0
  have a1 := q0.c1
  have hx5 := hx.below bw
  have b0 := q2.c0
  have b1 := q2.c1
  have f0 := q2.f 0
  have f1 := q2.f 1
  have e0 := q1.c0
  have e1 := q1.c1
  have e2 := q1.f 0
  have e3 := q1.f 1
  have hneg := HG.out
  go_wp2
  exact bodyPost_ret (v := .tuple #[.agg #[.bool (neg 1), .slice A0 (zl 1) c0], .int .i64 0]) (by simp [results, Try.results32, go_sem, e0, e1]) rfl ⟨_, rfl, ⟨_, _, rfl, U32.store2 hz0 e0 e1 _ _⟩, below_store2 bw (by omega) _ _⟩

set_option maxRecDepth 100000 in
theorem pow_one_c {A : Option Addr} {c n : Nat} {x t : Int} {w : World} (hx : ZIn w A c x) (hN : zl x ≤ 1000) (hn : n ≤ 65536) (hb : blen x.natAbs = 1) (hs1 : (x.sign == 0) = false) (h0 : ((n : Int) == 0) = false) (hneg : neg x = true) (h2 : ((n : Int) % 2 == 0) = false) (ht : t = x) :
    Calls Try.prog 32 #[.agg #[.bool (neg x), .slice A (zl x) c], .int .i64 n] w fun r w' => ∃ v, r = .returned (.tuple #[v, .int .i64 0]) ∧ ZAt w' v t ∧ Below w.heap.size w w' := by
  rw [ht]
  clear ht
  have HG := Lib.hid hneg
  clear hneg
  go_enter Try.func32, Try.ntmps32
  have HB := Lib.hid hb
  clear hb
  go_wp2_with fail
  refine (bits_z (hx.below (below2 _ _ _)) (by omega)).mono ?_
  rintro r w1 ⟨rfl, hb1⟩
  rw [HB.out]
  obtain ⟨q0, q1, bw, hs⟩ := boxes2 hb1
  clear hb1 hs
  have a0 := q0.c0
  have a1 := q0.c1
  go_wp2_with fail
  refine (bits_z (hx.below bw) (by omega)).mono ?_
  rintro r w2 ⟨rfl, hb2⟩
  rw [HB.out]
  replace q0 := q0.below hb2 q0.lt
  replace q1 := q1.below hb2 q1.lt
  replace bw := thru bw hb2
  clear hb2 a0 a1
  go_wp2_with fail
  refine (of_z (n := 1) (by omega) (by omega)).mono ?_
  rintro r w3 ⟨v, rfl, ⟨A0, c0, rfl, hz0⟩, hb3⟩
  have hs3 := (q1.below hb3 q1.lt).lt
  replace q0 := (q0.below hb3 q0.lt).alloc (.cells #[.bool (neg 1), .slice A0 (zl 1) c0] 28)
  replace q1 := (q1.below hb3 q1.lt).alloc (.cells #[.bool (neg 1), .slice A0 (zl 1) c0] 28)
  have q2 := Box2.new w3 28 (.bool (neg 1)) (.slice A0 (zl 1) c0)
  replace bw := (thru bw hb3).alloc (thru bw hb3).size (.cells #[.bool (neg 1), .slice A0 (zl 1) c0] 28)
  replace hz0 := hz0.below (below1 w3 (.cells #[.bool (neg 1), .slice A0 (zl 1) c0] 28))
  clear hb3
  have a0 := q0.c0
  have a1 := q0.c1
  go_wp2_with fail
  refine (sign_z (z := x)).mono ?_
  rintro r w4 ⟨rfl, hb4⟩
  replace q0 := q0.below hb4 q0.lt
  replace q1 := q1.below hb4 q1.lt
  replace q2 := q2.below hb4 q2.lt
  replace bw := thru bw hb4
  replace hz0 := hz0.below hb4
  clear hb4 a0 a1
  have a0 := q0.c0
  have a1 := q0.c1
  go_wp2_with fail
  refine (bits_z (hx.below bw) (by omega)).mono ?_
  rintro r w5 ⟨rfl, hb5⟩
  rw [HB.out]
  replace q0 := q0.below hb5 q0.lt
  replace q1 := q1.below hb5 q1.lt
  replace q2 := q2.below hb5 q2.lt
  replace bw := thru bw hb5
  replace hz0 := hz0.below hb5
  clear hb5 a0 a1
  have a0 := q0.c0
  have a1 := q0.c1
  have hx5 := hx.below bw
  have b0 := q2.c0
  have b1 := q2.c1
  have f0 := q2.f 0
  have f1 := q2.f 1
  have e0 := q1.c0
  have e1 := q1.c1
  have e2 := q1.f 0
  have e3 := q1.f 1
  have hneg := HG.out
  go_wp2
  have y1 := U32.put2 hx5 q2 (.bool (neg x)) (.slice A (zl x) c)
  have p1 := q1.far2 (k := w3.heap.size) (by omega) (.bool (neg x)) (.slice A (zl x) c)
  have y2 := U32.store2 y1 p1.c0 p1.c1 (.bool (neg x)) (.slice A (zl x) c)
  have bw2 := below_store2 (g := w.heap.size + 1) (below_store2 (g := w3.heap.size) bw (by omega) (.bool (neg x)) (.slice A (zl x) c)) (by omega) (.bool (neg x)) (.slice A (zl x) c)
  have g0 := p1.c0
  have g1 := p1.c1
  rw [HG.out] at y2 bw2 g0 g1
  exact bodyPost_ret (v := .tuple #[.agg #[.bool true, .slice A (zl x) c], .int .i64 0]) (by simp [results, Try.results32, go_sem, g0, g1]) rfl ⟨_, rfl, ⟨_, _, by rw [HG.out], y2⟩, bw2⟩

set_option maxRecDepth 100000 in
theorem pow_one_d {A : Option Addr} {c n : Nat} {x t : Int} {w : World} (hx : ZIn w A c x) (hN : zl x ≤ 1000) (hn : n ≤ 65536) (hb : blen x.natAbs = 1) (hs1 : (x.sign == 0) = false) (h0 : ((n : Int) == 0) = false) (hneg : neg x = false) (ht : t = x) :
    Calls Try.prog 32 #[.agg #[.bool (neg x), .slice A (zl x) c], .int .i64 n] w fun r w' => ∃ v, r = .returned (.tuple #[v, .int .i64 0]) ∧ ZAt w' v t ∧ Below w.heap.size w w' := by
  rw [ht]
  clear ht
  have HG := Lib.hid hneg
  clear hneg
  go_enter Try.func32, Try.ntmps32
  have HB := Lib.hid hb
  clear hb
  go_wp2_with fail
  refine (bits_z (hx.below (below2 _ _ _)) (by omega)).mono ?_
  rintro r w1 ⟨rfl, hb1⟩
  rw [HB.out]
  obtain ⟨q0, q1, bw, hs⟩ := boxes2 hb1
  clear hb1 hs
  have a0 := q0.c0
  have a1 := q0.c1
  go_wp2_with fail
  refine (bits_z (hx.below bw) (by omega)).mono ?_
  rintro r w2 ⟨rfl, hb2⟩
  rw [HB.out]
  replace q0 := q0.below hb2 q0.lt
  replace q1 := q1.below hb2 q1.lt
  replace bw := thru bw hb2
  clear hb2 a0 a1
  go_wp2_with fail
  refine (of_z (n := 1) (by omega) (by omega)).mono ?_
  rintro r w3 ⟨v, rfl, ⟨A0, c0, rfl, hz0⟩, hb3⟩
  have hs3 := (q1.below hb3 q1.lt).lt
  replace q0 := (q0.below hb3 q0.lt).alloc (.cells #[.bool (neg 1), .slice A0 (zl 1) c0] 28)
  replace q1 := (q1.below hb3 q1.lt).alloc (.cells #[.bool (neg 1), .slice A0 (zl 1) c0] 28)
  have q2 := Box2.new w3 28 (.bool (neg 1)) (.slice A0 (zl 1) c0)
  replace bw := (thru bw hb3).alloc (thru bw hb3).size (.cells #[.bool (neg 1), .slice A0 (zl 1) c0] 28)
  replace hz0 := hz0.below (below1 w3 (.cells #[.bool (neg 1), .slice A0 (zl 1) c0] 28))
  clear hb3
  have a0 := q0.c0
  have a1 := q0.c1
  go_wp2_with fail
  refine (sign_z (z := x)).mono ?_
  rintro r w4 ⟨rfl, hb4⟩
  replace q0 := q0.below hb4 q0.lt
  replace q1 := q1.below hb4 q1.lt
  replace q2 := q2.below hb4 q2.lt
  replace bw := thru bw hb4
  replace hz0 := hz0.below hb4
  clear hb4 a0 a1
  have a0 := q0.c0
  have a1 := q0.c1
  go_wp2_with fail
  refine (bits_z (hx.below bw) (by omega)).mono ?_
  rintro r w5 ⟨rfl, hb5⟩
  rw [HB.out]
  replace q0 := q0.below hb5 q0.lt
  replace q1 := q1.below hb5 q1.lt
  replace q2 := q2.below hb5 q2.lt
  replace bw := thru bw hb5
  replace hz0 := hz0.below hb5
  clear hb5 a0 a1
  have a0 := q0.c0
  have a1 := q0.c1
  have hx5 := hx.below bw
  have b0 := q2.c0
  have b1 := q2.c1
  have f0 := q2.f 0
  have f1 := q2.f 1
  have e0 := q1.c0
  have e1 := q1.c1
  have e2 := q1.f 0
  have e3 := q1.f 1
  have hneg := HG.out
  go_wp2
  have y1 := U32.put2 hx5 q2 (.bool (neg x)) (.slice A (zl x) c)
  have p1 := q1.far2 (k := w3.heap.size) (by omega) (.bool (neg x)) (.slice A (zl x) c)
  have y2 := U32.store2 y1 p1.c0 p1.c1 (.bool (neg x)) (.slice A (zl x) c)
  have bw2 := below_store2 (g := w.heap.size + 1) (below_store2 (g := w3.heap.size) bw (by omega) (.bool (neg x)) (.slice A (zl x) c)) (by omega) (.bool (neg x)) (.slice A (zl x) c)
  have g0 := p1.c0
  have g1 := p1.c1
  rw [HG.out] at y2 bw2 g0 g1
  exact bodyPost_ret (v := .tuple #[.agg #[.bool false, .slice A (zl x) c], .int .i64 0]) (by simp [results, Try.results32, go_sem, g0, g1]) rfl ⟨_, rfl, ⟨_, _, by rw [HG.out], y2⟩, bw2⟩

end Go.Proofs.Ytnldopjbiacbfaa
