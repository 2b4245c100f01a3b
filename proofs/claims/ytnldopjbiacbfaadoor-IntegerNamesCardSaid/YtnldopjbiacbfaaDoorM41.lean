/- A box that holds a number; five boxes at once. No condition. -/
import Derived.Test.YtnldopjbiacbfaaDoorM20
import Derived.Test.YtnldopjbiacbfaaDoorM40
import Derived.Deep.CutBlock
import Derived.BigRegion

namespace Go.Proofs.YtnldopjbiacbfaaDoor
open Go.RowKit Anv

/-- Block g is a box that holds the number z. -/
def ZB (w : World) (g : Nat) (z : Int) : Prop := ∃ A c, Box2 28 w g (.bool (neg z)) (.slice A (zl z) c) ∧ ZIn w A c z

theorem zin_nil (w : World) : ZIn w none 0 0 := ⟨by show (L 0).length = zl 0; rw [L_zero, zl_zero]; rfl, by rw [zl_zero]; exact Nat.le_refl _, by simp [maxLen], L_lt _, fun hp => by rw [zl_zero] at hp; omega⟩

section
variable {w w' : World} {g g' : Nat} {z z' : Int}
theorem ZB.below (h : ZB w g z) (hb : Below w.heap.size w w') : ZB w' g z := by
  obtain ⟨A, c, k, hz⟩ := h
  exact ⟨A, c, k.below hb k.lt, hz.below hb⟩
theorem ZB.lt (h : ZB w g z) : g < w.heap.size := by
  obtain ⟨A, c, k, _⟩ := h
  exact k.lt
theorem ZB.drew (h : ZB w g z) : ZB w.drew g z := h.below (Below.refl _ _).drew
theorem ZB.alloc (h : ZB w g z) (o : Obj) : ZB (w.alloc o) g z := h.below (below1 _ _)
theorem ZB.nil (h : Box2 28 w g (.bool false) (.slice none 0 0)) : ZB w g 0 :=
  ⟨none, 0, by rw [neg_zero, zl_zero]; exact h, ⟨by show (L 0).length = zl 0; rw [L_zero, zl_zero]; rfl, by rw [zl_zero]; exact Nat.le_refl _, by simp [maxLen], L_lt _, fun hp => by rw [zl_zero] at hp; omega⟩⟩
theorem ZB.new {A : Option Addr} {c : Nat} (h : ZIn w A c z) : ZB (w.alloc (.cells #[.bool (neg z), .slice A (zl z) c] 28)) w.heap.size z :=
  ⟨A, c, Box2.new w _ _ _, h.below (below1 _ _)⟩
theorem ZB.far (h : ZB w g z) (k : ZB w g' z') (hne : g ≠ g') (u u' : Value) : ZB ((w.setCell ⟨g', 0, none⟩ u).setCell ⟨g', 1, none⟩ u') g z := by
  obtain ⟨A, c, q, hz⟩ := h
  obtain ⟨A', c', q', _⟩ := k
  exact ⟨A, c, q.far2 hne u u', U32.put3 hz q' u u'⟩
theorem ZB.put {A' : Option Addr} {c' : Nat} (k : ZB w g z) (h : ZIn w A' c' z') : ZB ((w.setCell ⟨g, 0, none⟩ (.bool (neg z'))).setCell ⟨g, 1, none⟩ (.slice A' (zl z') c')) g z' := by
  obtain ⟨A, c, q, _⟩ := k
  exact ⟨A', c', q.put _ _, U32.put3 h q _ _⟩
theorem ZB.zin {A' : Option Addr} {c' : Nat} (k : ZB w g z) (h : ZIn w A' c' z') (u u' : Value) : ZIn ((w.setCell ⟨g, 0, none⟩ u).setCell ⟨g, 1, none⟩ u') A' c' z' := by
  obtain ⟨A, c, q, _⟩ := k
  exact U32.put3 h q _ _
end

theorem stk_box {w : World} {l : List Obj} (i : Nat) {t : TypeId} {u v : Value} {g : Nat} (hg : g = w.heap.size + i) (h : l[i]? = some (.cells #[u, v] t)) : Box2 t (stack w l) g u v := by
  subst hg; exact stack_at w l i _ h

end Go.Proofs.YtnldopjbiacbfaaDoor

/- integer.Bezout by 0. No condition. -/
namespace Go.Proofs.YtnldopjbiacbfaaDoor
open Go.RowKit Anv

set_option maxRecDepth 100000 in
set_option maxHeartbeats 8000000 in
theorem bezout_z0 {A B : Option Addr} {c d : Nat} {x : Int} {w : World} (hx : ZIn w A c x) (hy : ZIn w B d 0) :
    Calls Tryd.prog 71 #[.agg #[.bool (neg x), .slice A (zl x) c], .agg #[.bool (neg 0), .slice B (zl 0) d]] w fun e w' => ∃ v1 v2 v3, e = .returned (.tuple #[v1, v2, v3]) ∧ ZAt w' v1 (x.natAbs : Int) ∧ ZAt w' v2 x.sign ∧ ZAt w' v3 0 ∧ Below w.heap.size w w' := by
  have hsy : ((0 : Int).sign == 0) = true := rfl
  go_enter Tryd.func71, Tryd.ntmps71
  go_upto_region 1 with fail
  have hst := stack_below w [.cells #[.bool (neg x), .slice A (zl x) c] 28, .cells #[.bool (neg 0), .slice B (zl 0) d] 28, .cells #[.bool false, .slice none 0 0] 28, .cells #[.bool false, .slice none 0 0] 28, .cells #[.bool false, .slice none 0 0] 28]
  have k2 : ZB (((((w.alloc (.cells #[.bool (neg x), .slice A (zl x) c] 28)).alloc (.cells #[.bool (neg 0), .slice B (zl 0) d] 28)).alloc (.cells #[.bool false, .slice none 0 0] 28)).alloc (.cells #[.bool false, .slice none 0 0] 28)).alloc (.cells #[.bool false, .slice none 0 0] 28)) w.heap.size x := ⟨A, c, stk_box (w := w) (l := [.cells #[.bool (neg x), .slice A (zl x) c] 28, .cells #[.bool (neg 0), .slice B (zl 0) d] 28, .cells #[.bool false, .slice none 0 0] 28, .cells #[.bool false, .slice none 0 0] 28, .cells #[.bool false, .slice none 0 0] 28]) 0 rfl rfl, hx.below hst.1⟩
  have k3 : ZB (((((w.alloc (.cells #[.bool (neg x), .slice A (zl x) c] 28)).alloc (.cells #[.bool (neg 0), .slice B (zl 0) d] 28)).alloc (.cells #[.bool false, .slice none 0 0] 28)).alloc (.cells #[.bool false, .slice none 0 0] 28)).alloc (.cells #[.bool false, .slice none 0 0] 28)) (w.heap.size + 1) 0 := ⟨B, d, stk_box (w := w) (l := [.cells #[.bool (neg x), .slice A (zl x) c] 28, .cells #[.bool (neg 0), .slice B (zl 0) d] 28, .cells #[.bool false, .slice none 0 0] 28, .cells #[.bool false, .slice none 0 0] 28, .cells #[.bool false, .slice none 0 0] 28]) 1 rfl rfl, hy.below hst.1⟩
  have k4 : ZB (((((w.alloc (.cells #[.bool (neg x), .slice A (zl x) c] 28)).alloc (.cells #[.bool (neg 0), .slice B (zl 0) d] 28)).alloc (.cells #[.bool false, .slice none 0 0] 28)).alloc (.cells #[.bool false, .slice none 0 0] 28)).alloc (.cells #[.bool false, .slice none 0 0] 28)) (w.heap.size + 1 + 1) 0 := ZB.nil (stk_box (w := w) (l := [.cells #[.bool (neg x), .slice A (zl x) c] 28, .cells #[.bool (neg 0), .slice B (zl 0) d] 28, .cells #[.bool false, .slice none 0 0] 28, .cells #[.bool false, .slice none 0 0] 28, .cells #[.bool false, .slice none 0 0] 28]) 2 rfl rfl)
  have k5 : ZB (((((w.alloc (.cells #[.bool (neg x), .slice A (zl x) c] 28)).alloc (.cells #[.bool (neg 0), .slice B (zl 0) d] 28)).alloc (.cells #[.bool false, .slice none 0 0] 28)).alloc (.cells #[.bool false, .slice none 0 0] 28)).alloc (.cells #[.bool false, .slice none 0 0] 28)) (w.heap.size + 1 + 1 + 1) 0 := ZB.nil (stk_box (w := w) (l := [.cells #[.bool (neg x), .slice A (zl x) c] 28, .cells #[.bool (neg 0), .slice B (zl 0) d] 28, .cells #[.bool false, .slice none 0 0] 28, .cells #[.bool false, .slice none 0 0] 28, .cells #[.bool false, .slice none 0 0] 28]) 3 rfl rfl)
  have k6 : ZB (((((w.alloc (.cells #[.bool (neg x), .slice A (zl x) c] 28)).alloc (.cells #[.bool (neg 0), .slice B (zl 0) d] 28)).alloc (.cells #[.bool false, .slice none 0 0] 28)).alloc (.cells #[.bool false, .slice none 0 0] 28)).alloc (.cells #[.bool false, .slice none 0 0] 28)) (w.heap.size + 1 + 1 + 1 + 1) 0 := ZB.nil (stk_box (w := w) (l := [.cells #[.bool (neg x), .slice A (zl x) c] 28, .cells #[.bool (neg 0), .slice B (zl 0) d] 28, .cells #[.bool false, .slice none 0 0] 28, .cells #[.bool false, .slice none 0 0] 28, .cells #[.bool false, .slice none 0 0] 28]) 4 rfl rfl)
  have hbw : Below w.heap.size w (((((w.alloc (.cells #[.bool (neg x), .slice A (zl x) c] 28)).alloc (.cells #[.bool (neg 0), .slice B (zl 0) d] 28)).alloc (.cells #[.bool false, .slice none 0 0] 28)).alloc (.cells #[.bool false, .slice none 0 0] 28)).alloc (.cells #[.bool false, .slice none 0 0] 28)) := hst.1
  clear hst hx hy
  generalize ((((w.alloc (.cells #[.bool (neg x), .slice A (zl x) c] 28)).alloc (.cells #[.bool (neg 0), .slice B (zl 0) d] 28)).alloc (.cells #[.bool false, .slice none 0 0] 28)).alloc (.cells #[.bool false, .slice none 0 0] 28)).alloc (.cells #[.bool false, .slice none 0 0] 28) = W at *
  generalize e3 : w.heap.size + 1 = g3 at *
  generalize e4 : g3 + 1 = g4 at *
  generalize e5 : g4 + 1 = g5 at *
  generalize e6 : g5 + 1 = g6 at *
  have HGE := Lib.hid (And.intro e3 (And.intro e4 (And.intro e5 e6)))
  clear e3 e4 e5 e6
  have K2 := Lib.hid k2
  have K4 := Lib.hid k4
  have K5 := Lib.hid k5
  have K6 := Lib.hid k6
  have HB := Lib.hid hbw
  obtain ⟨A3, c3, q3, z3⟩ := k3
  have a0 := q3.c0
  have a1 := q3.c1
  clear k2 k4 k5 k6 hbw q3 z3
  go_wp2_with fail
  refine (sign_z (z := 0)).mono ?_
  rintro e w1 ⟨rfl, hb⟩
  obtain ⟨A2, c2, q2, z2⟩ := K2.out.below hb
  have L4 := Lib.hid (K4.out.below hb)
  have L5 := Lib.hid (K5.out.below hb)
  have L6 := Lib.hid (K6.out.below hb)
  have LB := Lib.hid (thru HB.out hb)
  have Z2 := Lib.hid (z2.below (Below.refl w1.heap.size w1).drew)
  have Q2 := Lib.hid q2
  clear a0 a1 hb K2 K4 K5 K6 HB z2
  have a0 := q2.c0
  have a1 := q2.c1
  have l2 := q2.lt
  clear q2
  obtain ⟨B4, e4, b4, _⟩ := L4.out
  obtain ⟨B5, e5, b5, _⟩ := L5.out
  obtain ⟨B6, e6, b6, _⟩ := L6.out
  have N4 := Lib.hid b4
  have N5 := Lib.hid b5
  have N6 := Lib.hid b6
  have hge := HGE.out
  have ne1 : g4 ≠ g5 ∧ g5 ≠ g4 ∧ g4 ≠ g6 ∧ g6 ≠ g4 ∧ g5 ≠ g6 ∧ g6 ≠ g5 := by omega
  obtain ⟨ne1, ne2, ne3, ne4, ne5, ne6⟩ := ne1
  have ne7 : w.heap.size ≠ g4 ∧ w.heap.size ≠ g5 ∧ w.heap.size ≠ g6 := by omega
  obtain ⟨ne7, ne8, ne9⟩ := ne7
  clear b4 b5 b6 hge
  have hsb := sign_bd x
  have hw : Below w1.heap.size w1 w1.drew := (Below.refl _ _).drew
  have zc : ZIn w1.drew A2 c2 x := Z2.out
  go_upto_region 2 with fail
  go_region_held3 (fun w' => w'.cell? ⟨w.heap.size, 0, none⟩ = some (.bool (neg x)) ∧ w'.cell? ⟨w.heap.size, 1, none⟩ = some (.slice A2 (zl x) c2)) (first | (refine ⟨?_, ?_⟩ <;> repeat (first | with_reducible exact a0 | with_reducible exact a1 | with_reducible exact m0 | with_reducible exact m1 | with_reducible apply keep_drew | (with_reducible refine keep_set ?_ (by simp <;> omega) _)))) (first | (go_at_call 106; (with_reducible refine (abs_z zc).mono ?_); rintro e wn ⟨v, rfl, ⟨A7, c7, rfl, z7⟩, hb⟩; replace hw := thru hw hb; replace zc := zc.below hb; (try (replace z8 := z8.below hb)); have n2 := Q2.out.below hw Q2.out.lt; have m0 := n2.c0; have m1 := n2.c1; have n4 := N4.out.below hw N4.out.lt; have n5 := N5.out.below hw N5.out.lt; have n6 := N6.out.below hw N6.out.lt; have i0 := n4.c0; have i1 := n4.c1; have i2 := n4.f 0; have i3 := n4.f 1; have j0 := n5.c0; have j1 := n5.c1; have j2 := n5.f 0; have j3 := n5.f 1; have r0 := n6.c0; have r1 := n6.c1; have r2 := n6.f 0; have r3 := n6.f 1) | (go_at_call 74; (with_reducible refine (sign_z (z := x)).mono ?_); rintro e wn ⟨rfl, hb⟩; replace hw := thru hw hb; replace zc := zc.below hb; (try (replace z7 := z7.below hb)); have n2 := Q2.out.below hw Q2.out.lt; have m0 := n2.c0; have m1 := n2.c1; have n4 := N4.out.below hw N4.out.lt; have n5 := N5.out.below hw N5.out.lt; have n6 := N6.out.below hw N6.out.lt; have i0 := n4.c0; have i1 := n4.c1; have i2 := n4.f 0; have i3 := n4.f 1; have j0 := n5.c0; have j1 := n5.c1; have j2 := n5.f 0; have j3 := n5.f 1; have r0 := n6.c0; have r1 := n6.c1; have r2 := n6.f 0; have r3 := n6.f 1) | (go_at_call 72; (with_reducible refine (of_z (n := x.sign) (by omega) (by omega)).mono ?_); rintro e wn ⟨v, rfl, ⟨A8, c8, rfl, z8⟩, hb⟩; replace hw := thru hw hb; replace zc := zc.below hb; (try (replace z7 := z7.below hb)); have n2 := Q2.out.below hw Q2.out.lt; have m0 := n2.c0; have m1 := n2.c1; have n4 := N4.out.below hw N4.out.lt; have n5 := N5.out.below hw N5.out.lt; have n6 := N6.out.below hw N6.out.lt; have i0 := n4.c0; have i1 := n4.c1; have i2 := n4.f 0; have i3 := n4.f 1; have j0 := n5.c0; have j1 := n5.c1; have j2 := n5.f 0; have j3 := n5.f 1; have r0 := n6.c0; have r1 := n6.c1; have r2 := n6.f 0; have r3 := n6.f 1))
  all_goals (go_wp2_with fail)
  have u5 := n5.far2 (k := g4) ne2 (.bool (neg (x.natAbs : Int))) (.slice A7 (zl (x.natAbs : Int)) c7)
  have u6 := (n6.far2 (k := g4) ne4 (.bool (neg (x.natAbs : Int))) (.slice A7 (zl (x.natAbs : Int)) c7)).far2 (k := g5) ne6 (.bool (neg x.sign)) (.slice A8 (zl x.sign) c8)
  have y7 := U32.put3 (U32.put3 (U32.put3 z7 n4 (.bool (neg (x.natAbs : Int))) (.slice A7 (zl (x.natAbs : Int)) c7)) u5 (.bool (neg x.sign)) (.slice A8 (zl x.sign) c8)) u6 (.bool false) (.slice none 0 0)
  have y8 := U32.put3 (U32.put3 (U32.put3 z8 n4 (.bool (neg (x.natAbs : Int))) (.slice A7 (zl (x.natAbs : Int)) c7)) u5 (.bool (neg x.sign)) (.slice A8 (zl x.sign) c8)) u6 (.bool false) (.slice none 0 0)
  have hge := HGE.out
  have hbf := below_store2 (below_store2 (below_store2 (g := g4) (thru LB.out hw) (by omega) (.bool (neg (x.natAbs : Int))) (.slice A7 (zl (x.natAbs : Int)) c7)) (g := g5) (by omega) (.bool (neg x.sign)) (.slice A8 (zl x.sign) c8)) (g := g6) (by omega) (.bool false) (.slice none 0 0)
  exact bodyPost_ret (v := .tuple #[.agg #[.bool (neg (x.natAbs : Int)), .slice A7 (zl (x.natAbs : Int)) c7], .agg #[.bool (neg x.sign), .slice A8 (zl x.sign) c8], .agg #[.bool false, .slice none 0 0]]) (by simp [results, Tryd.results71, go_sem, i0, i1, j0, j1, r0, r1]) rfl
    ⟨_, _, _, rfl, ⟨_, _, rfl, y7⟩, ⟨_, _, rfl, y8⟩, ⟨none, 0, by rw [neg_zero, zl_zero], zin_nil _⟩, hbf⟩

end Go.Proofs.YtnldopjbiacbfaaDoor
