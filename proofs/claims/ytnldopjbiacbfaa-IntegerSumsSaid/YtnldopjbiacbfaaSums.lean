/- The walk of IntegerSums: whatever two numbers and whatever small one, the answer is true and nothing that was there is written. No condition. -/
import Derived.Test.YtnldopjbiacbfaaLaw3
namespace Go.Proofs.Ytnldopjbiacbfaa
open Go.RowKit Anv

set_option maxRecDepth 100000 in
set_option maxHeartbeats 4000000 in
theorem sums_short {b0 b1 : Bool} {A0 A1 : Option Addr} {n0 n1 c0 c1 : Nat} {xs0 xs1 : List Nat} {c : Int} {w : World} (h0 : U32 w A0 n0 c0 xs0) (h1 : U32 w A1 n1 c1 xs1) (hs0 : n0 ≤ 60) (hs1 : n1 ≤ 60) (hc1 : -9223372036854775808 ≤ c) (hc2 : c ≤ 9223372036854775807) :
    Calls Try.prog 3 #[.agg #[.bool b0, .slice A0 n0 c0], .agg #[.bool b1, .slice A1 n1 c1], .int .i64 c] w fun e w' => e = .returned (.bool true) ∧ Below w.heap.size w w' := by
  go_enter Try.func3, Try.ntmps3
  go_wp2_with fail
  refine (live_true _).mono ?_
  rintro e w1 ⟨rfl, hb⟩
  obtain ⟨q0, q1, hbw, hs⟩ := boxes2 hb
  have a0 := q0.c0
  have a1 := q0.c1
  have a2 := q1.c0
  have a3 := q1.c1
  clear hb
  go_wp2_with fail
  refine (long2 (Nat.le_trans h0.cap h0.big) (Nat.le_trans h1.cap h1.big) false (by simp; omega)).mono ?_
  rintro e w2 ⟨rfl, hb⟩
  have q0 := q0.below hb q0.lt
  have q1 := q1.below hb q1.lt
  have hbw := thru hbw hb
  clear a0 a1 a2 a3 hs hb
  have a0 := q0.c0
  have a1 := q0.c1
  have a2 := q1.c0
  have a3 := q1.c1
  go_wp2_with fail
  refine (of_some (h0.below hbw) hs0).mono ?_
  rintro e w3 ⟨x, A7, A8, c7, c8, rfl, zx, zp, lx, lp, hb⟩
  replace q1 := q1.below hb q1.lt
  replace hbw := thru hbw hb
  have hs3 := q1.lt
  clear a0 a1 a2 a3 hb q0
  have q1' := (q1.alloc (.cells #[.bool (neg x), .slice A7 (zl x) c7] 28)).alloc (.cells #[.bool (neg x), .slice A8 (dl x) c8] 30)
  have bq := (hbw.alloc hbw.size (.cells #[.bool (neg x), .slice A7 (zl x) c7] 28)).alloc (by have := hbw.size; simp; omega) (.cells #[.bool (neg x), .slice A8 (dl x) c8] 30)
  have a2 := q1'.c0
  have a3 := q1'.c1
  go_wp2_with fail
  refine (of_some (h1.below bq) hs1).mono ?_
  rintro e w4 ⟨y, A9, A10, c9, c10, rfl, zy, zq, ly, lq, hb⟩
  have k := boxes2 hb
  have k7 := k.1
  have k8 := k.2.1
  have b4 := k.2.2.1
  replace zx := zx.below b4
  replace zp := zp.below b4
  replace hbw := thru hbw b4
  have l7 := k7.lt
  have l8 := k8.lt
  clear hb k q1 q1' bq a2 a3 b4
  have k7' := (k7.alloc (.cells #[.bool (neg y), .slice A9 (zl y) c9] 28)).alloc (.cells #[.bool (neg y), .slice A10 (dl y) c10] 30)
  have k8' := (k8.alloc (.cells #[.bool (neg y), .slice A9 (zl y) c9] 28)).alloc (.cells #[.bool (neg y), .slice A10 (dl y) c10] 30)
  have a0 := k7'.c0
  have a1 := k7'.c1
  have a2 := k8'.c0
  have a3 := k8'.c1
  clear k7' k8'
  go_wp2_with fail
  have k := boxes2 (Below.refl _ ((w4.alloc (.cells #[.bool (neg y), .slice A9 (zl y) c9] 28)).alloc (.cells #[.bool (neg y), .slice A10 (dl y) c10] 30)))
  have k9 := k.1
  have k10 := k.2.1
  have b5 := k.2.2.1
  replace k7 := (k7.alloc (.cells #[.bool (neg y), .slice A9 (zl y) c9] 28)).alloc (.cells #[.bool (neg y), .slice A10 (dl y) c10] 30)
  replace k8 := (k8.alloc (.cells #[.bool (neg y), .slice A9 (zl y) c9] 28)).alloc (.cells #[.bool (neg y), .slice A10 (dl y) c10] 30)
  replace zx := zx.below b5
  replace zp := zp.below b5
  replace zy := zy.below b5
  replace zq := zq.below b5
  have bw := thru hbw b5
  clear k b5 hbw a0 a1 a2 a3
  generalize (w4.alloc (.cells #[.bool (neg y), .slice A9 (zl y) c9] 28)).alloc (.cells #[.bool (neg y), .slice A10 (dl y) c10] 30) = w5 at *
  have lc := zl_small hc1 hc2
  have ld := dl_small hc1 hc2
  have hd7 : Box2 28 w5.drew w3.heap.size (.bool (neg x)) (.slice A7 (zl x) c7) := k7
  have hd8 : Box2 30 w5.drew (w3.heap.size + 1) (.bool (neg x)) (.slice A8 (dl x) c8) := k8
  have hd9 : Box2 28 w5.drew w4.heap.size (.bool (neg y)) (.slice A9 (zl y) c9) := k9
  have hd10 : Box2 30 w5.drew (w4.heap.size + 1) (.bool (neg y)) (.slice A10 (dl y) c10) := k10
  have hd1 : ZIn w5.drew A7 c7 x := zx.below (Below.refl _ _).drew
  have hd2 : RIn w5.drew A8 c8 x := zp.below (Below.refl _ _).drew
  have hd3 : ZIn w5.drew A9 c9 y := zy.below (Below.refl _ _).drew
  have hd4 : RIn w5.drew A10 c10 y := zq.below (Below.refl _ _).drew
  have hd5 : Below w.heap.size w w5.drew := bw.drew
  clear k7 k8 k9 k10 zx zp zy zq bw
  have k7 := hd7
  have k8 := hd8
  have k9 := hd9
  have k10 := hd10
  have zx := hd1
  have zp := hd2
  have zy := hd3
  have zq := hd4
  have bw := hd5
  clear hd7 hd8 hd9 hd10 hd1 hd2 hd3 hd4 hd5
  simp only [List.append_eq, List.cons_append, List.nil_append]
  go_region_held3 (fun w' => w'.cell? ⟨w3.heap.size, 0, none⟩ = some (.bool (neg x)) ∧ w'.cell? ⟨w3.heap.size, 1, none⟩ = some (.slice A7 (zl x) c7) ∧ w'.cell? ⟨w3.heap.size + 1, 0, none⟩ = some (.bool (neg x)) ∧ w'.cell? ⟨w3.heap.size + 1, 1, none⟩ = some (.slice A8 (dl x) c8) ∧ w'.cell? ⟨w4.heap.size, 0, none⟩ = some (.bool (neg y)) ∧ w'.cell? ⟨w4.heap.size, 1, none⟩ = some (.slice A9 (zl y) c9) ∧ w'.cell? ⟨w4.heap.size + 1, 0, none⟩ = some (.bool (neg y)) ∧ w'.cell? ⟨w4.heap.size + 1, 1, none⟩ = some (.slice A10 (dl y) c10)) (first | (with_reducible exact ⟨k7.c0, k7.c1, k8.c0, k8.c1, k9.c0, k9.c1, k10.c0, k10.c1⟩) | go_keep)
    (first | (go_at_call 11; refine (sign_z (z := x)).mono ?_; rintro e wn ⟨rfl, hb⟩; replace k7 := k7.below hb k7.lt; replace k8 := k8.below hb k8.lt; replace k9 := k9.below hb k9.lt; replace k10 := k10.below hb k10.lt; replace zx := zx.below hb; replace zp := zp.below hb; replace zy := zy.below hb; replace zq := zq.below hb; replace bw := thru bw hb; clear hb) | (go_at_call 12; refine (sign_r (z := x)).mono ?_; rintro e wn ⟨rfl, hb⟩; replace k7 := k7.below hb k7.lt; replace k8 := k8.below hb k8.lt; replace k9 := k9.below hb k9.lt; replace k10 := k10.below hb k10.lt; replace zx := zx.below hb; replace zp := zp.below hb; replace zy := zy.below hb; replace zq := zq.below hb; replace bw := thru bw hb; clear hb) | (go_at_call 13; refine (cmp_z zx zy).mono ?_; rintro e wn ⟨rfl, hb⟩; replace k7 := k7.below hb k7.lt; replace k8 := k8.below hb k8.lt; replace k9 := k9.below hb k9.lt; replace k10 := k10.below hb k10.lt; replace zx := zx.below hb; replace zp := zp.below hb; replace zy := zy.below hb; replace zq := zq.below hb; replace bw := thru bw hb; clear hb) | (go_at_call 14; refine (cmp_r zp zq).mono ?_; rintro e wn ⟨rfl, hb⟩; replace k7 := k7.below hb k7.lt; replace k8 := k8.below hb k8.lt; replace k9 := k9.below hb k9.lt; replace k10 := k10.below hb k10.lt; replace zx := zx.below hb; replace zp := zp.below hb; replace zy := zy.below hb; replace zq := zq.below hb; replace bw := thru bw hb; clear hb) | (go_at_call 16; refine (neg_z zx).mono ?_; rintro e wn ⟨v, rfl, ⟨B1, d1, rfl, z1⟩, hb⟩; replace k7 := k7.below hb k7.lt; replace k8 := k8.below hb k8.lt; replace k9 := k9.below hb k9.lt; replace k10 := k10.below hb k10.lt; replace zx := zx.below hb; replace zp := zp.below hb; replace zy := zy.below hb; replace zq := zq.below hb; replace bw := thru bw hb; have lz1 := lz_neg lx; clear hb) | (go_at_call 17; refine (neg_r zp).mono ?_; rintro e wn ⟨v, rfl, ⟨B2, d2, rfl, z2⟩, hb⟩; replace k7 := k7.below hb k7.lt; replace k8 := k8.below hb k8.lt; replace k9 := k9.below hb k9.lt; replace k10 := k10.below hb k10.lt; replace zx := zx.below hb; replace zp := zp.below hb; replace zy := zy.below hb; replace zq := zq.below hb; replace bw := thru bw hb; replace z1 := z1.below hb; have lr2 := lr_neg lp; clear hb) | (go_at_call 18; refine (abs_z zx).mono ?_; rintro e wn ⟨v, rfl, ⟨B1, d1, rfl, z1⟩, hb⟩; replace k7 := k7.below hb k7.lt; replace k8 := k8.below hb k8.lt; replace k9 := k9.below hb k9.lt; replace k10 := k10.below hb k10.lt; replace zx := zx.below hb; replace zp := zp.below hb; replace zy := zy.below hb; replace zq := zq.below hb; replace bw := thru bw hb; have lz1 := lz_abs lx; clear hb) | (go_at_call 19; refine (abs_r zp).mono ?_; rintro e wn ⟨v, rfl, ⟨B2, d2, rfl, z2⟩, hb⟩; replace k7 := k7.below hb k7.lt; replace k8 := k8.below hb k8.lt; replace k9 := k9.below hb k9.lt; replace k10 := k10.below hb k10.lt; replace zx := zx.below hb; replace zp := zp.below hb; replace zy := zy.below hb; replace zq := zq.below hb; replace bw := thru bw hb; replace z1 := z1.below hb; have lr2 := lr_abs lp; clear hb) | (go_at_call 20; refine (add_z zx zy (by omega) (by omega)).mono ?_; rintro e wn ⟨v, rfl, ⟨B1, d1, rfl, z1⟩, hb⟩; replace k7 := k7.below hb k7.lt; replace k8 := k8.below hb k8.lt; replace k9 := k9.below hb k9.lt; replace k10 := k10.below hb k10.lt; replace zx := zx.below hb; replace zp := zp.below hb; replace zy := zy.below hb; replace zq := zq.below hb; replace bw := thru bw hb; have lz1 := lz_add lx ly; clear hb) | (go_at_call 21; refine (add_r zp zq (by omega) (by omega)).mono ?_; rintro e wn ⟨v, rfl, ⟨B2, d2, rfl, z2⟩, hb⟩; replace k7 := k7.below hb k7.lt; replace k8 := k8.below hb k8.lt; replace k9 := k9.below hb k9.lt; replace k10 := k10.below hb k10.lt; replace zx := zx.below hb; replace zp := zp.below hb; replace zy := zy.below hb; replace zq := zq.below hb; replace bw := thru bw hb; replace z1 := z1.below hb; have lr2 := lr_add lp lq; clear hb) | (go_at_call 22; refine (sub_z zx zy (by omega) (by omega)).mono ?_; rintro e wn ⟨v, rfl, ⟨B1, d1, rfl, z1⟩, hb⟩; replace k7 := k7.below hb k7.lt; replace k8 := k8.below hb k8.lt; replace k9 := k9.below hb k9.lt; replace k10 := k10.below hb k10.lt; replace zx := zx.below hb; replace zp := zp.below hb; replace zy := zy.below hb; replace zq := zq.below hb; replace bw := thru bw hb; have lz1 := lz_sub lx ly; clear hb) | (go_at_call 23; refine (sub_r zp zq (by omega) (by omega)).mono ?_; rintro e wn ⟨v, rfl, ⟨B2, d2, rfl, z2⟩, hb⟩; replace k7 := k7.below hb k7.lt; replace k8 := k8.below hb k8.lt; replace k9 := k9.below hb k9.lt; replace k10 := k10.below hb k10.lt; replace zx := zx.below hb; replace zp := zp.below hb; replace zy := zy.below hb; replace zq := zq.below hb; replace bw := thru bw hb; replace z1 := z1.below hb; have lr2 := lr_sub lp lq; clear hb) | (go_at_call 24; refine (mul_z zx zy (by omega) (by omega)).mono ?_; rintro e wn ⟨v, rfl, ⟨B1, d1, rfl, z1⟩, hb⟩; replace k7 := k7.below hb k7.lt; replace k8 := k8.below hb k8.lt; replace k9 := k9.below hb k9.lt; replace k10 := k10.below hb k10.lt; replace zx := zx.below hb; replace zp := zp.below hb; replace zy := zy.below hb; replace zq := zq.below hb; replace bw := thru bw hb; have lz1 := lz_mul lx ly; clear hb) | (go_at_call_of 25 (Value.agg #[Value.bool (neg y), Value.slice A10 (dl y) c10]); refine (mul_r zp zq (by omega) (by omega)).mono ?_; rintro e wn ⟨v, rfl, ⟨B2, d2, rfl, z2⟩, hb⟩; replace k7 := k7.below hb k7.lt; replace k8 := k8.below hb k8.lt; replace k9 := k9.below hb k9.lt; replace k10 := k10.below hb k10.lt; replace zx := zx.below hb; replace zp := zp.below hb; replace zy := zy.below hb; replace zq := zq.below hb; replace bw := thru bw hb; replace z1 := z1.below hb; have lr2 := lr_mul lp lq; clear hb) | (go_at_call 26; refine (times_z zx (by omega) hc1 hc2).mono ?_; rintro e wn ⟨v, rfl, ⟨B1, d1, rfl, z1⟩, hb⟩; replace k7 := k7.below hb k7.lt; replace k8 := k8.below hb k8.lt; replace k9 := k9.below hb k9.lt; replace k10 := k10.below hb k10.lt; replace zx := zx.below hb; replace zp := zp.below hb; replace zy := zy.below hb; replace zq := zq.below hb; replace bw := thru bw hb; have lz1 := lz_times lx hc1 hc2; clear hb) | (go_at_call 27; refine (of_r hc1 hc2).mono ?_; rintro e wn ⟨v, rfl, ⟨B3, d3, rfl, z3⟩, hb⟩; replace k7 := k7.below hb k7.lt; replace k8 := k8.below hb k8.lt; replace k9 := k9.below hb k9.lt; replace k10 := k10.below hb k10.lt; replace zx := zx.below hb; replace zp := zp.below hb; replace zy := zy.below hb; replace zq := zq.below hb; replace bw := thru bw hb; replace z1 := z1.below hb; clear hb) | (go_at_call 25; refine (mul_r zp z3 (by omega) (by omega)).mono ?_; rintro e wn ⟨v, rfl, ⟨B2, d2, rfl, z2⟩, hb⟩; replace k7 := k7.below hb k7.lt; replace k8 := k8.below hb k8.lt; replace k9 := k9.below hb k9.lt; replace k10 := k10.below hb k10.lt; replace zx := zx.below hb; replace zp := zp.below hb; replace zy := zy.below hb; replace zq := zq.below hb; replace bw := thru bw hb; replace z1 := z1.below hb; have lr2 := lr_times lp hc1 hc2; clear hb) | (go_at_call 15; refine (is_true z1 z2 lz1 lr2).mono ?_; rintro e wn ⟨rfl, hb⟩; replace k7 := k7.below hb k7.lt; replace k8 := k8.below hb k8.lt; replace k9 := k9.below hb k9.lt; replace k10 := k10.below hb k10.lt; replace zx := zx.below hb; replace zp := zp.below hb; replace zy := zy.below hb; replace zq := zq.below hb; replace bw := thru bw hb; clear z1 z2 lz1 lr2; clear hb) | (go_at_call 8; refine (live_true _).mono ?_; rintro e wn ⟨rfl, hb⟩; replace k7 := k7.below hb k7.lt; replace k8 := k8.below hb k8.lt; replace k9 := k9.below hb k9.lt; replace k10 := k10.below hb k10.lt; replace zx := zx.below hb; replace zp := zp.below hb; replace zy := zy.below hb; replace zq := zq.below hb; replace bw := thru bw hb; clear hb))
  go_wp2
  go_ret
  exact ⟨rfl, bw⟩

end Go.Proofs.Ytnldopjbiacbfaa
