/- The reference's Gcd. No condition. -/
import Derived.Test.YtegglooojlheoaaDoorM39
import Derived.Test.YtegglooojlheoaaDoorM44

namespace Go.Proofs.YtegglooojlheoaaDoor
open Go.RowKit Anv
theorem r_alloc {w : World} {A : Option Addr} {c : Nat} {z : Int} (h : RIn w A c z) (o : Obj) : RIn (w.alloc o) A c z := u32_alloc h o
theorem r_drew {w : World} {A : Option Addr} {c : Nat} {z : Int} (h : RIn w A c z) : RIn w.drew A c z := u32_drew h
theorem abs_rx {A : Option Addr} {c : Nat} {z : Int} {w : World} (h : RIn w A c z) :
  Calls Tryd.prog 110 #[.agg #[.bool (neg z), .slice A (dl z) c]] w fun e w' => e = .returned (.agg #[.bool false, .slice A (dl z) c]) ∧ ∃ o o' o'', w' = ((w.alloc o).alloc o').alloc o'' := by
 have e1 : dl (sg false z.natAbs) = dl z := sg_dl _ _
 have e2 : neg (sg false z.natAbs) = false := neg_nat z.natAbs
 go_enter Tryd.func110, Tryd.ntmps110
 go_wp2_with fail
 refine (norm_xD (N := z.natAbs) (U32.below h (by exact below2 _ _ _))).mono ?_
 rintro e w1 ⟨rfl, o, rfl⟩
 rw [e1, e2]
 go_wp2
 exact bodyPost_ret (v := .agg #[.bool false, .slice A (dl z) c]) (by simp [results, Tryd.results110, go_sem]) rfl ⟨rfl, _, _, _, rfl⟩
set_option maxHeartbeats 4000000 in
theorem gcd_r {A B : Option Addr} {c d : Nat} {x y : Int} {w : World} (hx : RIn w A c x) (hy : RIn w B d y) (hn : dl x ≤ 50000) (hm : dl y ≤ 50000) :
  Calls Tryd.prog 123 #[.agg #[.bool (neg x), .slice A (dl x) c], .agg #[.bool (neg y), .slice B (dl y) d]] w fun e w' => ∃ v, e = .returned v ∧ RAt w' v ((Int.gcd x y : Nat) : Int) ∧ Below w.heap.size w w' := by
 go_enter Tryd.func123, Tryd.ntmps123
 go_upto_region 1 with fail
 have k := boxes3 (w := w) (t := 39) (t' := 39) (t'' := 39) (a0 := .bool (neg x)) (a1 := .slice A (dl x) c) (b0 := .bool (neg y)) (b1 := .slice B (dl y) d) (z0 := .bool false) (z1 := .slice none 0 0) (Below.refl _ _)
 replace hx := hx.below k.2.2.2.1
 replace hy := hy.below k.2.2.2.1
 generalize ((w.alloc (.cells #[.bool (neg x), .slice A (dl x) c] 39)).alloc (.cells #[.bool (neg y), .slice B (dl y) d] 39)).alloc (.cells #[.bool false, .slice none 0 0] 39) = W at *
 obtain ⟨k2, k3, k4, hb, hs⟩ := k
 have K4 := Lib.hid k4
 have HB := Lib.hid hb
 have HX := Lib.hid hx
 have HY := Lib.hid hy
 have a0 := k2.c0
 have a1 := k2.c1
 have a2 := k3.c0
 have a3 := k3.c1
 have l2 := k2.lt
 have l3 := k3.lt
 clear k4 hb hx hy k2 k3
 go_cut [5, 6] (fun s5 s6 wx => ∃ g5 g6 : Nat, s5 = .pointer (some ⟨g5, 0, none⟩) ∧ s6 = .pointer (some ⟨g6, 0, none⟩) ∧ Box2 39 wx g5 (.bool false) (.slice A (dl x) c) ∧ Box2 39 wx g6 (.bool false) (.slice B (dl y) d) ∧ g5 ≠ g6 ∧ W.heap.size ≤ g5 ∧ W.heap.size ≤ g6 ∧ Below W.heap.size W wx)
 case first =>
  go_region_held3 (fun w' => w'.cell? ⟨w.heap.size, 0, none⟩ = some (.bool (neg x)) ∧ w'.cell? ⟨w.heap.size, 1, none⟩ = some (.slice A (dl x) c) ∧ w'.cell? ⟨w.heap.size + 1, 0, none⟩ = some (.bool (neg y)) ∧ w'.cell? ⟨w.heap.size + 1, 1, none⟩ = some (.slice B (dl y) d)) (first | (refine keep4 a0 a1 a2 a3 l2 l3 ?_; repeat (first | with_reducible exact Below.refl _ _ | with_reducible apply Below.drew | (with_reducible refine Below.alloc ?_ (by simp <;> omega) _) | (with_reducible refine Below.setCell ?_ (by simp <;> omega) _)))) (first | (go_at_call 110; (with_reducible refine (abs_rx (by repeat (first | with_reducible exact HX.out | with_reducible exact HY.out | with_reducible apply r_drew | with_reducible apply r_alloc))).mono ?_); rintro e wn ⟨rfl, o, o', o'', rfl⟩))
  all_goals (go_wp2_with fail)
  all_goals go_meet
  all_goals refine ⟨_, _, rfl, rfl, ?_, ?_, by omega, by omega, by omega, ((stack_below W [_, _, _, _, _, _, _, _]).1).drew⟩
  all_goals first
   | (with_reducible exact oct0 W _ _ _ _ _ _ _ (by omega))
   | (with_reducible exact oct1 W _ _ _ _ _ _ _ (by omega))
   | (with_reducible exact oct2 W _ _ _ _ _ _ _ (by omega))
   | (with_reducible exact oct3 W _ _ _ _ _ _ _ (by omega))
   | (with_reducible exact oct4 W _ _ _ _ _ _ _ (by omega))
   | (with_reducible exact oct5 W _ _ _ _ _ _ _ (by omega))
   | (with_reducible exact oct6 W _ _ _ _ _ _ _ (by omega))
   | (with_reducible exact oct7 W _ _ _ _ _ _ _ (by omega))
 case rest =>
  obtain ⟨g5, g6, rfl, rfl, k5, k6, hne, hg5, hg6, hbc⟩ := hcut
  have k4 := K4.out.below hbc K4.out.lt
  have zx : RIn wc A c (x.natAbs : Int) := by unfold RIn; rw [dl_abs, Int.natAbs_natCast]; exact HX.out.below hbc
  have zy : RIn wc B d (y.natAbs : Int) := by unfold RIn; rw [dl_abs, Int.natAbs_natCast]; exact HY.out.below hbc
  rw [← neg_nat x.natAbs, ← dl_abs x] at k5
  rw [← neg_nat y.natAbs, ← dl_abs y] at k6
  have K5 := Lib.hid (And.intro k5 zx)
  have K6 := Lib.hid (And.intro k6 zy)
  have K4' := Lib.hid k4
  have HB' := Lib.hid (thru HB.out hbc)
  have HG := Lib.hid (show Nat.gcd x.natAbs y.natAbs = Int.gcd x y from rfl)
  have HL := Lib.hid (show dl (x.natAbs : Int) ≤ 50000 ∧ dl (y.natAbs : Int) ≤ 50000 by rw [dl_abs, dl_abs]; exact ⟨hn, hm⟩)
  clear k4 k5 k6 zx zy a0 a1 a2 a3 K4 HB HX HY hbc
  go_wp2_with fail
  go_loopg [7] y.natAbs (fun gn s9 wr => ∃ (m n : Nat) (A5 : Option Addr) (c5 : Nat) (A6 : Option Addr) (c6 : Nat), n = gn ∧ Hid (Nat.gcd m n = Int.gcd x y ∧ dl (m : Int) ≤ 50000 ∧ dl (n : Int) ≤ 50000) ∧
   Hid (Box2 39 wr g5 (.bool (neg (m : Int))) (.slice A5 (dl (m : Int)) c5) ∧ RIn wr A5 c5 (m : Int)) ∧ Hid (Box2 39 wr g6 (.bool (neg (n : Int))) (.slice A6 (dl (n : Int)) c6) ∧ RIn wr A6 c6 (n : Int)) ∧
   Hid (Box2 39 wr (w.heap.size + 1 + 1) (.bool false) (.slice none 0 0)) ∧ Hid (Below w.heap.size w wr))
  case atStart => exact ⟨x.natAbs, y.natAbs, A, c, B, d, rfl, ⟨HG.out, HL.out.1, HL.out.2⟩, K5.out, K6.out, K4'.out, HB'.out⟩
  case round =>
   clear K5 K6 K4' HB' HG HL
   obtain ⟨m, n, A5, c5, A6, c6, hgn, HI, K5, K6, K4, HB⟩ := hrel
   subst hgn
   have a0 := K6.out.1.c0
   have a1 := K6.out.1.c1
   by_cases h0 : n = 0
   ·subst h0
    have hl0 : dl ((0 : Nat) : Int) = 0 := dl_zero
    rw [hl0] at a1
    have t5 := K5.out.1
    have t4 := K4.out
    have HZ := Lib.hid K5.out.2
    have HB2 := Lib.hid HB.out
    have hE : m = Int.gcd x y := by have := HI.out.1; rwa [Nat.gcd_zero_right] at this
    clear a0 K5 K6 K4 HB HI
    subst hE
    have b0 := t5.c0
    have b1 := t5.c1
    have d0 := t4.c0
    have d1 := t4.c1
    have d2 := t4.f 0
    have d3 := t4.f 1
    go_wp2
    exact bodyPost_ret (v := .agg #[.bool (neg ((Int.gcd x y : Nat) : Int)), .slice A5 (dl ((Int.gcd x y : Nat) : Int)) c5]) (by simp [results, Tryd.results123, go_sem, d0, d1]) rfl ⟨_, rfl, ⟨_, _, rfl, U32.store2 HZ.out d0 d1 _ _⟩, below_store2 HB2.out (by omega) _ _⟩
   ·have hl0 : 0 < dl (n : Int) := dn_pos (by omega)
    have H0 := Lib.hid h0
    clear h0
    have C5 := K5
    have C6 := K6
    have C4 := K4
    have CB := HB
    clear a0 a1 K5 K6 K4 HB
    have a0 := C6.out.1.c0
    have a1 := C6.out.1.c1
    have b0 := C5.out.1.c0
    have b1 := C5.out.1.c1
    go_wp2_with fail
    refine (divmod_r C5.out.2 C6.out.2 HI.out.2.1 HI.out.2.2 (by have := H0.out; omega)).mono ?_
    rintro e w3 ⟨v, u, rfl, ⟨A7, c7, rfl, z7⟩, ⟨A8, c8, rfl, z8⟩, hb3⟩
    obtain ⟨r, hr⟩ : ∃ r, r = m % n := ⟨_, rfl⟩
    rw [show (m : Int) % (n : Int) = (r : Int) by rw [hr]; rfl] at z8 ⊢
    have HR := Lib.hid hr
    clear hr
    generalize (m : Int) / (n : Int) = q at *
    have b6 := below2 w3 (.cells #[.bool (neg q), .slice A7 (dl q) c7] 39) (.cells #[.bool (neg (r : Int)), .slice A8 (dl (r : Int)) c8] 39)
    have b7 := thru hb3 b6
    have k8 := Box2.new (w3.alloc (.cells #[.bool (neg q), .slice A7 (dl q) c7] 39)) 39 (.bool (neg (r : Int))) (.slice A8 (dl (r : Int)) c8)
    rw [show (w3.alloc (.cells #[.bool (neg q), .slice A7 (dl q) c7] 39)).heap.size = w3.heap.size + 1 by simp] at k8
    have n5 : g5 ≠ w3.heap.size + 1 := by have := C5.out.1.lt; have := hb3.size; omega
    have n6 : g6 ≠ w3.heap.size + 1 := by have := C6.out.1.lt; have := hb3.size; omega
    have hgw : w.heap.size + 1 + 1 ≠ g5 ∧ w.heap.size + 1 + 1 ≠ g6 := by omega
    have HGW := Lib.hid hgw
    clear hgw
    have t5 := C5.out.1.below b7 C5.out.1.lt
    have t6 := C6.out.1.below b7 C6.out.1.lt
    have D4 := Lib.hid (C4.out.below b7 C4.out.lt)
    have DB := Lib.hid (thru CB.out b7)
    have ZN := Lib.hid (C6.out.2.below b7)
    have ZR := Lib.hid (z8.below b6)
    clear a0 a1 b0 b1 hb3 b6 b7 z7 z8 C5 C6 C4 CB
    go_upto_region 4 with fail
    generalize (w3.alloc (.cells #[.bool (neg q), .slice A7 (dl q) c7] 39)).alloc (.cells #[.bool (neg (r : Int)), .slice A8 (dl (r : Int)) c8] 39) = W4 at *
    generalize w3.heap.size + 1 = g8 at *
    have n5' := n5.symm
    have n6' := n6.symm
    have hne' := hne.symm
    have a0 := t6.c0
    have a1 := t6.c1
    have a2 := t6.f 0
    have a3 := t6.f 1
    have b0 := t5.c0
    have b1 := t5.c1
    have b2 := t5.f 0
    have b3 := t5.f 1
    have e0 := k8.c0
    have e1 := k8.c1
    have T5 := Lib.hid t5
    have T6 := Lib.hid t6
    clear t5 t6 k8
    go_region
    all_goals (go_wp2_with fail)
    have HN0 := H0.out
    go_roundg r
    case measure => rw [HR.out]; exact Nat.mod_lt _ (by omega)
    case rel =>
     have u5 := T5.out
     have u6 := T6.out
     have v5 := (u5.put (.bool (neg (n : Int))) (.slice A6 (dl (n : Int)) c6)).far2 (k := g6) hne (.bool (neg (r : Int))) (.slice A8 (dl (r : Int)) c8)
     have v6 := (u6.far2 (k := g5) hne' (.bool (neg (n : Int))) (.slice A6 (dl (n : Int)) c6)).put (.bool (neg (r : Int))) (.slice A8 (dl (r : Int)) c8)
     have y6 := u6.far2 (k := g5) hne' (.bool (neg (n : Int))) (.slice A6 (dl (n : Int)) c6)
     have zn := U32.put3 (U32.put3 ZN.out u5 (.bool (neg (n : Int))) (.slice A6 (dl (n : Int)) c6)) y6 (.bool (neg (r : Int))) (.slice A8 (dl (r : Int)) c8)
     have zr := U32.put3 (U32.put3 ZR.out u5 (.bool (neg (n : Int))) (.slice A6 (dl (n : Int)) c6)) y6 (.bool (neg (r : Int))) (.slice A8 (dl (r : Int)) c8)
     refine ⟨n, r, A6, c6, A8, c8, rfl, ⟨by rw [HR.out, gcd_step]; exact HI.out.1, HI.out.2.2, ?_⟩, ⟨v5, RIn.below zn (Below.refl _ _).drew⟩, ⟨v6, RIn.below zr (Below.refl _ _).drew⟩, (D4.out.far2 HGW.out.1 _ _).far2 HGW.out.2 _ _, (below_store2 (below_store2 DB.out (by omega) _ _) (by omega) _ _).drew⟩
     have h1 : r ≤ n := by rw [HR.out]; exact Nat.le_of_lt (Nat.mod_lt _ (by omega))
     have h2 : dl (r : Int) ≤ dl (n : Int) := dn_mono (by omega)
     exact Nat.le_trans h2 HI.out.2.2
end Go.Proofs.YtegglooojlheoaaDoor
