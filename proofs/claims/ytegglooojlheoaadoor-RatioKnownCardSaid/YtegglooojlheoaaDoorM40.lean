/- integer.Gcd. No condition. -/
import Derived.Test.YtegglooojlheoaaDoorM21
import Derived.Deep.LoopGhost
import Derived.WalkMore

namespace Go.Proofs.YtegglooojlheoaaDoor
open Go.RowKit Anv
theorem abs_x {A : Option Addr} {c : Nat} {z : Int} {w : World} :
    Calls Tryd.prog 86 #[.agg #[.bool (neg z), .slice A (zl z) c]] w fun e w' => e = .returned (.agg #[.bool false, .slice A (zl z) c]) ∧ ∃ o o' o'', w' = ((w.alloc o).alloc o').alloc o'' := by
  go_enter Tryd.func86, Tryd.ntmps86
  go_wp2_with fail
  refine (made_x _ _ _ _ _).mono ?_
  rintro e w1 ⟨rfl, o, rfl⟩
  go_wp2
  exact bodyPost_ret (v := .agg #[.bool false, .slice A (zl z) c]) (by simp [results, Tryd.results86, go_sem]) rfl ⟨rfl, _, _, _, rfl⟩
def stack (w : World) : List Obj → World
  | [] => w
  | o :: l => stack (w.alloc o) l
theorem stack_below (w : World) (l : List Obj) : Below w.heap.size w (stack w l) ∧ (stack w l).heap.size = w.heap.size + l.length := by
  induction l generalizing w with
  | nil => exact ⟨Below.refl _ _, rfl⟩
  | cons o l ih =>
    have h := ih (w.alloc o)
    have e : (w.alloc o).heap.size = w.heap.size + 1 := by simp
    refine ⟨thru (below1 w o) h.1, ?_⟩
    show (stack (w.alloc o) l).heap.size = _
    rw [h.2, e, List.length_cons]; omega
theorem stack_at (w : World) (l : List Obj) (i : Nat) (o : Obj) (h : l[i]? = some o) : (stack w l).heap[w.heap.size + i]? = some o := by
  induction l generalizing w i with
  | nil => simp at h
  | cons a l ih =>
    have hs := (stack_below (w.alloc a) l).1
    have e : (w.alloc a).heap.size = w.heap.size + 1 := by simp
    rcases i with _ | i
    · simp at h
      subst h
      show (stack (w.alloc a) l).heap[w.heap.size]? = _
      rw [hs.block w.heap.size (by omega)]
      exact heap_alloc_new w a
    · have := ih (w.alloc a) i (by simpa using h)
      rw [e, show w.heap.size + 1 + i = w.heap.size + (i + 1) by omega] at this
      exact this
theorem eight_box {w : World} {l : List Obj} (i : Nat) {t : TypeId} {u v : Value} {g : Nat} (hg : g = w.heap.size + i) (h : l[i]? = some (.cells #[u, v] t)) : Box2 t (stack w l).drew g u v := by
  subst hg; exact stack_at w l i _ h
theorem oct0 (w : World) (b c d e f g h : Obj) {t : TypeId} {u v : Value} {n : Nat} (hn : n = w.heap.size + 0) : Box2 t ((((((((w.alloc (.cells #[u, v] t)).alloc b).alloc c).alloc d).alloc e).alloc f).alloc g).alloc h).drew n u v := eight_box (w := w) (l := [(.cells #[u, v] t), b, c, d, e, f, g, h]) 0 hn rfl
theorem oct1 (w : World) (a c d e f g h : Obj) {t : TypeId} {u v : Value} {n : Nat} (hn : n = w.heap.size + 1) : Box2 t ((((((((w.alloc a).alloc (.cells #[u, v] t)).alloc c).alloc d).alloc e).alloc f).alloc g).alloc h).drew n u v := eight_box (w := w) (l := [a, (.cells #[u, v] t), c, d, e, f, g, h]) 1 hn rfl
theorem oct2 (w : World) (a b d e f g h : Obj) {t : TypeId} {u v : Value} {n : Nat} (hn : n = w.heap.size + 2) : Box2 t ((((((((w.alloc a).alloc b).alloc (.cells #[u, v] t)).alloc d).alloc e).alloc f).alloc g).alloc h).drew n u v := eight_box (w := w) (l := [a, b, (.cells #[u, v] t), d, e, f, g, h]) 2 hn rfl
theorem oct3 (w : World) (a b c e f g h : Obj) {t : TypeId} {u v : Value} {n : Nat} (hn : n = w.heap.size + 3) : Box2 t ((((((((w.alloc a).alloc b).alloc c).alloc (.cells #[u, v] t)).alloc e).alloc f).alloc g).alloc h).drew n u v := eight_box (w := w) (l := [a, b, c, (.cells #[u, v] t), e, f, g, h]) 3 hn rfl
theorem oct4 (w : World) (a b c d f g h : Obj) {t : TypeId} {u v : Value} {n : Nat} (hn : n = w.heap.size + 4) : Box2 t ((((((((w.alloc a).alloc b).alloc c).alloc d).alloc (.cells #[u, v] t)).alloc f).alloc g).alloc h).drew n u v := eight_box (w := w) (l := [a, b, c, d, (.cells #[u, v] t), f, g, h]) 4 hn rfl
theorem oct5 (w : World) (a b c d e g h : Obj) {t : TypeId} {u v : Value} {n : Nat} (hn : n = w.heap.size + 5) : Box2 t ((((((((w.alloc a).alloc b).alloc c).alloc d).alloc e).alloc (.cells #[u, v] t)).alloc g).alloc h).drew n u v := eight_box (w := w) (l := [a, b, c, d, e, (.cells #[u, v] t), g, h]) 5 hn rfl
theorem oct6 (w : World) (a b c d e f h : Obj) {t : TypeId} {u v : Value} {n : Nat} (hn : n = w.heap.size + 6) : Box2 t ((((((((w.alloc a).alloc b).alloc c).alloc d).alloc e).alloc f).alloc (.cells #[u, v] t)).alloc h).drew n u v := eight_box (w := w) (l := [a, b, c, d, e, f, (.cells #[u, v] t), h]) 6 hn rfl
theorem oct7 (w : World) (a b c d e f g : Obj) {t : TypeId} {u v : Value} {n : Nat} (hn : n = w.heap.size + 7) : Box2 t ((((((((w.alloc a).alloc b).alloc c).alloc d).alloc e).alloc f).alloc g).alloc (.cells #[u, v] t)).drew n u v := eight_box (w := w) (l := [a, b, c, d, e, f, g, (.cells #[u, v] t)]) 7 hn rfl
theorem keep4 {W X : World} {B g2 g3 : Nat} {v0 v1 v2 v3 : Value} (a0 : W.cell? ⟨g2, 0, none⟩ = some v0) (a1 : W.cell? ⟨g2, 1, none⟩ = some v1) (a2 : W.cell? ⟨g3, 0, none⟩ = some v2) (a3 : W.cell? ⟨g3, 1, none⟩ = some v3) (l2 : g2 < B) (l3 : g3 < B) (h : Below B W X) :
    X.cell? ⟨g2, 0, none⟩ = some v0 ∧ X.cell? ⟨g2, 1, none⟩ = some v1 ∧ X.cell? ⟨g3, 0, none⟩ = some v2 ∧ X.cell? ⟨g3, 1, none⟩ = some v3 :=
  ⟨(h.cell (p := ⟨g2, 0, none⟩) l2).trans a0, (h.cell (p := ⟨g2, 1, none⟩) l2).trans a1, (h.cell (p := ⟨g3, 0, none⟩) l3).trans a2, (h.cell (p := ⟨g3, 1, none⟩) l3).trans a3⟩
theorem neg_nat (n : Nat) : neg (n : Int) = false := by unfold neg; simp
theorem gcd_step (m n : Nat) : Nat.gcd n (m % n) = Nat.gcd m n := by
  rw [Nat.gcd_comm n (m % n), ← Nat.gcd_rec n m, Nat.gcd_comm]
set_option maxHeartbeats 4000000 in
theorem gcd_z {A B : Option Addr} {c d : Nat} {x y : Int} {w : World} (hx : ZIn w A c x) (hy : ZIn w B d y) (hn : zl x ≤ 100000) (hm : zl y ≤ 100000) :
    Calls Tryd.prog 93 #[.agg #[.bool (neg x), .slice A (zl x) c], .agg #[.bool (neg y), .slice B (zl y) d]] w fun e w' => ∃ v, e = .returned v ∧ ZAt w' v ((Int.gcd x y : Nat) : Int) ∧ Below w.heap.size w w' := by
  go_enter Tryd.func93, Tryd.ntmps93
  go_wp2_with fail
  go_step3
  go_upto_region 1 with fail
  have k := boxes3 (w := w) (t := 36) (t' := 36) (t'' := 36) (a0 := .bool (neg x)) (a1 := .slice A (zl x) c) (b0 := .bool (neg y)) (b1 := .slice B (zl y) d) (z0 := .bool false) (z1 := .slice none 0 0) (Below.refl _ _)
  replace hx := hx.below k.2.2.2.1
  replace hy := hy.below k.2.2.2.1
  generalize ((w.alloc (.cells #[.bool (neg x), .slice A (zl x) c] 36)).alloc (.cells #[.bool (neg y), .slice B (zl y) d] 36)).alloc (.cells #[.bool false, .slice none 0 0] 36) = W at *
  obtain ⟨k2, k3, k4, hb, hs⟩ := k
  have K4 := Lib.hid k4
  have HB := Lib.hid hb
  have HX := Lib.hid hx
  have HY := Lib.hid hy
  have a0 := k2.c0
  have a1 := k2.c1
  have a2 := k3.c0
  have a3 := k3.c1
  have l2 := k2.lt
  have l3 := k3.lt
  clear k4 hb hx hy k2 k3
  go_cut [5, 6] (fun s5 s6 wx => ∃ g5 g6 : Nat, s5 = .pointer (some ⟨g5, 0, none⟩) ∧ s6 = .pointer (some ⟨g6, 0, none⟩) ∧ Box2 36 wx g5 (.bool false) (.slice A (zl x) c) ∧ Box2 36 wx g6 (.bool false) (.slice B (zl y) d) ∧ g5 ≠ g6 ∧ W.heap.size ≤ g5 ∧ W.heap.size ≤ g6 ∧ Below W.heap.size W wx)
  case first =>
    go_region_held3 (fun w' => w'.cell? ⟨w.heap.size, 0, none⟩ = some (.bool (neg x)) ∧ w'.cell? ⟨w.heap.size, 1, none⟩ = some (.slice A (zl x) c) ∧ w'.cell? ⟨w.heap.size + 1, 0, none⟩ = some (.bool (neg y)) ∧ w'.cell? ⟨w.heap.size + 1, 1, none⟩ = some (.slice B (zl y) d)) (first | (refine keep4 a0 a1 a2 a3 l2 l3 ?_; repeat (first | with_reducible exact Below.refl _ _ | with_reducible apply Below.drew | (with_reducible refine Below.alloc ?_ (by simp <;> omega) _) | (with_reducible refine Below.setCell ?_ (by simp <;> omega) _)))) (first | (go_at_call 86; (with_reducible refine abs_x.mono ?_); rintro e wn ⟨rfl, o, o', o'', rfl⟩))
    all_goals (go_wp2_with fail)
    all_goals go_meet
    all_goals refine ⟨_, _, rfl, rfl, ?_, ?_, by omega, by omega, by omega, ((stack_below W [_, _, _, _, _, _, _, _]).1).drew⟩
    all_goals first
      | (with_reducible exact oct0 W _ _ _ _ _ _ _ (by omega))
      | (with_reducible exact oct1 W _ _ _ _ _ _ _ (by omega))
      | (with_reducible exact oct2 W _ _ _ _ _ _ _ (by omega))
      | (with_reducible exact oct3 W _ _ _ _ _ _ _ (by omega))
      | (with_reducible exact oct4 W _ _ _ _ _ _ _ (by omega))
      | (with_reducible exact oct5 W _ _ _ _ _ _ _ (by omega))
      | (with_reducible exact oct6 W _ _ _ _ _ _ _ (by omega))
      | (with_reducible exact oct7 W _ _ _ _ _ _ _ (by omega))
  case rest =>
    obtain ⟨g5, g6, rfl, rfl, k5, k6, hne, hg5, hg6, hbc⟩ := hcut
    have k4 := K4.out.below hbc K4.out.lt
    have zx : ZIn wc A c (x.natAbs : Int) := by unfold ZIn; rw [zl_abs, Int.natAbs_natCast]; exact HX.out.below hbc
    have zy : ZIn wc B d (y.natAbs : Int) := by unfold ZIn; rw [zl_abs, Int.natAbs_natCast]; exact HY.out.below hbc
    rw [← neg_nat x.natAbs, ← zl_abs x] at k5
    rw [← neg_nat y.natAbs, ← zl_abs y] at k6
    have K5 := Lib.hid (And.intro k5 zx)
    have K6 := Lib.hid (And.intro k6 zy)
    have K4' := Lib.hid k4
    have HB' := Lib.hid (thru HB.out hbc)
    have HG := Lib.hid (show Nat.gcd x.natAbs y.natAbs = Int.gcd x y from rfl)
    have HL := Lib.hid (show zl (x.natAbs : Int) ≤ 100000 ∧ zl (y.natAbs : Int) ≤ 100000 by rw [zl_abs, zl_abs]; exact ⟨hn, hm⟩)
    clear k4 k5 k6 zx zy a0 a1 a2 a3 K4 HB HX HY hbc
    go_wp2_with fail
    go_step3
    go_wp2_with fail
    go_loopg [9] y.natAbs (fun gn s9 wr => ∃ (m n : Nat) (A5 : Option Addr) (c5 : Nat) (A6 : Option Addr) (c6 : Nat), n = gn ∧ Hid (Nat.gcd m n = Int.gcd x y ∧ zl (m : Int) ≤ 100000 ∧ zl (n : Int) ≤ 100000) ∧
      Hid (Box2 36 wr g5 (.bool (neg (m : Int))) (.slice A5 (zl (m : Int)) c5) ∧ ZIn wr A5 c5 (m : Int)) ∧ Hid (Box2 36 wr g6 (.bool (neg (n : Int))) (.slice A6 (zl (n : Int)) c6) ∧ ZIn wr A6 c6 (n : Int)) ∧
      Hid (Box2 36 wr (w.heap.size + 1 + 1) (.bool false) (.slice none 0 0)) ∧ Hid (Below w.heap.size w wr))
    case atStart => exact ⟨x.natAbs, y.natAbs, A, c, B, d, rfl, ⟨HG.out, HL.out.1, HL.out.2⟩, K5.out, K6.out, K4'.out, HB'.out⟩
    case round =>
      clear K5 K6 K4' HB' HG HL
      obtain ⟨m, n, A5, c5, A6, c6, hgn, HI, K5, K6, K4, HB⟩ := hrel
      subst hgn
      have a0 := K6.out.1.c0
      have a1 := K6.out.1.c1
      by_cases h0 : n = 0
      · subst h0
        have hsg : (((0 : Nat) : Int).sign != 0) = false := rfl
        go_wp2_with fail
        refine (sign_z (z := ((0 : Nat) : Int))).mono ?_
        rintro e w2 ⟨rfl, hb2⟩
        have t5 := K5.out.1.below hb2 K5.out.1.lt
        have t4 := K4.out.below hb2 K4.out.lt
        have HZ := Lib.hid (K5.out.2.below hb2)
        have HB2 := Lib.hid (thru HB.out hb2)
        have hE : m = Int.gcd x y := by have := HI.out.1; rwa [Nat.gcd_zero_right] at this
        clear a0 a1 hb2 K5 K6 K4 HB HI
        subst hE
        have b0 := t5.c0
        have b1 := t5.c1
        have d0 := t4.c0
        have d1 := t4.c1
        have d2 := t4.f 0
        have d3 := t4.f 1
        go_wp2
        rw [Exit.noGoto_ret]
        exact bodyPost_ret (v := .agg #[.bool (neg ((Int.gcd x y : Nat) : Int)), .slice A5 (zl ((Int.gcd x y : Nat) : Int)) c5]) (by simp [results, Tryd.results93, go_sem, d0, d1]) rfl ⟨_, rfl, ⟨_, _, rfl, U32.store2 HZ.out d0 d1 _ _⟩, below_store2 HB2.out (by omega) _ _⟩
      · have hsg : ((n : Int).sign != 0) = true := by
          have : (n : Int).sign ≠ 0 := fun h => h0 (by have := Int.sign_eq_zero_iff_zero.1 h; omega)
          simpa using this
        have H0 := Lib.hid h0
        clear h0
        go_wp2_with fail
        refine (sign_z (z := (n : Int))).mono ?_
        rintro e w2 ⟨rfl, hb2⟩
        have C5 := Lib.hid (And.intro (K5.out.1.below hb2 K5.out.1.lt) (K5.out.2.below hb2))
        have C6 := Lib.hid (And.intro (K6.out.1.below hb2 K6.out.1.lt) (K6.out.2.below hb2))
        have C4 := Lib.hid (K4.out.below hb2 K4.out.lt)
        have CB := Lib.hid (thru HB.out hb2)
        clear a0 a1 hb2 K5 K6 K4 HB
        have a0 := C6.out.1.c0
        have a1 := C6.out.1.c1
        have b0 := C5.out.1.c0
        have b1 := C5.out.1.c1
        go_wp2_with fail
        refine (divmod_z C5.out.2 C6.out.2 HI.out.2.1 HI.out.2.2 (by have := H0.out; omega)).mono ?_
        rintro e w3 ⟨v, u, rfl, ⟨A7, c7, rfl, z7⟩, ⟨A8, c8, rfl, z8⟩, hb3⟩
        obtain ⟨r, hr⟩ : ∃ r, r = m % n := ⟨_, rfl⟩
        rw [show (m : Int) % (n : Int) = (r : Int) by rw [hr]; rfl] at z8 ⊢
        have HR := Lib.hid hr
        clear hr
        generalize (m : Int) / (n : Int) = q at *
        have b6 := below2 w3 (.cells #[.bool (neg q), .slice A7 (zl q) c7] 36) (.cells #[.bool (neg (r : Int)), .slice A8 (zl (r : Int)) c8] 36)
        have b7 := thru hb3 b6
        have k8 := Box2.new (w3.alloc (.cells #[.bool (neg q), .slice A7 (zl q) c7] 36)) 36 (.bool (neg (r : Int))) (.slice A8 (zl (r : Int)) c8)
        rw [show (w3.alloc (.cells #[.bool (neg q), .slice A7 (zl q) c7] 36)).heap.size = w3.heap.size + 1 by simp] at k8
        have n5 : g5 ≠ w3.heap.size + 1 := by have := C5.out.1.lt; have := hb3.size; omega
        have n6 : g6 ≠ w3.heap.size + 1 := by have := C6.out.1.lt; have := hb3.size; omega
        have hgw : w.heap.size + 1 + 1 ≠ g5 ∧ w.heap.size + 1 + 1 ≠ g6 := by omega
        have HGW := Lib.hid hgw
        clear hgw
        have t5 := C5.out.1.below b7 C5.out.1.lt
        have t6 := C6.out.1.below b7 C6.out.1.lt
        have D4 := Lib.hid (C4.out.below b7 C4.out.lt)
        have DB := Lib.hid (thru CB.out b7)
        have ZN := Lib.hid (C6.out.2.below b7)
        have ZR := Lib.hid (z8.below b6)
        clear a0 a1 b0 b1 hb3 b6 b7 z7 z8 C5 C6 C4 CB
        go_upto_region 4 with fail
        generalize (w3.alloc (.cells #[.bool (neg q), .slice A7 (zl q) c7] 36)).alloc (.cells #[.bool (neg (r : Int)), .slice A8 (zl (r : Int)) c8] 36) = W4 at *
        generalize w3.heap.size + 1 = g8 at *
        have n5' := n5.symm
        have n6' := n6.symm
        have hne' := hne.symm
        have a0 := t6.c0
        have a1 := t6.c1
        have a2 := t6.f 0
        have a3 := t6.f 1
        have b0 := t5.c0
        have b1 := t5.c1
        have b2 := t5.f 0
        have b3 := t5.f 1
        have e0 := k8.c0
        have e1 := k8.c1
        have T5 := Lib.hid t5
        have T6 := Lib.hid t6
        clear t5 t6 k8
        go_region
        all_goals (go_wp2_with fail)
        have HN0 := H0.out
        go_roundg r
        case measure => rw [HR.out]; exact Nat.mod_lt _ (by omega)
        case rel =>
          have u5 := T5.out
          have u6 := T6.out
          have v5 := (u5.put (.bool (neg (n : Int))) (.slice A6 (zl (n : Int)) c6)).far2 (k := g6) hne (.bool (neg (r : Int))) (.slice A8 (zl (r : Int)) c8)
          have v6 := (u6.far2 (k := g5) hne' (.bool (neg (n : Int))) (.slice A6 (zl (n : Int)) c6)).put (.bool (neg (r : Int))) (.slice A8 (zl (r : Int)) c8)
          have y6 := u6.far2 (k := g5) hne' (.bool (neg (n : Int))) (.slice A6 (zl (n : Int)) c6)
          have zn := U32.put3 (U32.put3 ZN.out u5 (.bool (neg (n : Int))) (.slice A6 (zl (n : Int)) c6)) y6 (.bool (neg (r : Int))) (.slice A8 (zl (r : Int)) c8)
          have zr := U32.put3 (U32.put3 ZR.out u5 (.bool (neg (n : Int))) (.slice A6 (zl (n : Int)) c6)) y6 (.bool (neg (r : Int))) (.slice A8 (zl (r : Int)) c8)
          refine ⟨n, r, A6, c6, A8, c8, rfl, ⟨by rw [HR.out, gcd_step]; exact HI.out.1, HI.out.2.2, ?_⟩, ⟨v5, ZIn.below zn (Below.refl _ _).drew⟩, ⟨v6, ZIn.below zr (Below.refl _ _).drew⟩, (D4.out.far2 HGW.out.1 _ _).far2 HGW.out.2 _ _, (below_store2 (below_store2 DB.out (by omega) _ _) (by omega) _ _).drew⟩
          have h1 : r ≤ n := by rw [HR.out]; exact Nat.le_of_lt (Nat.mod_lt _ (by omega))
          have h2 : zl (r : Int) ≤ zl (n : Int) := nl_mono (by omega)
          exact Nat.le_trans h2 HI.out.2.2
end Go.Proofs.YtegglooojlheoaaDoor
