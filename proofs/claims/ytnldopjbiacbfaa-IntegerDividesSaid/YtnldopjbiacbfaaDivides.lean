/- The walk of IntegerDivides: whatever two numbers and whatever small one, the answer is true and nothing that was there is written. No condition. Printed by tools/gen_divides.py. -/
import Derived.Test.YtnldopjbiacbfaaLaw3
import Derived.Test.YtnldopjbiacbfaaDmz0
import Derived.Test.YtnldopjbiacbfaaOverz
import Derived.Test.YtnldopjbiacbfaaOverr
import Derived.Deep.DeepCutAuto
namespace Go.Proofs.Ytnldopjbiacbfaa
open Go.RowKit Anv

theorem z_nil (w : World) : ZIn w none 0 0 := ⟨by show (L 0).length = zl 0; rw [L_zero, zl_zero]; rfl, by rw [zl_zero]; exact Nat.le_refl _, by simp [maxLen], L_lt _, fun hp => by rw [zl_zero] at hp; omega⟩

theorem rin_alloc {w : World} {A : Option Addr} {c : Nat} {z : Int} (h : RIn w A c z) (o : Obj) : RIn (w.alloc o) A c z := u32_alloc h o
theorem rin_drew {w : World} {A : Option Addr} {c : Nat} {z : Int} (h : RIn w A c z) : RIn w.drew A c z := u32_drew h

theorem is_eq {A B : Option Addr} {c d : Nat} {z y : Int} {w : World} (hx : ZIn w A c z) (hy : RIn w B d y) (h : y = z) (hn : zl z ≤ 1000000) (hm : dl z ≤ 1000000) :
    Calls Try.prog 15 #[.agg #[.bool (neg z), .slice A (zl z) c], .agg #[.bool (neg y), .slice B (dl y) d]] w fun e w' => e = .returned (.bool true) ∧ Below w.heap.size w w' := by
  subst h; exact is_true hx hy hn hm

set_option maxRecDepth 100000 in
set_option maxHeartbeats 8000000 in
theorem divides_short {b0 b1 : Bool} {A0 A1 : Option Addr} {n0 n1 c0 c1 : Nat} {xs0 xs1 : List Nat} {c : Int} {w : World} (h0 : U32 w A0 n0 c0 xs0) (h1 : U32 w A1 n1 c1 xs1) (hs0 : n0 ≤ 60) (hs1 : n1 ≤ 60) (hc1 : -9223372036854775808 ≤ c) (hc2 : c ≤ 9223372036854775807) :
    Calls Try.prog 6 #[.agg #[.bool b0, .slice A0 n0 c0], .agg #[.bool b1, .slice A1 n1 c1], .int .i64 c] w fun e w' => e = .returned (.bool true) ∧ Below w.heap.size w w' := by
  go_enter Try.func6, Try.ntmps6
  go_wp2_with fail
  refine (live_true _).mono ?_
  rintro e w1 ⟨rfl, hb⟩
  obtain ⟨q0, q1, hbw, hs⟩ := boxes2 hb
  have a0 := q0.c0
  have a1 := q0.c1
  have a2 := q1.c0
  have a3 := q1.c1
  clear hb
  go_wp2_with fail
  refine (long2 (Nat.le_trans h0.cap h0.big) (Nat.le_trans h1.cap h1.big) false (by simp; omega)).mono ?_
  rintro e w2 ⟨rfl, hb⟩
  have q0 := q0.below hb q0.lt
  have q1 := q1.below hb q1.lt
  have hbw := thru hbw hb
  clear a0 a1 a2 a3 hs hb
  have a0 := q0.c0
  have a1 := q0.c1
  have a2 := q1.c0
  have a3 := q1.c1
  go_wp2_with fail
  refine (of_some (h0.below hbw) hs0).mono ?_
  rintro e w3 ⟨x, A7, A8, c7, c8, rfl, zx, zp, lx, lp, hb⟩
  replace q1 := q1.below hb q1.lt
  replace hbw := thru hbw hb
  have hs3 := q1.lt
  clear a0 a1 a2 a3 hb q0
  have q1' := (q1.alloc (.cells #[.bool (neg x), .slice A7 (zl x) c7] 28)).alloc (.cells #[.bool (neg x), .slice A8 (dl x) c8] 30)
  have bq := (hbw.alloc hbw.size (.cells #[.bool (neg x), .slice A7 (zl x) c7] 28)).alloc (by have := hbw.size; simp; omega) (.cells #[.bool (neg x), .slice A8 (dl x) c8] 30)
  have a2 := q1'.c0
  have a3 := q1'.c1
  go_wp2_with fail
  refine (of_some (h1.below bq) hs1).mono ?_
  rintro e w4 ⟨y, A9, A10, c9, c10, rfl, zy, zq, ly, lq, hb⟩
  have k := boxes2 hb
  have k7 := k.1
  have k8 := k.2.1
  have b4 := k.2.2.1
  replace zx := zx.below b4
  replace zp := zp.below b4
  replace hbw := thru hbw b4
  have l7 := k7.lt
  have l8 := k8.lt
  clear hb k q1 q1' bq a2 a3 b4
  have k7' := (k7.alloc (.cells #[.bool (neg y), .slice A9 (zl y) c9] 28)).alloc (.cells #[.bool (neg y), .slice A10 (dl y) c10] 30)
  have k8' := (k8.alloc (.cells #[.bool (neg y), .slice A9 (zl y) c9] 28)).alloc (.cells #[.bool (neg y), .slice A10 (dl y) c10] 30)
  have b5 := below2 w4 (.cells #[.bool (neg y), .slice A9 (zl y) c9] 28) (.cells #[.bool (neg y), .slice A10 (dl y) c10] 30)
  have k9' := (Box2.new w4 28 (.bool (neg y)) (.slice A9 (zl y) c9)).alloc (.cells #[.bool (neg y), .slice A10 (dl y) c10] 30)
  have k10' := Box2.new (w4.alloc (.cells #[.bool (neg y), .slice A9 (zl y) c9] 28)) 30 (.bool (neg y)) (.slice A10 (dl y) c10)
  rw [show (w4.alloc (.cells #[.bool (neg y), .slice A9 (zl y) c9] 28)).heap.size = w4.heap.size + 1 by simp] at k10'
  replace zx := zx.below b5
  replace zp := zp.below b5
  replace zy := zy.below b5
  replace zq := zq.below b5
  replace hbw := thru hbw b5
  clear b5 k7 k8
  go_upto_region 7 with fail
  generalize (w4.alloc (.cells #[.bool (neg y), .slice A9 (zl y) c9] 28)).alloc (.cells #[.bool (neg y), .slice A10 (dl y) c10] 30) = W at *
  generalize w4.heap.size = g9 at *
  have RP := Lib.hid zp
  have RQ := Lib.hid zq
  have ZX := Lib.hid zx
  have K8 := Lib.hid k8'
  have K10 := Lib.hid k10'
  have LX := Lib.hid (And.intro (And.intro lx lp) (And.intro ly lq))
  have ZY := Lib.hid zy
  have K7 := Lib.hid k7'
  have K9 := Lib.hid k9'
  have HB := Lib.hid hbw
  clear zp zq k8' k10' hs3 l7 l8 zx zy k7' k9' hbw
  go_cut [11, 12, 13] (fun s11 s12 s13 wx => ∃ (g11 g12 : Nat) (A11 : Option Addr) (c11 : Nat) (A12 : Option Addr) (c12 : Nat) (r e : Int), s11 = .pointer (some ⟨g11, 0, none⟩) ∧ s12 = .pointer (some ⟨g12, 0, none⟩) ∧ s13 = .int .i64 e ∧
    Hid ((y = 0 → r = 0 ∧ e = 2) ∧ (y ≠ 0 → r = x % y ∧ e = 0)) ∧ Hid (Box2 28 wx g11 (.bool (neg (x / y))) (.slice A11 (zl (x / y)) c11) ∧ ZIn wx A11 c11 (x / y)) ∧ Hid (Box2 28 wx g12 (.bool (neg r)) (.slice A12 (zl r) c12) ∧ ZIn wx A12 c12 r) ∧
    Hid (Box2 28 wx w3.heap.size (.bool (neg x)) (.slice A7 (zl x) c7) ∧ ZIn wx A7 c7 x) ∧ Hid (Box2 30 wx (w3.heap.size + 1) (.bool (neg x)) (.slice A8 (dl x) c8) ∧ RIn wx A8 c8 x) ∧ Hid (Box2 30 wx (g9 + 1) (.bool (neg y)) (.slice A10 (dl y) c10) ∧ RIn wx A10 c10 y) ∧ Hid (Below w.heap.size w wx))
  case first =>
    have a0 := K7.out.c0
    have a1 := K7.out.c1
    have b0 := K9.out.c0
    have b1 := K9.out.c1
    by_cases hy : y = 0
    · subst hy
      go_wp2_with fail
      refine (divmod_z0 ZY.out).mono ?_
      rintro e w5 ⟨rfl, hb⟩
      have D := Lib.hid hb
      clear hb a0 a1 b0 b1
      go_wp2_with fail
      go_meet
      case rel =>
        have b6 := below2 w5 (.cells #[.bool false, .slice none 0 0] 28) (.cells #[.bool false, .slice none 0 0] 28)
        have b7 := thru D.out b6
        refine ⟨_, _, none, 0, none, 0, 0, 2, rfl, rfl, rfl, ⟨fun _ => ⟨rfl, rfl⟩, fun h => absurd rfl h⟩, ?_, ?_, ⟨K7.out.below b7 K7.out.lt, ZX.out.below b7⟩, ⟨K8.out.below b7 K8.out.lt, RP.out.below b7⟩, ⟨K10.out.below b7 K10.out.lt, RQ.out.below b7⟩, thru HB.out b7⟩
        · rw [Int.ediv_zero, neg_zero, zl_zero]
          exact ⟨(Box2.new w5 28 (.bool false) (.slice none 0 0)).alloc _, z_nil _⟩
        · rw [neg_zero, zl_zero]
          refine ⟨?_, z_nil _⟩
          have := Box2.new (w5.alloc (.cells #[.bool false, .slice none 0 0] 28)) 28 (.bool false) (.slice none 0 0)
          rwa [show (w5.alloc (.cells #[.bool false, .slice none 0 0] 28)).heap.size = w5.heap.size + 1 by simp] at this
    · have HY := Lib.hid hy
      clear hy
      go_wp2_with fail
      refine (divmod_z ZX.out ZY.out (by omega) (by omega) HY.out).mono ?_
      rintro e w5 ⟨v, u, rfl, ⟨A11, c11, rfl, z11⟩, ⟨A12, c12, rfl, z12⟩, hb⟩
      have D := Lib.hid (And.intro hb (And.intro z11 z12))
      clear hb a0 a1 b0 b1 z11 z12
      go_wp2_with fail
      go_meet
      case rel =>
        have b6 := below2 w5 (.cells #[.bool (neg (x / y)), .slice A11 (zl (x / y)) c11] 28) (.cells #[.bool (neg (x % y)), .slice A12 (zl (x % y)) c12] 28)
        have b7 := thru D.out.1 b6
        refine ⟨_, _, A11, c11, A12, c12, x % y, 0, rfl, rfl, rfl, ⟨fun h => absurd h HY.out, fun _ => ⟨rfl, rfl⟩⟩, ⟨(Box2.new w5 28 (.bool (neg (x / y))) (.slice A11 (zl (x / y)) c11)).alloc _, D.out.2.1.below b6⟩, ⟨?_, D.out.2.2.below b6⟩, ⟨K7.out.below b7 K7.out.lt, ZX.out.below b7⟩, ⟨K8.out.below b7 K8.out.lt, RP.out.below b7⟩, ⟨K10.out.below b7 K10.out.lt, RQ.out.below b7⟩, thru HB.out b7⟩
        have := Box2.new (w5.alloc (.cells #[.bool (neg (x / y)), .slice A11 (zl (x / y)) c11] 28)) 28 (.bool (neg (x % y))) (.slice A12 (zl (x % y)) c12)
        rwa [show (w5.alloc (.cells #[.bool (neg (x / y)), .slice A11 (zl (x / y)) c11] 28)).heap.size = w5.heap.size + 1 by simp] at this
  case rest =>
    clear K7 K8 K9 K10 ZX RP RQ ZY HB
    obtain ⟨g11, g12, A11, c11, A12, c12, r, e, rfl, rfl, rfl, HRE, B11, B12, B7, B8, B10, HB⟩ := hcut
    have a0 := B10.out.1.c0
    have a1 := B10.out.1.c1
    go_wp2_with fail
    refine (sign_r (z := y)).mono ?_
    rintro e0 w6 ⟨rfl, hb⟩
    have C11 := Lib.hid (And.intro (B11.out.1.below hb B11.out.1.lt) (B11.out.2.below hb))
    have C12 := Lib.hid (And.intro (B12.out.1.below hb B12.out.1.lt) (B12.out.2.below hb))
    have C7 := Lib.hid (And.intro (B7.out.1.below hb B7.out.1.lt) (B7.out.2.below hb))
    have C8 := Lib.hid (And.intro (B8.out.1.below hb B8.out.1.lt) (B8.out.2.below hb))
    have C10 := Lib.hid (And.intro (B10.out.1.below hb B10.out.1.lt) (B10.out.2.below hb))
    have CB := Lib.hid (thru HB.out hb)
    clear a0 a1 hb B11 B12 B7 B8 B10 HB
    go_upto_if 47 with fail
    go_cut [7] (fun s7 wx => s7 = .pointer (some ⟨w3.heap.size, 0, none⟩) ∧ Hid (Box2 28 wx w3.heap.size (.bool (neg x)) (.slice A7 (zl x) c7) ∧ ZIn wx A7 c7 x) ∧ Hid (Box2 30 wx (w3.heap.size + 1) (.bool (neg x)) (.slice A8 (dl x) c8) ∧ RIn wx A8 c8 x) ∧ Hid (Below w.heap.size w wx))
    case first =>
      by_cases hy : y = 0
      · have hre := HRE.out.1 hy
        obtain ⟨rfl, rfl⟩ := hre
        subst hy
        rw [Int.ediv_zero, neg_zero, zl_zero] at C11
        rw [neg_zero, zl_zero] at C12
        have a0 := C11.out.1.c0
        have a1 := C11.out.1.c1
        have hys : ((0 : Int).sign == 0) = true := rfl
        go_wp2_with fail
        refine (zero_true C11.out.2).mono ?_
        rintro e w7 ⟨rfl, hb⟩
        have D12 := Lib.hid (And.intro (C12.out.1.below hb C12.out.1.lt) (C12.out.2.below hb))
        have D7 := Lib.hid (And.intro (C7.out.1.below hb C7.out.1.lt) (C7.out.2.below hb))
        have D8 := Lib.hid (And.intro (C8.out.1.below hb C8.out.1.lt) (C8.out.2.below hb))
        have DB := Lib.hid (thru CB.out hb)
        clear a0 a1 hb C11 C12 C7 C8 CB C10
        have a0 := D12.out.1.c0
        have a1 := D12.out.1.c1
        go_wp2_with fail
        refine (zero_true D12.out.2).mono ?_
        rintro e w8 ⟨rfl, hb⟩
        go_wp2_with fail
        go_meet
        case rel => exact ⟨rfl, ⟨D7.out.1.below hb D7.out.1.lt, D7.out.2.below hb⟩, ⟨D8.out.1.below hb D8.out.1.lt, D8.out.2.below hb⟩, thru DB.out hb⟩
      · have hre := HRE.out.2 hy
        obtain ⟨rfl, rfl⟩ := hre
        have HY := Lib.hid hy
        have hys : (y.sign == 0) = false := by simpa using hy
        clear hy
        have a0 := C8.out.1.c0
        have a1 := C8.out.1.c1
        have b0 := C10.out.1.c0
        have b1 := C10.out.1.c1
        go_wp2_with fail
        refine (divmod_r C8.out.2 C10.out.2 (by omega) (by omega) HY.out).mono ?_
        rintro e w7 ⟨v, u, rfl, ⟨A14, c14, rfl, z14⟩, ⟨A15, c15, rfl, z15⟩, hb⟩
        have b6 := below2 w7 (.cells #[.bool (neg (x / y)), .slice A14 (dl (x / y)) c14] 30) (.cells #[.bool (neg (x % y)), .slice A15 (dl (x % y)) c15] 30)
        have b7 := thru hb b6
        have D11 := Lib.hid (And.intro (C11.out.1.below b7 C11.out.1.lt) (C11.out.2.below b7))
        have D12 := Lib.hid (And.intro (C12.out.1.below b7 C12.out.1.lt) (C12.out.2.below b7))
        have D7 := Lib.hid (And.intro (C7.out.1.below b7 C7.out.1.lt) (C7.out.2.below b7))
        have D8 := Lib.hid (And.intro (C8.out.1.below b7 C8.out.1.lt) (C8.out.2.below b7))
        have DB := Lib.hid (thru CB.out b7)
        have D14 := Lib.hid (And.intro ((Box2.new w7 30 (.bool (neg (x / y))) (.slice A14 (dl (x / y)) c14)).alloc (.cells #[.bool (neg (x % y)), .slice A15 (dl (x % y)) c15] 30)) (z14.below b6))
        have k15 := Box2.new (w7.alloc (.cells #[.bool (neg (x / y)), .slice A14 (dl (x / y)) c14] 30)) 30 (.bool (neg (x % y))) (.slice A15 (dl (x % y)) c15)
        rw [show (w7.alloc (.cells #[.bool (neg (x / y)), .slice A14 (dl (x / y)) c14] 30)).heap.size = w7.heap.size + 1 by simp] at k15
        have D15 := Lib.hid (And.intro k15 (z15.below b6))
        have LQ := Lib.hid (And.intro (zl_ediv x y) (And.intro (dl_ediv x y) (And.intro (zl_emod (x := x) HY.out) (dl_emod (x := x) HY.out))))
        clear a0 a1 b0 b1 hb C11 C12 C7 C8 CB C10 b6 b7 z14 z15 k15
        have a0 := D11.out.1.c0
        have a1 := D11.out.1.c1
        have b0 := D14.out.1.c0
        have b1 := D14.out.1.c1
        go_upto_region 12 with fail
        generalize (w7.alloc (.cells #[.bool (neg (x / y)), .slice A14 (dl (x / y)) c14] 30)).alloc (.cells #[.bool (neg (x % y)), .slice A15 (dl (x % y)) c15] 30) = W7 at *
        go_wp2_with fail
        refine (is_eq D11.out.2 D14.out.2 rfl (by have := LQ.out.1; omega) (by have := LQ.out.2.1; omega)).mono ?_
        rintro e w8 ⟨rfl, hb⟩
        have E12 := Lib.hid (And.intro (D12.out.1.below hb D12.out.1.lt) (D12.out.2.below hb))
        have E7 := Lib.hid (And.intro (D7.out.1.below hb D7.out.1.lt) (D7.out.2.below hb))
        have E8 := Lib.hid (And.intro (D8.out.1.below hb D8.out.1.lt) (D8.out.2.below hb))
        have E15 := Lib.hid (And.intro (D15.out.1.below hb D15.out.1.lt) (D15.out.2.below hb))
        have EB := Lib.hid (thru DB.out hb)
        clear a0 a1 b0 b1 hb D11 D12 D7 D8 D14 D15 DB
        have a0 := E12.out.1.c0
        have a1 := E12.out.1.c1
        have b0 := E15.out.1.c0
        have b1 := E15.out.1.c1
        go_wp2_with fail
        refine (is_eq E12.out.2 E15.out.2 rfl (by have := LQ.out.2.2.1; omega) (by have := LQ.out.2.2.2; omega)).mono ?_
        rintro e w9 ⟨rfl, hb⟩
        go_wp2_with fail
        go_meet
        case rel => exact ⟨rfl, ⟨E7.out.1.below hb E7.out.1.lt, E7.out.2.below hb⟩, ⟨E8.out.1.below hb E8.out.1.lt, E8.out.2.below hb⟩, thru EB.out hb⟩
    case rest =>
      clear C11 C12 C7 C8 C10 CB
      obtain ⟨rfl, C7, C8, CB⟩ := hcut
      go_upto_region 14 with fail
      go_cut [16, 17] (fun s16 s17 wx => ∃ (g16 : Nat) (A16 : Option Addr) (c16 : Nat) (o f : Int), s16 = .pointer (some ⟨g16, 0, none⟩) ∧ s17 = .int .i64 f ∧
        Hid ((c = 0 → o = 0 ∧ f = 2) ∧ (c ≠ 0 → x % c ≠ 0 → o = 0 ∧ f = 20) ∧ (c ≠ 0 → x % c = 0 → o = x / c ∧ f = 0)) ∧ Hid (Box2 28 wx g16 (.bool (neg o)) (.slice A16 (zl o) c16) ∧ ZIn wx A16 c16 o) ∧
        Hid (Box2 28 wx w3.heap.size (.bool (neg x)) (.slice A7 (zl x) c7) ∧ ZIn wx A7 c7 x) ∧ Hid (Box2 30 wx (w3.heap.size + 1) (.bool (neg x)) (.slice A8 (dl x) c8) ∧ RIn wx A8 c8 x) ∧ Hid (Below w.heap.size w wx))
      case first =>
        have a0 := C7.out.1.c0
        have a1 := C7.out.1.c1
        by_cases hc0 : c = 0
        · subst hc0
          go_wp2_with fail
          refine (over_zero (x := x)).mono ?_
          rintro e w7 ⟨rfl, hb⟩
          have D := Lib.hid hb
          clear hb a0 a1
          go_wp2_with fail
          go_meet
          case rel =>
            have b7 := thru D.out (below1 w7 (.cells #[.bool false, .slice none 0 0] 28))
            refine ⟨_, none, 0, 0, 2, rfl, rfl, ⟨fun _ => ⟨rfl, rfl⟩, fun h => absurd rfl h, fun h => absurd rfl h⟩, ?_, ⟨C7.out.1.below b7 C7.out.1.lt, C7.out.2.below b7⟩, ⟨C8.out.1.below b7 C8.out.1.lt, C8.out.2.below b7⟩, thru CB.out b7⟩
            rw [neg_zero, zl_zero]
            exact ⟨Box2.new w7 28 (.bool false) (.slice none 0 0), z_nil _⟩
        · by_cases hd : x % c = 0
          · have HC := Lib.hid hc0
            have HD := Lib.hid hd
            clear hc0 hd
            go_wp2_with fail
            refine (over_z C7.out.2 (by omega) hc1 hc2 HC.out HD.out).mono ?_
            rintro e w7 ⟨v, rfl, ⟨A16, c16, rfl, z16⟩, hb⟩
            have D := Lib.hid (And.intro hb z16)
            clear hb a0 a1 z16
            go_wp2_with fail
            go_meet
            case rel =>
              have b6 := below1 w7 (.cells #[.bool (neg (x / c)), .slice A16 (zl (x / c)) c16] 28)
              have b7 := thru D.out.1 b6
              exact ⟨_, A16, c16, x / c, 0, rfl, rfl, ⟨fun h => absurd h HC.out, fun _ h => absurd HD.out h, fun _ _ => ⟨rfl, rfl⟩⟩, ⟨Box2.new w7 28 (.bool (neg (x / c))) (.slice A16 (zl (x / c)) c16), D.out.2.below b6⟩, ⟨C7.out.1.below b7 C7.out.1.lt, C7.out.2.below b7⟩, ⟨C8.out.1.below b7 C8.out.1.lt, C8.out.2.below b7⟩, thru CB.out b7⟩
          · have HC := Lib.hid hc0
            have HD := Lib.hid hd
            clear hc0 hd
            go_wp2_with fail
            refine (over_exact C7.out.2 (by omega) hc1 hc2 HC.out HD.out).mono ?_
            rintro e w7 ⟨rfl, hb⟩
            have D := Lib.hid hb
            clear hb a0 a1
            go_wp2_with fail
            go_meet
            case rel =>
              have b7 := thru D.out (below1 w7 (.cells #[.bool false, .slice none 0 0] 28))
              refine ⟨_, none, 0, 0, 20, rfl, rfl, ⟨fun h => absurd h HC.out, fun _ _ => ⟨rfl, rfl⟩, fun _ h => absurd h HD.out⟩, ?_, ⟨C7.out.1.below b7 C7.out.1.lt, C7.out.2.below b7⟩, ⟨C8.out.1.below b7 C8.out.1.lt, C8.out.2.below b7⟩, thru CB.out b7⟩
              rw [neg_zero, zl_zero]
              exact ⟨Box2.new w7 28 (.bool false) (.slice none 0 0), z_nil _⟩
      case rest =>
        clear C7 C8 CB
        obtain ⟨g16, A16, c16, o, f, rfl, rfl, HOF, C16, C7, C8, CB⟩ := hcut
        by_cases hc0 : c = 0
        · obtain ⟨rfl, rfl⟩ := HOF.out.1 hc0
          have hcb : (c == 0) = true := by simpa using hc0
          rw [neg_zero, zl_zero] at C16
          clear hc0
          have a0 := C16.out.1.c0
          have a1 := C16.out.1.c1
          go_wp2_with fail
          refine (zero_true C16.out.2).mono ?_
          rintro e w8 ⟨rfl, hb⟩
          have DB := Lib.hid (thru CB.out hb)
          clear hb a0 a1
          go_wp2_with fail
          refine (live_true _).mono ?_
          rintro e w9 ⟨rfl, hb⟩
          go_wp2
          go_ret
          exact ⟨rfl, thru DB.out hb⟩
        · have HC := Lib.hid hc0
          have hcb : (c == 0) = false := by simpa using hc0
          clear hc0
          go_upto_region 17 with fail
          go_cut [18, 19] (fun s18 s19 wx => ∃ (g18 : Nat) (A18 : Option Addr) (c18 : Nat) (q : Int) (ex : Bool), s18 = .pointer (some ⟨g18, 0, none⟩) ∧ s19 = .bool ex ∧ Hid ((x % c ≠ 0 → ex = false) ∧ (x % c = 0 → ex = true ∧ q = x / c)) ∧ Hid (Box2 30 wx g18 (.bool (neg q)) (.slice A18 (dl q) c18) ∧ RIn wx A18 c18 q) ∧ Hid (Below wc.heap.size wc wx))
          case first =>
            have a0 := C8.out.1.c0
            have a1 := C8.out.1.c1
            have l8 := C8.out.1.lt
            have hsm : dl c ≤ 1000 := by have := dl_small hc1 hc2; omega
            have RPX := Lib.hid C8.out.2
            by_cases hd : x % c = 0
            · have HD := Lib.hid hd
              clear hd
              go_region_held3 (fun w' => w'.cell? ⟨w3.heap.size + 1, 0, none⟩ = some (.bool (neg x)) ∧ w'.cell? ⟨w3.heap.size + 1, 1, none⟩ = some (.slice A8 (dl x) c8)) (refine ⟨?_, ?_⟩ <;> repeat (first | exact a0 | exact a1 | exact m0 | exact m1 | exact p0 | exact p1 | apply keep_drew | apply keep_alloc | (refine keep_set ?_ (by simp; omega) _))) (first | (go_at_call 27; (with_reducible refine (of_r (n := c) hc1 hc2).mono ?_); rintro e wn ⟨v, rfl, ⟨B1, d1, rfl, zo⟩, hb⟩; have kn : Box2 30 (wc.alloc (.cells #[.bool false, .slice none 0 0] 30)).drew wc.heap.size (.bool false) (.slice none 0 0) := Box2.new wc 30 (.bool false) (.slice none 0 0); replace kn := kn.below hb kn.lt; have ng : wc.heap.size ≤ wc.heap.size := Nat.le_refl _; have rp : RIn wn A8 c8 x := RIn.below (by repeat (first | exact RPX.out | exact rp | exact zo | apply rin_drew | apply rin_alloc)) hb; have hw : Below wc.heap.size wc wn := thru (by repeat (first | exact Below.refl _ _ | apply Below.drew | (refine Below.alloc ?_ (by simp) _))) hb; have n8 := C8.out.1.below hw C8.out.1.lt; have m0 := n8.c0; have m1 := n8.c1; have hs1 := hw.size; have l9 := n8.lt) | (go_at_call 27; (with_reducible refine (of_r (n := c) hc1 hc2).mono ?_); rintro e wn ⟨v, rfl, ⟨B1, d1, rfl, zo⟩, hb⟩; have rp : RIn wn A8 c8 x := RIn.below (by repeat (first | exact RPX.out | exact rp | exact zo | apply rin_drew | apply rin_alloc)) hb; have hw : Below wc.heap.size wc wn := thru (by repeat (first | exact Below.refl _ _ | apply Below.drew | (refine Below.alloc ?_ (by simp) _))) hb; have n8 := C8.out.1.below hw C8.out.1.lt; have m0 := n8.c0; have m1 := n8.c1; have hs1 := hw.size; have l9 := n8.lt) | (go_at_call 39; (with_reducible refine (over_r (by repeat (first | exact RPX.out | exact rp | exact zo | apply rin_drew | apply rin_alloc)) (by repeat (first | exact RPX.out | exact rp | exact zo | apply rin_drew | apply rin_alloc)) (by omega) hsm HC.out HD.out).mono ?_); rintro e wm ⟨v, rfl, ⟨B2, d2, rfl, zq⟩, hb2⟩; have kn := Box2.new wn 30 (.bool false) (.slice none 0 0); replace kn := kn.below hb2 kn.lt; have ng : wc.heap.size ≤ wn.heap.size := hs1; have e0 := kn.c0; have e1 := kn.c1; have e2 := kn.f 0; have e3 := kn.f 1; have hw2 : Below wc.heap.size wc wm := thru hw (thru (by repeat (first | exact Below.refl _ _ | (refine Below.alloc ?_ (by simp) _))) hb2); have o8 := C8.out.1.below hw2 C8.out.1.lt; have p0 := o8.c0; have p1 := o8.c1; have l10 := o8.lt; have hs2 := hw2.size) | (go_at_call 39; (with_reducible refine (over_r (by repeat (first | exact RPX.out | exact rp | exact zo | apply rin_drew | apply rin_alloc)) (by repeat (first | exact RPX.out | exact rp | exact zo | apply rin_drew | apply rin_alloc)) (by omega) hsm HC.out HD.out).mono ?_); rintro e wm ⟨v, rfl, ⟨B2, d2, rfl, zq⟩, hb2⟩; (try (replace kn := kn.below hb2 kn.lt; have e0 := kn.c0; have e1 := kn.c1; have e2 := kn.f 0; have e3 := kn.f 1)); have hw2 : Below wc.heap.size wc wm := thru hw (thru (by repeat (first | exact Below.refl _ _ | (refine Below.alloc ?_ (by simp) _))) hb2); have o8 := C8.out.1.below hw2 C8.out.1.lt; have p0 := o8.c0; have p1 := o8.c1; have l10 := o8.lt; have hs2 := hw2.size))
              all_goals (go_wp2_with fail)
              all_goals go_meet
              all_goals first
                | exact ⟨_, B2, d2, x / c, true, rfl, rfl, ⟨fun h => absurd HD.out h, fun _ => ⟨rfl, rfl⟩⟩, ⟨kn.put _ _, U32.put3 zq kn _ _⟩, below_store2 hw2 ng _ _⟩
                | exact ⟨_, B2, d2, x / c, true, rfl, rfl, ⟨fun h => absurd HD.out h, fun _ => ⟨rfl, rfl⟩⟩, ⟨Box2.new _ _ _ _, zq.below (below1 _ _)⟩, hw2.alloc hw2.size _⟩
            · have HD := Lib.hid hd
              clear hd
              go_region_held3 (fun w' => w'.cell? ⟨w3.heap.size + 1, 0, none⟩ = some (.bool (neg x)) ∧ w'.cell? ⟨w3.heap.size + 1, 1, none⟩ = some (.slice A8 (dl x) c8)) (refine ⟨?_, ?_⟩ <;> repeat (first | exact a0 | exact a1 | exact m0 | exact m1 | exact p0 | exact p1 | apply keep_drew | apply keep_alloc | (refine keep_set ?_ (by simp; omega) _))) (first | (go_at_call 27; (with_reducible refine (of_r (n := c) hc1 hc2).mono ?_); rintro e wn ⟨v, rfl, ⟨B1, d1, rfl, zo⟩, hb⟩; have kn : Box2 30 (wc.alloc (.cells #[.bool false, .slice none 0 0] 30)).drew wc.heap.size (.bool false) (.slice none 0 0) := Box2.new wc 30 (.bool false) (.slice none 0 0); replace kn := kn.below hb kn.lt; have ng : wc.heap.size ≤ wc.heap.size := Nat.le_refl _; have rp : RIn wn A8 c8 x := RIn.below (by repeat (first | exact RPX.out | exact rp | exact zo | apply rin_drew | apply rin_alloc)) hb; have hw : Below wc.heap.size wc wn := thru (by repeat (first | exact Below.refl _ _ | apply Below.drew | (refine Below.alloc ?_ (by simp) _))) hb; have n8 := C8.out.1.below hw C8.out.1.lt; have m0 := n8.c0; have m1 := n8.c1; have hs1 := hw.size; have l9 := n8.lt) | (go_at_call 27; (with_reducible refine (of_r (n := c) hc1 hc2).mono ?_); rintro e wn ⟨v, rfl, ⟨B1, d1, rfl, zo⟩, hb⟩; have rp : RIn wn A8 c8 x := RIn.below (by repeat (first | exact RPX.out | exact rp | exact zo | apply rin_drew | apply rin_alloc)) hb; have hw : Below wc.heap.size wc wn := thru (by repeat (first | exact Below.refl _ _ | apply Below.drew | (refine Below.alloc ?_ (by simp) _))) hb; have n8 := C8.out.1.below hw C8.out.1.lt; have m0 := n8.c0; have m1 := n8.c1; have hs1 := hw.size; have l9 := n8.lt) | (go_at_call 39; (with_reducible refine (over_r_no (by repeat (first | exact RPX.out | exact rp | exact zo | apply rin_drew | apply rin_alloc)) (by repeat (first | exact RPX.out | exact rp | exact zo | apply rin_drew | apply rin_alloc)) (by omega) hsm HC.out HD.out).mono ?_); rintro e wm ⟨rfl, hb2⟩; have kn := Box2.new wn 30 (.bool false) (.slice none 0 0); replace kn := kn.below hb2 kn.lt; have ng : wc.heap.size ≤ wn.heap.size := hs1; have e0 := kn.c0; have e1 := kn.c1; have e2 := kn.f 0; have e3 := kn.f 1; have hw2 : Below wc.heap.size wc wm := thru hw (thru (by repeat (first | exact Below.refl _ _ | (refine Below.alloc ?_ (by simp) _))) hb2); have o8 := C8.out.1.below hw2 C8.out.1.lt; have p0 := o8.c0; have p1 := o8.c1; have l10 := o8.lt; have hs2 := hw2.size) | (go_at_call 39; (with_reducible refine (over_r_no (by repeat (first | exact RPX.out | exact rp | exact zo | apply rin_drew | apply rin_alloc)) (by repeat (first | exact RPX.out | exact rp | exact zo | apply rin_drew | apply rin_alloc)) (by omega) hsm HC.out HD.out).mono ?_); rintro e wm ⟨rfl, hb2⟩; (try (replace kn := kn.below hb2 kn.lt; have e0 := kn.c0; have e1 := kn.c1; have e2 := kn.f 0; have e3 := kn.f 1)); have hw2 : Below wc.heap.size wc wm := thru hw (thru (by repeat (first | exact Below.refl _ _ | (refine Below.alloc ?_ (by simp) _))) hb2); have o8 := C8.out.1.below hw2 C8.out.1.lt; have p0 := o8.c0; have p1 := o8.c1; have l10 := o8.lt; have hs2 := hw2.size))
              all_goals (go_wp2_with fail)
              all_goals go_meet
              all_goals refine ⟨_, none, 0, 0, false, rfl, rfl, ⟨fun _ => rfl, fun h => absurd h HD.out⟩, ?_, ?_⟩
              all_goals try rw [neg_zero, dl_zero]
              all_goals first
                | exact ⟨kn.put _ _, R0 _⟩
                | exact ⟨Box2.new _ _ _ _, R0 _⟩
                | exact below_store2 hw2 ng _ _
                | exact hw2.alloc hw2.size _
          case rest =>
            obtain ⟨g18, A18, c18, q, ex, rfl, rfl, HQ, B18, BW⟩ := hcut
            have D16 := Lib.hid (And.intro (C16.out.1.below BW.out C16.out.1.lt) (C16.out.2.below BW.out))
            have D7 := Lib.hid (And.intro (C7.out.1.below BW.out C7.out.1.lt) (C7.out.2.below BW.out))
            have D8 := Lib.hid (And.intro (C8.out.1.below BW.out C8.out.1.lt) (C8.out.2.below BW.out))
            have DB := Lib.hid (thru CB.out BW.out)
            clear C16 C7 C8 CB BW
            by_cases hd : x % c = 0
            · obtain ⟨rfl, rfl⟩ := HQ.out.2 hd
              obtain ⟨rfl, rfl⟩ := HOF.out.2.2 HC.out hd
              have HD := Lib.hid hd
              clear hd
              have hts : zl (x * c) ≤ 1000 := by have := zl_mul x c; have := zl_small hc1 hc2; omega
              have LQ := Lib.hid (And.intro (zl_ediv x c) (dl_ediv x c))
              have a0 := D7.out.1.c0
              have a1 := D7.out.1.c1
              go_wp2_with fail
              refine (times_z D7.out.2 (by omega) hc1 hc2).mono ?_
              rintro e w8 ⟨v, rfl, ⟨A19, c19, rfl, z19⟩, hb⟩
              have E16 := Lib.hid (And.intro (D16.out.1.below hb D16.out.1.lt) (D16.out.2.below hb))
              have E18 := Lib.hid (And.intro (B18.out.1.below hb B18.out.1.lt) (B18.out.2.below hb))
              have E8 := Lib.hid (And.intro (D8.out.1.below hb D8.out.1.lt) (D8.out.2.below hb))
              have EB := Lib.hid (thru DB.out hb)
              clear a0 a1 hb D16 B18 D7 D8 DB
              have H1 := Lib.hid (And.intro (Int.mul_emod_left x c) (Int.mul_ediv_cancel x HC.out))
              go_wp2_with fail
              refine (over_z z19 hts hc1 hc2 HC.out H1.out.1).mono ?_
              rintro e w9 ⟨v, rfl, ⟨A20, c20, rfl, z20⟩, hb⟩
              rw [H1.out.2] at z20 ⊢
              have b6 := below1 w9 (.cells #[.bool (neg x), .slice A20 (zl x) c20] 28)
              have b7 := thru hb b6
              have F16 := Lib.hid (And.intro (E16.out.1.below b7 E16.out.1.lt) (E16.out.2.below b7))
              have F18 := Lib.hid (And.intro (E18.out.1.below b7 E18.out.1.lt) (E18.out.2.below b7))
              have F8 := Lib.hid (And.intro (E8.out.1.below b7 E8.out.1.lt) (E8.out.2.below b7))
              have FB := Lib.hid (thru EB.out b7)
              have F20 := Lib.hid (And.intro (Box2.new w9 28 (.bool (neg x)) (.slice A20 (zl x) c20)) (z20.below b6))
              clear hb b6 b7 z19 z20 E16 E18 E8 EB
              have a0 := F16.out.1.c0
              have a1 := F16.out.1.c1
              have b0 := F18.out.1.c0
              have b1 := F18.out.1.c1
              go_upto_region 21 with fail
              generalize w9.alloc (.cells #[.bool (neg x), .slice A20 (zl x) c20] 28) = W9 at *
              go_wp2_with fail
              refine (is_eq F16.out.2 F18.out.2 rfl (by have := LQ.out.1; omega) (by have := LQ.out.2; omega)).mono ?_
              rintro e w10 ⟨rfl, hb⟩
              have G20 := Lib.hid (And.intro (F20.out.1.below hb F20.out.1.lt) (F20.out.2.below hb))
              have G8 := Lib.hid (And.intro (F8.out.1.below hb F8.out.1.lt) (F8.out.2.below hb))
              have GB := Lib.hid (thru FB.out hb)
              clear a0 a1 b0 b1 hb F16 F18 F8 FB F20
              have a0 := G20.out.1.c0
              have a1 := G20.out.1.c1
              have b0 := G8.out.1.c0
              have b1 := G8.out.1.c1
              go_wp2_with fail
              refine (is_eq G20.out.2 G8.out.2 rfl (by omega) (by omega)).mono ?_
              rintro e w11 ⟨rfl, hb⟩
              go_wp2
              go_ret
              exact ⟨rfl, thru GB.out hb⟩
            · obtain rfl := HQ.out.1 hd
              obtain ⟨rfl, rfl⟩ := HOF.out.2.1 HC.out hd
              clear hd
              rw [neg_zero, zl_zero] at D16
              have a0 := D16.out.1.c0
              have a1 := D16.out.1.c1
              go_wp2_with fail
              refine (zero_true D16.out.2).mono ?_
              rintro e w8 ⟨rfl, hb⟩
              have EB := Lib.hid (thru DB.out hb)
              clear hb a0 a1
              go_wp2_with fail
              refine (live_true _).mono ?_
              rintro e w9 ⟨rfl, hb⟩
              go_wp2
              go_ret
              exact ⟨rfl, thru EB.out hb⟩

end Go.Proofs.Ytnldopjbiacbfaa
