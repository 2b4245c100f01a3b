/- integer.DivMod. No condition. -/
import Derived.Test.YtnldopjbiacbfaaDm2
import Derived.Test.YtnldopjbiacbfaaEd
import Derived.Deep.DeepCutAuto
namespace Go.Proofs.Ytnldopjbiacbfaa
open Go.RowKit Anv

theorem below4 (w : World) (o o' o'' o3 : Obj) : Below w.heap.size w ((((w.alloc o).alloc o').alloc o'').alloc o3) := (below3 w o o' o'').alloc (by simp; omega) _
/-- Four new boxes, behind a call. -/
theorem boxes4 {t t' t'' t3 : TypeId} {w w1 : World} {a0 a1 b0 b1 z0 z1 y0 y1 : Value}
    (hb : Below ((((w.alloc (.cells #[a0, a1] t)).alloc (.cells #[b0, b1] t')).alloc (.cells #[z0, z1] t'')).alloc (.cells #[y0, y1] t3)).heap.size ((((w.alloc (.cells #[a0, a1] t)).alloc (.cells #[b0, b1] t')).alloc (.cells #[z0, z1] t'')).alloc (.cells #[y0, y1] t3)) w1) :
    Box2 t w1 w.heap.size a0 a1 ∧ Box2 t' w1 (w.heap.size + 1) b0 b1 ∧ Box2 t'' w1 (w.heap.size + 1 + 1) z0 z1 ∧ Box2 t3 w1 (w.heap.size + 1 + 1 + 1) y0 y1 ∧ Below w.heap.size w w1 := by
  have h := boxes3 (w := w) (t := t) (t' := t') (t'' := t'') (a0 := a0) (a1 := a1) (b0 := b0) (b1 := b1) (z0 := z0) (z1 := z1) (Below.refl _ _)
  have e3 := size3 w (.cells #[a0, a1] t) (.cells #[b0, b1] t') (.cells #[z0, z1] t'')
  have h4 := Box2.new (((w.alloc (.cells #[a0, a1] t)).alloc (.cells #[b0, b1] t')).alloc (.cells #[z0, z1] t'')) t3 y0 y1
  rw [e3] at h4
  have h0 := h.1.alloc (.cells #[y0, y1] t3)
  have h1 := h.2.1.alloc (.cells #[y0, y1] t3)
  have h2 := h.2.2.1.alloc (.cells #[y0, y1] t3)
  exact ⟨h0.below hb h0.lt, h1.below hb h1.lt, h2.below hb h2.lt, h4.below hb h4.lt, thru (below4 _ _ _ _ _) hb⟩

theorem keep_alloc {w : World} {p : Addr} {v : Value} (h : w.cell? p = some v) (o : Obj) : (w.alloc o).cell? p = some v := (World.cell?_alloc_lt w o p (World.block_lt_of_cell? w p h)).trans h
theorem keep_drew {w : World} {p : Addr} {v : Value} (h : w.cell? p = some v) : w.drew.cell? p = some v := h
theorem keep_set {w : World} {p q : Addr} {v : Value} (h : w.cell? p = some v) (hne : p.block ≠ q.block) (u : Value) : (w.setCell q u).cell? p = some v :=
  (World.cell?_of_block (Below.heap_setCell w q u p.block hne)).trans h

theorem made_x (b : Bool) (A : Option Addr) (n c : Nat) (w : World) :
    Calls Try.prog 50 #[.bool b, .slice A n c] w fun e w' => e = .returned (.agg #[.bool (b && decide (0 < n)), .slice A n c]) ∧ ∃ o, w' = w.alloc o := by
  cases b
  all_goals
    go_enter Try.func50, Try.ntmps50
    go_wp2
  · exact bodyPost_ret (v := .agg #[.bool (false && decide (0 < n)), .slice A n c]) (by simp [results, Try.results50, go_sem]) rfl ⟨rfl, _, rfl⟩
  · exact bodyPost_ret (v := .agg #[.bool (true && decide (0 < n)), .slice A n c]) (by simp [results, Try.results50, go_sem]) rfl ⟨rfl, _, rfl⟩

section
variable (w : World) (o o' o'' : Obj) (t : TypeId) (a b : Value)
theorem quad0 : Box2 t ((((w.alloc (.cells #[a, b] t)).alloc o).alloc o').alloc o'').drew w.heap.size a b := (((Box2.new w t a b).alloc o).alloc o').alloc o''
theorem quad1 : Box2 t ((((w.alloc o).alloc (.cells #[a, b] t)).alloc o').alloc o'').drew (w.heap.size + 1) a b := by
  have h := ((Box2.new (w.alloc o) t a b).alloc o').alloc o''
  rw [show (w.alloc o).heap.size = w.heap.size + 1 by simp] at h
  exact h
theorem quad2 : Box2 t ((((w.alloc o).alloc o').alloc (.cells #[a, b] t)).alloc o'').drew (w.heap.size + 1 + 1) a b := by
  have h := (Box2.new ((w.alloc o).alloc o') t a b).alloc o''
  rw [show ((w.alloc o).alloc o').heap.size = w.heap.size + 1 + 1 by simp] at h
  exact h
theorem quad3 : Box2 t ((((w.alloc o).alloc o').alloc o'').alloc (.cells #[a, b] t)).drew (w.heap.size + 1 + 1 + 1) a b := by
  have h := Box2.new (((w.alloc o).alloc o').alloc o'') t a b
  rw [size3] at h
  exact h
end

/-- A box is written. -/
theorem U32.put3 {w : World} {A S : Option Addr} {n c g m k : Nat} {b : Bool} {t : TypeId} {xs : List Nat} (h : U32 w A n c xs) (q : Box2 t w g (.bool b) (.slice S m k)) (u u' : Value) :
    U32 ((w.setCell ⟨g, 0, none⟩ u).setCell ⟨g, 1, none⟩ u') A n c xs :=
  (h.store (p := ⟨g, 0, none⟩) (by rw [q.c0]; intro x hx; cases hx) u).store (p := ⟨g, 1, none⟩) (by rw [World.cell?_setCell_other _ _ _ _ (by simp)]; rw [q.c1]; intro x hx; cases hx) u'

/-- Two results are written. -/
theorem U32.store4 {w : World} {A : Option Addr} {n c : Nat} {xs : List Nat} (h : U32 w A n c xs) {t t' : TypeId} {g g' : Nat} (k : Box2 t w g (.bool false) (.slice none 0 0)) (k' : Box2 t' w g' (.bool false) (.slice none 0 0)) (hne : g' ≠ g) (u0 u1 v0 v1 : Value) :
    U32 ((((w.setCell ⟨g, 0, none⟩ u0).setCell ⟨g, 1, none⟩ u1).setCell ⟨g', 0, none⟩ v0).setCell ⟨g', 1, none⟩ v1).drew A n c xs :=
  U32.below ((h.store2 k.c0 k.c1 u0 u1).store2 (k'.far2 hne u0 u1).c0 (k'.far2 hne u0 u1).c1 v0 v1) (Below.refl _ _).drew

theorem zat_of {w : World} {A : Option Addr} {c N : Nat} (b : Bool) (h : U32 w A (L N).length c (L N)) : ZIn w A c (sg b N) := by
  unfold ZIn; rw [sg_zl, sg_abs]; exact h
theorem bool_of (b : Bool) (N : Nat) : (b && decide (0 < (L N).length)) = neg (sg b N) := by
  rw [sg_neg, ← nl_dpos N]; rfl
theorem len_of (b : Bool) (N : Nat) : (L N).length = zl (sg b N) := by rw [sg_zl]; rfl

set_option maxHeartbeats 4000000 in
theorem divmod_z {A B : Option Addr} {c d : Nat} {x y : Int} {w : World} (hx : ZIn w A c x) (hy : ZIn w B d y) (hn : zl x ≤ 1000) (hm : zl y ≤ 1000) (hy0 : y ≠ 0) :
    Calls Try.prog 36 #[.agg #[.bool (neg x), .slice A (zl x) c], .agg #[.bool (neg y), .slice B (zl y) d]] w fun e w' => ∃ v u, e = .returned (.tuple #[v, u, .int .i64 0]) ∧ ZAt w' v (x / y) ∧ ZAt w' u (x % y) ∧ Below w.heap.size w w' := by
  go_enter Try.func36, Try.ntmps36
  have HY0 := Lib.hid hy0
  clear hy0
  go_wp2_with fail
  refine (dm_num (NumIn.below (ZIn.num hx) (by exact below4 _ _ _ _ _)) (NumIn.below (ZIn.num hy) (by exact below4 _ _ _ _ _)) (by omega) (by have := HY0.out; omega)).mono ?_
  rintro e w1 ⟨v, u, rfl, ⟨A1, c1, rfl, hU1, hf1⟩, ⟨A2, c2, rfl, hU2, hf2⟩, hb⟩
  obtain ⟨q0, q1, q2, q3, hbw⟩ := boxes4 hb
  have hy1 := hy.below hbw
  clear hb hf1 hf2 hx hy
  have HU1 := Lib.hid hU1
  have HU2 := Lib.hid hU2
  have HY1 := Lib.hid hy1
  have HBW := Lib.hid hbw
  have Q1 := Lib.hid q1
  have Q2 := Lib.hid q2
  have Q3 := Lib.hid q3
  have a0 := q0.c0
  have a1 := q1.c0
  have hs := q3.lt
  clear hU1 hU2 hy1 hbw q1 q2 q3 q0
  generalize hbx : neg x = bx at *
  generalize hby : neg y = bY at *
  have HBX := Lib.hid (And.intro hbx hby)
  clear hbx hby
  go_upto_region 4 with fail
  go_cut [10, 11] (fun s10 s11 wx => ∃ g10 g11 : Nat, s10 = .pointer (some ⟨g10, 0, none⟩) ∧ s11 = .pointer (some ⟨g11, 0, none⟩) ∧
    Box2 28 wx g10 (.bool (!bx == bY && decide (0 < (L (x.natAbs / y.natAbs)).length))) (.slice A1 (L (x.natAbs / y.natAbs)).length c1) ∧ Box2 28 wx g11 (.bool (bx && decide (0 < (L (x.natAbs % y.natAbs)).length))) (.slice A2 (L (x.natAbs % y.natAbs)).length c2) ∧
    g10 ≠ g11 ∧ w1.heap.size ≤ g10 ∧ w1.heap.size ≤ g11 ∧ Below w1.heap.size w1 wx)
  case first =>
    go_region_held3 (fun w' => w'.cell? ⟨w.heap.size, 0, none⟩ = some (.bool bx) ∧ w'.cell? ⟨w.heap.size + 1, 0, none⟩ = some (.bool bY)) (refine ⟨?_, ?_⟩ <;> repeat (first | exact a0 | exact a1 | apply keep_drew | apply keep_alloc | (refine keep_set ?_ (by simp; omega) _))) (first | (go_at_call 50; (with_reducible refine (made_x _ _ _ _ _).mono ?_); rintro e wn ⟨rfl, o, rfl⟩))
    all_goals (go_wp2_with fail)
    all_goals go_meet
    all_goals refine ⟨_, _, rfl, rfl, ?_, ?_, by omega, by omega, by omega, (below4 w1 _ _ _ _).drew⟩
    all_goals first
      | with_reducible exact quad0 w1 _ _ _ _ _ _
      | with_reducible exact quad1 w1 _ _ _ _ _ _
      | with_reducible exact quad2 w1 _ _ _ _ _ _
      | with_reducible exact quad3 w1 _ _ _ _ _ _
  case rest =>
    obtain ⟨g10, g11, rfl, rfl, k10, k11, hgg, hg0, hg1, hbc⟩ := hcut
    rw [bool_of, len_of (!bx == bY)] at k10
    rw [bool_of, len_of bx] at k11
    have k1 := Q1.out.below hbc Q1.out.lt
    have k2 := Q2.out.below hbc Q2.out.lt
    have k3 := Q3.out.below hbc Q3.out.lt
    have hy1 := HY1.out.below hbc
    have zn := zat_of (!bx == bY) (U32.below HU1.out hbc)
    have zm := zat_of bx (U32.below HU2.out hbc)
    have bw := thru HBW.out hbc
    clear HU1 HU2 HY1 HBW Q1 Q2 Q3 a0 a1 hbc
    rw [← HBX.out.1, ← HBX.out.2] at *
    have hzn : zl (sg (!neg x == neg y) (x.natAbs / y.natAbs)) ≤ 1000 := by rw [sg_zl]; exact Nat.le_trans (nl_mono (Nat.div_le_self _ _)) hn
    have hzm : zl (sg (neg x) (x.natAbs % y.natAbs)) ≤ 1000 := by rw [sg_zl]; exact Nat.le_trans (nl_mono (Nat.le_of_lt (Nat.mod_lt _ (by have := HY0.out; omega)))) hm
    have HP := Lib.hid (fun h => ed_plain (x := x) (y := y) HY0.out h)
    have HT := Lib.hid (fun h => ed_turned (x := x) (y := y) HY0.out h)
    generalize sg (!neg x == neg y) (x.natAbs / y.natAbs) = n at *
    generalize sg (neg x) (x.natAbs % y.natAbs) = m at *
    have e0 := k11.c0
    go_upto_if 37 with fail
    go_cut [10] (fun s10 wx => s10 = .pointer (some ⟨g10, 0, none⟩) ∧ ∃ (A3 : Option Addr) (c3 : Nat) (A4 : Option Addr) (c4 : Nat), Box2 28 wx g10 (.bool (neg (x / y))) (.slice A3 (zl (x / y)) c3) ∧ Box2 28 wx g11 (.bool (neg (x % y))) (.slice A4 (zl (x % y)) c4) ∧ ZIn wx A3 c3 (x / y) ∧ ZIn wx A4 c4 (x % y) ∧
      Box2 28 wx (w.heap.size + 1 + 1) (.bool false) (.slice none 0 0) ∧ Box2 28 wx (w.heap.size + 1 + 1 + 1) (.bool false) (.slice none 0 0) ∧ Below w.heap.size w wx)
    case first =>
      cases hneg : neg m
      · have HE := HP.out hneg
        go_wp2_with fail
        go_meet
        case rel => exact ⟨rfl, A1, c1, A2, c2, by rw [HE.1]; exact k10, by rw [HE.2]; exact k11, by rw [HE.1]; exact zn, by rw [HE.2]; exact zm, k2, k3, bw⟩
      · have HE := Lib.hid (HT.out hneg)
        clear HP HT
        clear e0
        have HM := Lib.hid hneg
        clear hneg
        have fy := y.natAbs
        clear fy
        have hxy : zl (y.natAbs : Int) ≤ 1000 := by rw [zl_abs]; exact hm
        have hys := sign_bd y
        have hzs : zl y.sign ≤ 1000 := by have := zl_small (n := y.sign) (by omega) (by omega); omega
        go_upto_region 6 with fail
        go_cut [10] (fun s10 wx => s10 = .pointer (some ⟨g10, 0, none⟩) ∧ ∃ (A4 : Option Addr) (c4 : Nat), Box2 28 wx g11 (.bool (neg (m + y.natAbs))) (.slice A4 (zl (m + y.natAbs)) c4) ∧ ZIn wx A4 c4 (m + y.natAbs) ∧ Box2 28 wx g10 (.bool (neg n)) (.slice A1 (zl n) c1) ∧ ZIn wx A1 c1 n ∧
          Box2 28 wx (w.heap.size + 1) (.bool (neg y)) (.slice B (zl y) d) ∧ Box2 28 wx (w.heap.size + 1 + 1) (.bool false) (.slice none 0 0) ∧ Box2 28 wx (w.heap.size + 1 + 1 + 1) (.bool false) (.slice none 0 0) ∧ Below w.heap.size w wx)
        case first =>
          have a0 := k11.c0
          have a1 := k11.c1
          have b0 := k1.c0
          have b1 := k1.c1
          have K := Lib.hid (And.intro k11 (And.intro k10 (And.intro k1 (And.intro k2 (And.intro k3 bw)))))
          have ZZ := Lib.hid (And.intro (hy1.below (Below.refl wc.heap.size wc).drew) (And.intro (zm.below (Below.refl wc.heap.size wc).drew) (zn.below (Below.refl wc.heap.size wc).drew)))
          clear k11 k10 k1 k2 k3 bw zm zn hy1
          go_region_with (first | (go_at_call 18; (with_reducible refine (abs_z ZZ.out.1).mono ?_); rintro e w2 ⟨v, rfl, ⟨A5, c5, rfl, z5⟩, hb2⟩; have hbA : Below wc.heap.size wc w2 := undrew hb2; have r11 := K.out.1.below hbA K.out.1.lt; have zm2 := ZZ.out.2.1.below hb2; have ra0 := r11.c0; have ra1 := r11.c1) | (go_at_call 20; (with_reducible refine (add_z zm2 z5 (by omega) (by omega)).mono ?_); rintro e w3 ⟨v, rfl, ⟨A6, c6, rfl, z6⟩, hb3⟩; have hb4 := thru hbA hb3; have s11 := r11.below hb3 r11.lt; have s10 := K.out.2.1.below hb4 K.out.2.1.lt; have s1 := K.out.2.2.1.below hb4 K.out.2.2.1.lt; have s2 := K.out.2.2.2.1.below hb4 K.out.2.2.2.1.lt; have s3 := K.out.2.2.2.2.1.below hb4 K.out.2.2.2.2.1.lt; have sb := thru K.out.2.2.2.2.2 hb4; have sn := (ZZ.out.2.2.below hb2).below hb3; have d0 := s11.c0; have d1 := s11.c1; have d2 := s11.f 0; have d3 := s11.f 1))
          all_goals (go_wp2_with fail)
          all_goals go_meet
          all_goals exact ⟨rfl, A6, c6, s11.put _ _, U32.put3 z6 s11 _ _, s10.far2 hgg _ _, U32.put3 sn s11 _ _, s1.far2 (by omega) _ _, s2.far2 (by omega) _ _, s3.far2 (by omega) _ _, below_store2 sb (by omega) _ _⟩
        case rest =>
          clear k11 zm k10 zn k1 k2 k3 bw hy1
          obtain ⟨rfl, A4, c4, k11, zm, k10, zn, k1, k2, k3, bw⟩ := hcut
          have a0 := k10.c0
          have a1 := k10.c1
          have b0 := k1.c0
          have b1 := k1.c1
          have K := Lib.hid (And.intro k11 (And.intro k10 (And.intro k2 (And.intro k3 bw))))
          have ZZ := Lib.hid (And.intro (zn.below (Below.refl wc.heap.size wc).drew) (zm.below (Below.refl wc.heap.size wc).drew))
          clear k11 k10 k1 k2 k3 bw zm zn
          go_upto_region 7 with fail
          go_region_with (first | (go_at_call 11; (with_reducible refine (sign_z (z := y)).mono ?_); rintro e w2 ⟨rfl, hb2⟩; have hbA : Below wc.heap.size wc w2 := undrew hb2; have r10 := K.out.2.1.below hbA K.out.2.1.lt; have ra0 := r10.c0; have ra1 := r10.c1) | (go_at_call 31; (with_reducible refine (of_z (n := y.sign) (by omega) (by omega)).mono ?_); rintro e w3 ⟨v, rfl, ⟨A5, c5, rfl, z5⟩, hb3⟩; have hbB := thru hbA hb3; have t10 := r10.below hb3 r10.lt; have rb0 := t10.c0; have rb1 := t10.c1; have zn2 := (ZZ.out.1.below hb2).below hb3) | (go_at_call 22; (with_reducible refine (sub_z zn2 z5 (by omega) (by omega)).mono ?_); rintro e w4 ⟨v, rfl, ⟨A6, c6, rfl, z6⟩, hb4⟩; have hb5 := thru hbB hb4; have s10 := t10.below hb4 t10.lt; have s11 := K.out.1.below hb5 K.out.1.lt; have s2 := K.out.2.2.1.below hb5 K.out.2.2.1.lt; have s3 := K.out.2.2.2.1.below hb5 K.out.2.2.2.1.lt; have sb := thru K.out.2.2.2.2 hb5; have sm := ((ZZ.out.2.below hb2).below hb3).below hb4; have d0 := s10.c0; have d1 := s10.c1; have d2 := s10.f 0; have d3 := s10.f 1))
          all_goals (go_wp2_with fail)
          all_goals go_meet
          all_goals exact ⟨rfl, A6, c6, A4, c4, by rw [HE.out.1]; exact s10.put _ _, by rw [HE.out.2]; exact s11.far2 hgg.symm _ _, by rw [HE.out.1]; exact U32.put3 z6 s10 _ _, by rw [HE.out.2]; exact U32.put3 sm s10 _ _, s2.far2 (by omega) _ _, s3.far2 (by omega) _ _, below_store2 sb (by omega) _ _⟩
    case rest =>
      clear k11 zm k10 zn k1 k2 k3 bw hy1 HP HT e0
      obtain ⟨rfl, A3, c3, A4, c4, k10, k11, zn, zm, k2, k3, bw⟩ := hcut
      have a0 := k10.c0
      have a1 := k10.c1
      have b0 := k11.c0
      have b1 := k11.c1
      have d0 := k2.c0
      have d1 := k2.c1
      have d2 := k2.f 0
      have d3 := k2.f 1
      have f0 := k3.c0
      have f1 := k3.c1
      have f2 := k3.f 0
      have f3 := k3.f 1
      have K := Lib.hid (And.intro k10 (And.intro k11 (And.intro k2 (And.intro k3 bw))))
      have ZZ := Lib.hid (And.intro zn zm)
      clear k10 k11 k2 k3 bw zn zm
      go_upto_region 8 with fail
      go_region
      all_goals (go_wp2_with fail)
      have k2 := K.out.2.2.1
      have k3 := K.out.2.2.2.1
      exact bodyPost_ret (v := .tuple #[.agg #[.bool (neg (x / y)), .slice A3 (zl (x / y)) c3], .agg #[.bool (neg (x % y)), .slice A4 (zl (x % y)) c4], .int .i64 0]) (by simp [results, Try.results36, go_sem, d0, d1, f0, f1]) rfl
        ⟨_, _, rfl, ⟨_, _, rfl, U32.store4 ZZ.out.1 k2 k3 (by omega) _ _ _ _⟩, ⟨_, _, rfl, U32.store4 ZZ.out.2 k2 k3 (by omega) _ _ _ _⟩, (below_store2 (below_store2 K.out.2.2.2.2 (by omega) _ _) (by omega) _ _).drew⟩

end Go.Proofs.Ytnldopjbiacbfaa
