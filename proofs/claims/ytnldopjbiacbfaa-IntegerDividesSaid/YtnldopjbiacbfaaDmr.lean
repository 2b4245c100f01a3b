/- The reference's DivMod. No condition. -/
import Derived.Test.YtnldopjbiacbfaaDivide2
import Derived.Test.YtnldopjbiacbfaaDmz
namespace Go.Proofs.Ytnldopjbiacbfaa
open Go.RowKit Anv

/-- What norm answers, and that it makes one block alone. -/
def NormX (w : World) (A : Option Addr) (c : Nat) (b : Bool) (N : Nat) (e : Ending) (w' : World) : Prop :=
  e = .returned (.agg #[.bool (neg (sg b N)), .slice A (dl (sg b N)) c]) ∧ ∃ o, w' = w.alloc o

theorem normx_fin {w w' : World} {A : Option Addr} {n c : Nat} {xs : List Nat} {b : Bool} (h : U32 w A n c xs) (hd : AllLt 65536 xs) (m : Nat) (bv : Bool) (hmn : m ≤ n) (hz : ∀ j, m ≤ j → j < n → xs.getD j 0 = 0)
    (hl : m = 0 ∨ xs.getD (m - 1) 0 ≠ 0) (hbv : bv = (b && decide (0 < m))) (hb : ∃ o, w' = w.alloc o) : NormX w A c b (val 65536 xs) (.returned (.agg #[.bool bv, .slice A m c])) w' := by
  have hz' : ∀ j, m ≤ j → j < xs.length → xs.getD j 0 = 0 := fun j h1 h2 => hz j h1 (by rw [← h.len]; exact h2)
  have hm := dn_eq hd m (by rw [h.len]; exact hmn) hz' hl
  refine ⟨?_, hb⟩
  rw [hbv, sg_dl, sg_neg, ← dn_dpos (val 65536 xs), ← hm]

theorem norm_x {b : Bool} {A : Option Addr} {n c : Nat} {xs : List Nat} {w : World} (h : U32 w A n c xs) (hd : AllLt 65536 xs) :
    Calls Try.prog 51 #[.bool b, .slice A n c] w (NormX w A c b (val 65536 xs)) := by
  have hc := h.cap
  have hb := h.big
  unfold maxLen at hb
  go_enter Try.func51, Try.ntmps51
  go_wp2
  go_loop [5] (fun i => ∃ m : Nat, m ≤ n ∧ i = .int .i64 m ∧ Hid (∀ j, m ≤ j → j < n → xs.getD j 0 = 0)) (fun i => (intOf i).toNat)
  case atStart => exact ⟨n, Nat.le_refl _, rfl, fun j h1 h2 => by omega⟩
  case round =>
    obtain ⟨m, hm, rfl, HZ⟩ := hrel
    rcases m with _ | m
    · cases b
      · go_wp2
        exact bodyPost_ret (v := .agg #[.bool false, .slice A 0 c]) (by simp [results, Try.results51, go_sem]) rfl (normx_fin h hd 0 false (by omega) HZ.out (.inl rfl) (by simp) ⟨_, rfl⟩)
      · go_wp2
        exact bodyPost_ret (v := .agg #[.bool false, .slice A 0 c]) (by simp [results, Try.results51, go_sem]) rfl (normx_fin h hd 0 false (by omega) HZ.out (.inl rfl) (by simp) ⟨_, rfl⟩)
    · obtain ⟨bb, off, rfl, hbw, hcs⟩ := h.cells (by omega)
      have hcell := hcs m (by omega)
      clear hcs
      generalize hx : xs.getD m 0 = x at hcell
      have HX := Lib.hid hx
      clear hx
      by_cases hx : x = 0
      · subst hx
        go_wp2
        go_round
        case rel =>
          refine ⟨m, by omega, rfl, fun j h1 h2 => ?_⟩
          rcases Nat.eq_or_lt_of_le h1 with h3 | h3
          · rw [← h3]; exact HX.out
          · exact HZ.out j (by omega) h2
        case measure => simp [intOf]
      · have hx0 : ((x : Int) == 0) = false := by simp; omega
        cases b
        · go_wp2
          exact bodyPost_ret (v := .agg #[.bool false, .slice (some ⟨bb, off, none⟩) (m + 1) c]) (by simp [results, Try.results51, go_sem]) rfl (normx_fin h hd (m + 1) false (by omega) HZ.out (.inr (by rw [Nat.add_sub_cancel, HX.out]; exact hx)) (by simp) ⟨_, rfl⟩)
        · go_wp2
          exact bodyPost_ret (v := .agg #[.bool true, .slice (some ⟨bb, off, none⟩) (m + 1) c]) (by simp [results, Try.results51, go_sem]) rfl (normx_fin h hd (m + 1) true (by omega) HZ.out (.inr (by rw [Nat.add_sub_cancel, HX.out]; exact hx)) (by simp) ⟨_, rfl⟩)

theorem norm_xD {b : Bool} {A : Option Addr} {c N : Nat} {w : World} (h : U32 w A (dn N) c (D N)) :
    Calls Try.prog 51 #[.bool b, .slice A (dn N) c] w (NormX w A c b N) := by
  have h2 := norm_x (b := b) h (D_lt N)
  rw [val_D] at h2
  exact h2

theorem u32_alloc {w : World} {A : Option Addr} {n c : Nat} {xs : List Nat} (h : U32 w A n c xs) (o : Obj) : U32 (w.alloc o) A n c xs := h.below (below1 w o)
theorem u32_drew {w : World} {A : Option Addr} {n c : Nat} {xs : List Nat} (h : U32 w A n c xs) : U32 w.drew A n c xs := h.below (Below.refl w.heap.size w).drew
theorem u32_set {w : World} {A S : Option Addr} {n c g m k : Nat} {b : Bool} {t : TypeId} {xs : List Nat} (h : U32 w A n c xs) (_q : Box2 t w g (.bool b) (.slice S m k)) : U32 w A n c xs := h

theorem rat_of {w : World} {A : Option Addr} {c N : Nat} (b : Bool) (h : U32 w A (dn N) c (D N)) : RIn w A c (sg b N) := by
  unfold RIn; rw [sg_dl, sg_abs]; exact h

set_option maxHeartbeats 4000000 in
theorem divmod_r {A B : Option Addr} {c d : Nat} {x y : Int} {w : World} (hx : RIn w A c x) (hy : RIn w B d y) (hn : dl x ≤ 1000) (hm : dl y ≤ 1000) (hy0 : y ≠ 0) :
    Calls Try.prog 37 #[.agg #[.bool (neg x), .slice A (dl x) c], .agg #[.bool (neg y), .slice B (dl y) d]] w fun e w' => ∃ v u, e = .returned (.tuple #[v, u]) ∧ RAt w' v (x / y) ∧ RAt w' u (x % y) ∧ Below w.heap.size w w' := by
  go_enter Try.func37, Try.ntmps37
  have HY0 := Lib.hid hy0
  clear hy0
  go_wp2_with fail
  refine (divide_ref (U32.below hx (by exact below4 _ _ _ _ _)) (U32.below hy (by exact below4 _ _ _ _ _)) (by show dl x ≤ _; omega) (by show dl y ≤ _; omega) (by have := HY0.out; omega)).mono ?_
  rintro e w1 ⟨A1, c1, A2, c2, rfl, hU1, hU2, hb⟩
  obtain ⟨q0, q1, q2, q3, hbw⟩ := boxes4 hb
  have hy1 := hy.below hbw
  clear hb hx hy
  have HU1 := Lib.hid hU1
  have HU2 := Lib.hid hU2
  have HY1 := Lib.hid hy1
  have HBW := Lib.hid hbw
  have Q1 := Lib.hid q1
  have Q2 := Lib.hid q2
  have Q3 := Lib.hid q3
  have a0 := q0.c0
  have a1 := q1.c0
  have hs := q3.lt
  clear hU1 hU2 hy1 hbw q1 q2 q3 q0
  generalize hbx : neg x = bx at *
  generalize hby : neg y = bY at *
  have HBX := Lib.hid (And.intro hbx hby)
  clear hbx hby
  go_upto_region 2 with fail
  go_cut [8, 9] (fun s10 s11 wx => ∃ g10 g11 : Nat, s10 = .pointer (some ⟨g10, 0, none⟩) ∧ s11 = .pointer (some ⟨g11, 0, none⟩) ∧
    Box2 30 wx g10 (.bool (neg (sg (!bx == bY) (x.natAbs / y.natAbs)))) (.slice A1 (dl (sg (!bx == bY) (x.natAbs / y.natAbs))) c1) ∧ Box2 30 wx g11 (.bool (neg (sg bx (x.natAbs % y.natAbs)))) (.slice A2 (dl (sg bx (x.natAbs % y.natAbs))) c2) ∧
    g10 ≠ g11 ∧ w1.heap.size ≤ g10 ∧ w1.heap.size ≤ g11 ∧ Below w1.heap.size w1 wx)
  case first =>
    go_region_held3 (fun w' => w'.cell? ⟨w.heap.size, 0, none⟩ = some (.bool bx) ∧ w'.cell? ⟨w.heap.size + 1, 0, none⟩ = some (.bool bY)) (refine ⟨?_, ?_⟩ <;> repeat (first | exact a0 | exact a1 | apply keep_drew | apply keep_alloc | (refine keep_set ?_ (by simp; omega) _))) (first | (go_at_call 51; (with_reducible refine (norm_xD (by repeat (first | exact HU1.out | exact HU2.out | apply u32_drew | apply u32_alloc))).mono ?_); rintro e wn ⟨rfl, o, rfl⟩))
    all_goals (go_wp2_with fail)
    all_goals go_meet
    all_goals refine ⟨_, _, rfl, rfl, ?_, ?_, by omega, by omega, by omega, (below4 w1 _ _ _ _).drew⟩
    all_goals first
      | with_reducible exact quad0 w1 _ _ _ _ _ _
      | with_reducible exact quad1 w1 _ _ _ _ _ _
      | with_reducible exact quad2 w1 _ _ _ _ _ _
      | with_reducible exact quad3 w1 _ _ _ _ _ _
  case rest =>
    obtain ⟨g10, g11, rfl, rfl, k10, k11, hgg, hg0, hg1, hbc⟩ := hcut
    have k1 := Q1.out.below hbc Q1.out.lt
    have k2 := Q2.out.below hbc Q2.out.lt
    have k3 := Q3.out.below hbc Q3.out.lt
    have hy1 := HY1.out.below hbc
    have zn := rat_of (!bx == bY) (U32.below HU1.out hbc)
    have zm := rat_of bx (U32.below HU2.out hbc)
    have bw := thru HBW.out hbc
    clear HU1 HU2 HY1 HBW Q1 Q2 Q3 a0 a1 hbc
    rw [← HBX.out.1, ← HBX.out.2] at *
    have hzn : dl (sg (!neg x == neg y) (x.natAbs / y.natAbs)) ≤ 1000 := by rw [sg_dl]; exact Nat.le_trans (dn_mono (Nat.div_le_self _ _)) hn
    have hzm : dl (sg (neg x) (x.natAbs % y.natAbs)) ≤ 1000 := by rw [sg_dl]; exact Nat.le_trans (dn_mono (Nat.le_of_lt (Nat.mod_lt _ (by have := HY0.out; omega)))) hm
    have HP := Lib.hid (fun h => ed_plain (x := x) (y := y) HY0.out h)
    have HT := Lib.hid (fun h => ed_turned (x := x) (y := y) HY0.out h)
    generalize sg (!neg x == neg y) (x.natAbs / y.natAbs) = n at *
    generalize sg (neg x) (x.natAbs % y.natAbs) = m at *
    have e0 := k11.c0
    go_upto_if 30 with fail
    go_cut [8] (fun s10 wx => s10 = .pointer (some ⟨g10, 0, none⟩) ∧ ∃ (A3 : Option Addr) (c3 : Nat) (A4 : Option Addr) (c4 : Nat), Box2 30 wx g10 (.bool (neg (x / y))) (.slice A3 (dl (x / y)) c3) ∧ Box2 30 wx g11 (.bool (neg (x % y))) (.slice A4 (dl (x % y)) c4) ∧ RIn wx A3 c3 (x / y) ∧ RIn wx A4 c4 (x % y) ∧
      Box2 30 wx (w.heap.size + 1 + 1) (.bool false) (.slice none 0 0) ∧ Box2 30 wx (w.heap.size + 1 + 1 + 1) (.bool false) (.slice none 0 0) ∧ Below w.heap.size w wx)
    case first =>
      cases hneg : neg m
      · have HE := HP.out hneg
        go_wp2_with fail
        go_meet
        case rel => exact ⟨rfl, A1, c1, A2, c2, by rw [HE.1]; exact k10, by rw [HE.2]; exact k11, by rw [HE.1]; exact zn, by rw [HE.2]; exact zm, k2, k3, bw⟩
      · have HE := Lib.hid (HT.out hneg)
        clear HP HT
        clear e0
        have HM := Lib.hid hneg
        clear hneg
        have fy := y.natAbs
        clear fy
        have hxy : dl (y.natAbs : Int) ≤ 1000 := by rw [dl_abs]; exact hm
        have hys := sign_bd y
        have hzs : dl y.sign ≤ 1000 := by have := dl_small (n := y.sign) (by omega) (by omega); omega
        go_upto_region 4 with fail
        go_cut [8] (fun s10 wx => s10 = .pointer (some ⟨g10, 0, none⟩) ∧ ∃ (A4 : Option Addr) (c4 : Nat), Box2 30 wx g11 (.bool (neg (m + y.natAbs))) (.slice A4 (dl (m + y.natAbs)) c4) ∧ RIn wx A4 c4 (m + y.natAbs) ∧ Box2 30 wx g10 (.bool (neg n)) (.slice A1 (dl n) c1) ∧ RIn wx A1 c1 n ∧
          Box2 30 wx (w.heap.size + 1) (.bool (neg y)) (.slice B (dl y) d) ∧ Box2 30 wx (w.heap.size + 1 + 1) (.bool false) (.slice none 0 0) ∧ Box2 30 wx (w.heap.size + 1 + 1 + 1) (.bool false) (.slice none 0 0) ∧ Below w.heap.size w wx)
        case first =>
          have a0 := k11.c0
          have a1 := k11.c1
          have b0 := k1.c0
          have b1 := k1.c1
          have K := Lib.hid (And.intro k11 (And.intro k10 (And.intro k1 (And.intro k2 (And.intro k3 bw)))))
          have ZZ := Lib.hid (And.intro (hy1.below (Below.refl wc.heap.size wc).drew) (And.intro (zm.below (Below.refl wc.heap.size wc).drew) (zn.below (Below.refl wc.heap.size wc).drew)))
          clear k11 k10 k1 k2 k3 bw zm zn hy1
          go_region_with (first | (go_at_call 19; (with_reducible refine (abs_r ZZ.out.1).mono ?_); rintro e w2 ⟨v, rfl, ⟨A5, c5, rfl, z5⟩, hb2⟩; have hbA : Below wc.heap.size wc w2 := undrew hb2; have r11 := K.out.1.below hbA K.out.1.lt; have zm2 := ZZ.out.2.1.below hb2; have ra0 := r11.c0; have ra1 := r11.c1) | (go_at_call 21; (with_reducible refine (add_r zm2 z5 (by omega) (by omega)).mono ?_); rintro e w3 ⟨v, rfl, ⟨A6, c6, rfl, z6⟩, hb3⟩; have hb4 := thru hbA hb3; have s11 := r11.below hb3 r11.lt; have s10 := K.out.2.1.below hb4 K.out.2.1.lt; have s1 := K.out.2.2.1.below hb4 K.out.2.2.1.lt; have s2 := K.out.2.2.2.1.below hb4 K.out.2.2.2.1.lt; have s3 := K.out.2.2.2.2.1.below hb4 K.out.2.2.2.2.1.lt; have sb := thru K.out.2.2.2.2.2 hb4; have sn := (ZZ.out.2.2.below hb2).below hb3; have d0 := s11.c0; have d1 := s11.c1; have d2 := s11.f 0; have d3 := s11.f 1))
          all_goals (go_wp2_with fail)
          all_goals go_meet
          all_goals exact ⟨rfl, A6, c6, s11.put _ _, U32.put3 z6 s11 _ _, s10.far2 hgg _ _, U32.put3 sn s11 _ _, s1.far2 (by omega) _ _, s2.far2 (by omega) _ _, s3.far2 (by omega) _ _, below_store2 sb (by omega) _ _⟩
        case rest =>
          clear k11 zm k10 zn k1 k2 k3 bw hy1
          obtain ⟨rfl, A4, c4, k11, zm, k10, zn, k1, k2, k3, bw⟩ := hcut
          have a0 := k10.c0
          have a1 := k10.c1
          have b0 := k1.c0
          have b1 := k1.c1
          have K := Lib.hid (And.intro k11 (And.intro k10 (And.intro k2 (And.intro k3 bw))))
          have ZZ := Lib.hid (And.intro (zn.below (Below.refl wc.heap.size wc).drew) (zm.below (Below.refl wc.heap.size wc).drew))
          clear k11 k10 k1 k2 k3 bw zm zn
          go_upto_region 5 with fail
          go_region_with (first | (go_at_call 12; (with_reducible refine (sign_r (z := y)).mono ?_); rintro e w2 ⟨rfl, hb2⟩; have hbA : Below wc.heap.size wc w2 := undrew hb2; have r10 := K.out.2.1.below hbA K.out.2.1.lt; have ra0 := r10.c0; have ra1 := r10.c1) | (go_at_call 27; (with_reducible refine (of_r (n := y.sign) (by omega) (by omega)).mono ?_); rintro e w3 ⟨v, rfl, ⟨A5, c5, rfl, z5⟩, hb3⟩; have hbB := thru hbA hb3; have t10 := r10.below hb3 r10.lt; have rb0 := t10.c0; have rb1 := t10.c1; have zn2 := (ZZ.out.1.below hb2).below hb3) | (go_at_call 23; (with_reducible refine (sub_r zn2 z5 (by omega) (by omega)).mono ?_); rintro e w4 ⟨v, rfl, ⟨A6, c6, rfl, z6⟩, hb4⟩; have hb5 := thru hbB hb4; have s10 := t10.below hb4 t10.lt; have s11 := K.out.1.below hb5 K.out.1.lt; have s2 := K.out.2.2.1.below hb5 K.out.2.2.1.lt; have s3 := K.out.2.2.2.1.below hb5 K.out.2.2.2.1.lt; have sb := thru K.out.2.2.2.2 hb5; have sm := ((ZZ.out.2.below hb2).below hb3).below hb4; have d0 := s10.c0; have d1 := s10.c1; have d2 := s10.f 0; have d3 := s10.f 1))
          all_goals (go_wp2_with fail)
          all_goals go_meet
          all_goals exact ⟨rfl, A6, c6, A4, c4, by rw [HE.out.1]; exact s10.put _ _, by rw [HE.out.2]; exact s11.far2 hgg.symm _ _, by rw [HE.out.1]; exact U32.put3 z6 s10 _ _, by rw [HE.out.2]; exact U32.put3 sm s10 _ _, s2.far2 (by omega) _ _, s3.far2 (by omega) _ _, below_store2 sb (by omega) _ _⟩
    case rest =>
      clear k11 zm k10 zn k1 k2 k3 bw hy1 HP HT e0
      obtain ⟨rfl, A3, c3, A4, c4, k10, k11, zn, zm, k2, k3, bw⟩ := hcut
      have a0 := k10.c0
      have a1 := k10.c1
      have b0 := k11.c0
      have b1 := k11.c1
      have d0 := k2.c0
      have d1 := k2.c1
      have d2 := k2.f 0
      have d3 := k2.f 1
      have f0 := k3.c0
      have f1 := k3.c1
      have f2 := k3.f 0
      have f3 := k3.f 1
      have K := Lib.hid (And.intro k10 (And.intro k11 (And.intro k2 (And.intro k3 bw))))
      have ZZ := Lib.hid (And.intro zn zm)
      clear k10 k11 k2 k3 bw zn zm
      go_upto_region 6 with fail
      go_region
      all_goals (go_wp2_with fail)
      have k2 := K.out.2.2.1
      have k3 := K.out.2.2.2.1
      exact bodyPost_ret (v := .tuple #[.agg #[.bool (neg (x / y)), .slice A3 (dl (x / y)) c3], .agg #[.bool (neg (x % y)), .slice A4 (dl (x % y)) c4]]) (by simp [results, Try.results37, go_sem, d0, d1, f0, f1]) rfl
        ⟨_, _, rfl, ⟨_, _, rfl, U32.store4 ZZ.out.1 k2 k3 (by omega) _ _ _ _⟩, ⟨_, _, rfl, U32.store4 ZZ.out.2 k2 k3 (by omega) _ _ _ _⟩, (below_store2 (below_store2 K.out.2.2.2.2 (by omega) _ _) (by omega) _ _).drew⟩

end Go.Proofs.Ytnldopjbiacbfaa
