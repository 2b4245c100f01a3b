/- The reference's divide, bit by bit. No condition. -/
import Derived.Test.YtbdngknpngcojaaDoorM37
import Derived.Deep.CutRange

namespace Go.Proofs.YtbdngknpngcojaaDoor
open Go.RowKit Anv
theorem dn_dbl {R t : Nat} : dn R ≤ dn (2 * R + t) := dn_mono (by omega)
theorem snoc_D {ys : List Nat} {T : Nat} (h : AllLt 65536 ys) (hv : val 65536 (ys ++ [1]) = T) : ys ++ [1] = D T := by
  rw [← hv]
  unfold D
  rw [dig_val (by omega) (h.append (AllLt.cons (by omega) (AllLt.nil _)))]
  unfold Norm
  rw [List.getLast?_concat]
  simp
theorem cmpI_ge (N M : Nat) : 0 ≤ cmpI N M ↔ M ≤ N := by unfold cmpI; (repeat' split) <;> omega
theorem dbl_step (x o : List Nat) (i c t : Nat) (hi : i < o.length) (h : val 65536 (o.take i) + 65536 ^ i * c = 2 * val 65536 (x.take i) + t) :
    val 65536 ((o.set i ((c + 2 * x.getD i 0) % 65536)).take (i + 1)) + 65536 ^ (i + 1) * ((c + 2 * x.getD i 0) / 65536) = 2 * val 65536 (x.take (i + 1)) + t := by
  rw [val_set_take 65536 o i _ hi, val_take_step 65536 x i, Nat.pow_succ]
  generalize hs : c + 2 * x.getD i 0 = s
  have h1 := Nat.mod_add_div s 65536
  have h2 : 65536 ^ i * (s % 65536) + 65536 ^ i * (65536 * (s / 65536)) = 65536 ^ i * s := by rw [← Nat.mul_add, h1]
  have h3 : 65536 ^ i * s = 65536 ^ i * c + 2 * (65536 ^ i * x.getD i 0) := by rw [← hs, Nat.mul_add, Nat.mul_left_comm]
  rw [Nat.mul_assoc]
  rw [Nat.mul_add]
  omega
theorem turn_of {N k M t : Nat} (hM : 0 < M) (ht : t = N / 2 ^ k % 2) : t ≤ 1 ∧ N / 2 ^ k = 2 * (N / 2 ^ (k + 1)) + t ∧
    (M ≤ 2 * (N / 2 ^ (k + 1) % M) + t → N / 2 ^ k / M = 2 * (N / 2 ^ (k + 1) / M) + 1 ∧ N / 2 ^ k % M = 2 * (N / 2 ^ (k + 1) % M) + t - M) ∧
    (¬ M ≤ 2 * (N / 2 ^ (k + 1) % M) + t → N / 2 ^ k / M = 2 * (N / 2 ^ (k + 1) / M) ∧ N / 2 ^ k % M = 2 * (N / 2 ^ (k + 1) % M) + t) := by
  have e : N / 2 ^ (k + 1) = N / 2 ^ k / 2 := by rw [Nat.pow_succ, Nat.div_div_eq_div_mul]
  have e2 : N / 2 ^ k = 2 * (N / 2 ^ (k + 1)) + t := by omega
  have ht1 : t ≤ 1 := by omega
  refine ⟨ht1, e2, fun h => ?_, fun h => ?_⟩
  · rw [e2]; exact ldiv_yes hM ht1 h
  · rw [e2]; exact ldiv_no h
set_option maxRecDepth 100000 in
set_option maxHeartbeats 1000000 in
theorem divide_many {A B : Option Addr} {c d N M : Nat} {w : World} (hx : U32 w A (dn N) c (D N)) (hy : U32 w B (dn M) d (D M)) (hn : dn N ≤ 60000) (hm : dn M ≤ 60000) (h1 : dn M ≠ 1) (hM0 : 0 < M) :
    Calls Tryd.prog 72 #[.slice A (dn N) c, .slice B (dn M) d] w (DivPost w N M) := by
  have hne : ((dn M : Int) == 1) = false := by simp; omega
  have hbl := blen_dn N
  have hlt := lt_blen N
  have HBL := Lib.hid (And.intro hbl hlt)
  have hbb : blen N ≤ 960000 := by omega
  have HX := Lib.hid hx
  have HY := Lib.hid hy
  clear h1 hbl hlt hx hy
  have hfd := field_D
  go_enter Tryd.func72, Tryd.ntmps72
  go_wp2_with (at_make; refine wpList_make_nums _ rfl _ _ 93 rfl 105 .u32 4 Tryd.underlying93 info_u32 _ _ _ _ (dn N) rfl rfl (by omega) (by omega) (by omega) (by omega) ?_; intro w1 hA1 hB1 hz1)
  have HA := Lib.hid hA1
  have HB := Lib.hid hB1
  have hx1 := HX.out.below hB1
  clear hA1 hB1
  refine (bits_d hx1 (by omega)).mono ?_
  rintro e w' ⟨rfl, rfl⟩
  clear hx1
  go_wp2_with fail
  go_loopw [10, 11] (fun s10 s11 wr => ∃ (kk : Nat) (qs : List Nat) (A3 : Option Addr) (c3 : Nat), kk ≤ blen N ∧ s11 = .int .i64 ((kk : Int) - 1) ∧ s10 = .slice A3 (dn (N / 2 ^ kk % M)) c3 ∧
      Hid (qs.length = dn N ∧ AllLt 65536 qs ∧ val 65536 qs = N / 2 ^ kk / M * 2 ^ kk) ∧
      Hid (Own (w.heap.size + 1) 105 wr (.slice A3 (dn (N / 2 ^ kk % M)) c3) (D (N / 2 ^ kk % M))) ∧ Hid (Arr .u32 105 wr w.heap.size qs) ∧ Hid (Below w.heap.size w wr)) (fun _ s11 _ => (intOf s11 + 1).toNat)
  case atStart =>
    have e0 : N / 2 ^ blen N = 0 := Nat.div_eq_of_lt HBL.out.2
    refine ⟨blen N, List.replicate (dn N) 0, none, 0, Nat.le_refl _, rfl, ?_, ⟨by simp, AllLt.zeros (by omega) _, ?_⟩, ?_, HA.out, HB.out⟩
    · rw [e0, Nat.zero_mod, dn_zero]
    · rw [e0, Nat.zero_div, Nat.zero_mul, val_zeros]
    · rw [e0, Nat.zero_mod, dn_zero, D_zero]; exact Own.nil _ _ _
  case round =>
    clear HA HB hz1
    obtain ⟨kk, qs, A3, c3, hk, rfl, rfl, HI, HO, HA, HW⟩ := hrel
    rcases kk with _ | k
    · have h3 := HI.out
      have hO := HO.out
      rw [Nat.pow_zero, Nat.div_one, Nat.mul_one] at h3
      rw [Nat.pow_zero, Nat.div_one] at hO ⊢
      have HU := Lib.hid (HA.out.u32 (wide h3.2.1) h3.1 (by simp only [maxLen]; omega))
      have HD := Lib.hid h3.2.1
      have HV := Lib.hid h3.2.2
      have HO2 := Lib.hid hO
      clear h3 hO HI HO HA
      go_wp2_with fail
      refine (norm_nat HU.out HD.out).mono ?_
      rintro e w2 ⟨rfl, hz1, hb1⟩
      rw [HV.out] at hz1 ⊢
      obtain ⟨A4, c4, e4, hU4, _⟩ := HO2.out.u32 (wide (D_lt _))
      cases e4
      have HZ1 := Lib.hid hz1
      have HU4 := Lib.hid (hU4.below hb1)
      have HW1 := Lib.hid (thru HW.out hb1)
      clear hz1 hb1 hU4
      go_wp2
      go_ret2
      exact ⟨_, _, _, _, rfl, HZ1.out, HU4.out, HW1.out⟩
    · rw [show (((k + 1 : Nat) : Int) - 1) = (k : Int) from by omega]
      have hk0 : (0 : Int) ≤ (k : Int) := by omega
      obtain ⟨t, ht⟩ : ∃ t, t = N / 2 ^ k % 2 := ⟨_, rfl⟩
      have hturn := turn_of hM0 ht
      have ht1 := hturn.1
      have HT := Lib.hid hturn
      have HTE := Lib.hid ht
      have hxr := HX.out.below HW.out
      obtain ⟨R, hR⟩ : ∃ R, R = N / 2 ^ (k + 1) % M := ⟨_, rfl⟩
      rw [← hR] at HT HO ⊢
      have hRM : R < M := by rw [hR]; exact Nat.mod_lt _ hM0
      have hRn : dn R ≤ 60000 := Nat.le_trans (dn_mono (by omega)) hm
      clear hturn ht hR
      go_wp2_with fail
      refine (bit_ref hxr (by have := HBL.out.1; omega) (by omega)).mono ?_
      rintro e w' ⟨rfl, rfl⟩
      rw [← HTE.out]
      clear hxr
      go_wp2_with fail
      go_loopw [12, 13] (fun s12 s13 wx => ∃ (i cc : Nat) (ys : List Nat), i ≤ dn R ∧ s13 = .int .i64 i ∧ s12 = .int .u32 cc ∧ cc ≤ 1 ∧
        Hid (ys.length = dn R ∧ AllLt 65536 ys ∧ (∀ j, i ≤ j → ys.getD j 0 = (D R).getD j 0) ∧ val 65536 (ys.take i) + 65536 ^ i * cc = 2 * val 65536 ((D R).take i) + t) ∧
        Hid (Own (w.heap.size + 1) 105 wx (.slice A3 (dn R) c3) ys) ∧ Hid (Arr .u32 105 wx w.heap.size qs) ∧ Hid (Below w.heap.size w wx)) (fun _ s13 _ => dn R - (intOf s13).toNat)
      case atStart => exact ⟨0, t, D R, Nat.zero_le _, rfl, rfl, ht1, ⟨rfl, D_lt R, fun _ _ => rfl, by simp⟩, HO.out, HA.out, HW.out⟩
      case round =>
        clear HO HA HW
        obtain ⟨i, cc, ys, hi, rfl, rfl, hcc, HJ, HO, HA, HW⟩ := hrel
        by_cases hlt : i < dn R
        · obtain ⟨g, cap, hv, _, _, hg, hL⟩ := HO.out.lst (by rw [HJ.out.1]; omega)
          simp only [Value.slice.injEq] at hv
          obtain ⟨rfl, _, rfl⟩ := hv
          have hcx := hL.cell i (by rw [HJ.out.1]; exact hlt)
          rw [HJ.out.2.2.1 i (Nat.le_refl _)] at hcx
          have hfo := hL.frozen i
          have hxlt := (D_lt R).get (by omega) i
          have hst := dbl_step (D R) ys i cc t (by rw [HJ.out.1]; exact hlt) HJ.out.2.2.2
          have HS := Lib.hid hst
          clear hst hL
          generalize (D R).getD i 0 = x at *
          go_wp2
          go_roundw
          case rel =>
            have h3 := HJ.out
            exact ⟨i + 1, (cc + 2 * x) / 65536, ys.set i ((cc + 2 * x) % 65536), by omega, by go_num, int_eq (by omega), by omega, ⟨by rw [List.length_set]; exact h3.1, h3.2.1.set i (by omega), fun j hj => by rw [dset_ne (by omega)]; exact h3.2.2.1 j (by omega), HS.out⟩, HO.out.set' i _ _ (by omega), HA.out.far (by show w.heap.size ≠ g; omega) _, HW.out.setCell (by show w.heap.size ≤ g; omega) _⟩
          case measure => simp [intOf]; omega
        · have h3 := HJ.out
          obtain rfl : i = dn R := by omega
          have h4 := h3.2.2.2
          rw [List.take_of_length_le (by rw [h3.1]; exact Nat.le_refl _), List.take_of_length_le (by exact Nat.le_refl _), val_D] at h4
          have hTb : 2 * R + t < 2 * M := by omega
          have hTn : dn (2 * R + t) ≤ 120003 := by
            have e1 := dn_add R R
            have e2 := dn_add (R + R) t
            have e3 : dn t ≤ 1 := dn_le_of_lt (by omega)
            rw [show R + R + t = 2 * R + t by omega] at e2
            omega
          have hyl := h3.1
          have hya := h3.2.1
          clear h3 HJ
          have hsz := HA.out.lt
          have HZ := Lib.hid (And.intro h4 (And.intro hyl hya))
          clear h4 hyl hya
          go_upto_if 93 with fail
          go_cut [10] from 65 to 119 (fun s10 wx => ∃ (A4 : Option Addr) (c4 : Nat), s10 = .slice A4 (dn (2 * R + t)) c4 ∧ Hid (Own (w.heap.size + 1) 105 wx (.slice A4 (dn (2 * R + t)) c4) (D (2 * R + t))) ∧ Hid (Arr .u32 105 wx w.heap.size qs) ∧ Hid (Below w.heap.size w wx))
          case first =>
            rcases (show cc = 0 ∨ cc = 1 by omega) with rfl | rfl
            · have h5 := eq_D HZ.out.2.2 (by rw [show val 65536 ys = 2 * R + t by have := HZ.out.1; omega, HZ.out.2.1]; exact dn_dbl)
              rw [show val 65536 ys = 2 * R + t by have := HZ.out.1; omega] at h5
              have hnT : dn R = dn (2 * R + t) := by rw [← HZ.out.2.1, h5]; rfl
              rw [h5] at HO
              have HNT := Lib.hid hnT
              clear h5 hnT
              go_wp2_with fail
              go_meet
              case rel => exact ⟨A3, c3, by rw [HNT.out], by rw [← HNT.out]; exact HO.out, HA.out, HW.out⟩
            · have h5 := snoc_D HZ.out.2.2 (T := 2 * R + t) (by rw [val_append, HZ.out.2.1]; simpa using HZ.out.1)
              have H5 := Lib.hid h5
              clear h5
              go_wp2_with (at_builtin; refine wpList_append_new _ rfl (.tmp 94) (.tmp 96) 93 rfl 105 4 Tryd.underlying93 info_u32 (w.heap.size + 1) _ ys HO.out 1 _ [1] (by simp [nums]) rfl rfl rfl (by rw [HZ.out.2.1]; simp only [maxLen]; omega) (by rw [HZ.out.2.1]; omega) (by omega) ?_; intro v1 w2 hO1 hs1 hB1; rw [H5.out] at hO1; have HO1 := Lib.hid hO1; have HB1 := Lib.hid hB1; clear hO1 hB1)
              go_meet
              case rel =>
                have hO := HO1.out
                obtain ⟨A4, c4, e4, _, _⟩ := hO.u32 (wide (D_lt _))
                subst e4
                exact ⟨A4, c4, rfl, hO, HA.out.below (HB1.out (w.heap.size + 1) wr (Nat.le_refl _) (Below.refl _ _)) (by omega), HB1.out _ _ (by omega) HW.out⟩
          case rest =>
            clear HO HA HW HZ
            obtain ⟨A4, c4, rfl, HO, HA, HW⟩ := hcut
            obtain ⟨A5, c5, e5, hU5, _⟩ := HO.out.u32 (wide (D_lt _))
            cases e5
            have hY5 := HY.out.below HW.out
            go_wp2_with fail
            refine (size_ref' hU5 hY5).mono ?_
            rintro e w5 ⟨rfl, hb5⟩
            have hcb := cmpI_bd (2 * R + t) M
            have hcg := cmpI_ge (2 * R + t) M
            have hUr := hU5.below hb5
            have hYr := hY5.below hb5
            have HO5 := Lib.hid (HO.out.below hb5 (Nat.le_refl _))
            have HA5 := Lib.hid (HA.out.below hb5 HA.out.lt)
            have HW5 := Lib.hid (thru HW.out hb5)
            clear hU5 hY5 hb5 HO HA HW
            by_cases hge : M ≤ 2 * R + t
            · have hc0 := hcg.2 hge
              have hE := HT.out.2.2.1 hge
              have HE := Lib.hid hE
              clear hcg hE
              generalize cmpI (2 * R + t) M = z at *
              go_wp2_with fail
              refine (minus_own hUr hYr (D_lt _) (D_lt _) (by show dn (2 * R + t) ≤ _; omega) (by rw [val_D, val_D]; exact hge)).mono ?_
              rintro e w6 ⟨v6, os, rfl, hO6, hol, hoa, hov, hb6⟩
              rw [val_D, val_D, ← HE.out.2] at hov
              obtain ⟨A6, c6, rfl, hU6, hf6⟩ := hO6.u32 (wide hoa)
              have HA6 := Lib.hid (HA5.out.below hb6 HA5.out.lt)
              have HW6 := Lib.hid (thru HW5.out hb6)
              have HO6 := Lib.hid (And.intro hO6 (And.intro hol (And.intro hoa hov)))
              have hs5 := HA5.out.lt
              clear hO6 hol hov hUr hYr hb6 hf6
              go_wp2_with fail
              refine (norm_nat hU6 hoa).mono ?_
              rintro e w7 ⟨rfl, hU7, hb7⟩
              have hA7 := HA6.out.below hb7 HA6.out.lt
              have HW7 := Lib.hid (thru HW6.out hb7)
              have hO7 := (HO6.out.1.pre (dn_le_len hoa) rfl).below hb7 (Nat.le_refl _)
              rw [take_D hoa] at hO7
              rw [HO6.out.2.2.2] at hO7 ⊢
              have HO7 := Lib.hid (hO7.mono (show w.heap.size + 1 ≤ w5.heap.size by omega))
              obtain ⟨j, hj⟩ : ∃ j, j = k / 16 := ⟨_, rfl⟩
              obtain ⟨r, hr⟩ : ∃ r, r = k % 16 := ⟨_, rfl⟩
              have hj1 : (k : Int) / 16 = j := by omega
              have hr1 : (k : Int) % 16 = r := by omega
              have hr2 : r < 16 := by omega
              have hjn : j < dn N := by have := HBL.out.1; omega
              have hcj := hA7.cell j (by rw [HI.out.1]; exact hjn)
              have hfj := hA7.frozen j
              have HA7 := Lib.hid hA7
              have HJR := Lib.hid (And.intro hj hr)
              clear hj hr hU7 hb7 hO7 hA7 hU6 hoa HA6 HW6 HA5 HW5 HO5
              generalize hxx : qs.getD j 0 = x at hcj
              have HXX := Lib.hid hxx
              clear hxx
              go_wp2_with fail
              go_region
              all_goals (go_wp2_with fail)
              have h3 := HI.out
              have h6 := set16 h3.2.1 k (by rw [h3.1, ← HJR.out.1]; exact hjn) _ h3.2.2
              rw [← HJR.out.1, ← HJR.out.2, HXX.out] at h6
              have hr16 : 2 ^ r < 65536 := Nat.pow_lt_pow_right (n := 16) (by omega) hr2
              have H7 : bits .or .u32 (x : Int) (2 ^ r % 4294967296) = ((x + 2 ^ r : Nat) : Int) := by
                have e : (2 : Int) ^ r = ((2 ^ r : Nat) : Int) := by rw [Int.natCast_pow]; rfl
                rw [e]
                generalize 2 ^ r = p at h6 hr16 ⊢
                rw [← h6.1, ← u32_or_nat x p (by have := h6.2.1; omega) (by omega)]
                congr 1
                omega
              have hA8 := HA7.out.set' j _ _ H7
              go_roundw
              case rel =>
                refine ⟨k, qs.set j (x + 2 ^ r), A6, c6, by omega, rfl, rfl, ⟨by rw [List.length_set]; exact h3.1, h3.2.1.set j h6.2.1, ?_⟩, (HO7.out.far (by show w.heap.size < _; omega) _).drew, hA8.below ((Below.refl (w.heap.size + 1) _).drew) (by omega), (HW7.out.setCell (Nat.le_refl _) _).drew⟩
                rw [h6.2.2, HE.out.1]
              case measure => simp [intOf]
            · have hc0 : ¬ 0 ≤ cmpI (2 * R + t) M := fun h => hge (hcg.1 h)
              have hE := HT.out.2.2.2 hge
              have HE := Lib.hid hE
              clear hcg hE
              generalize cmpI (2 * R + t) M = z at *
              go_wp2_with fail
              go_roundw
              case rel =>
                have h3 := HI.out
                refine ⟨k, qs, A4, c4, by omega, rfl, by rw [HE.out.2], ⟨h3.1, h3.2.1, ?_⟩, by rw [HE.out.2]; exact HO5.out, HA5.out, HW5.out⟩
                rw [h3.2.2, HE.out.1]
                generalize N / 2 ^ (k + 1) / M = Q
                rw [Nat.pow_succ]
                ac_rfl
              case measure => simp [intOf]
theorem divide_ref {A B : Option Addr} {c d N M : Nat} {w : World} (hx : U32 w A (dn N) c (D N)) (hy : U32 w B (dn M) d (D M)) (hn : dn N ≤ 60000) (hm : dn M ≤ 60000) (hM : M ≠ 0) :
    Calls Tryd.prog 72 #[.slice A (dn N) c, .slice B (dn M) d] w (DivPost w N M) := by
  by_cases h1 : dn M = 1
  · exact divide_one hx hy (by omega) h1
  · exact divide_many hx hy hn hm h1 (by omega)
end Go.Proofs.YtbdngknpngcojaaDoor
