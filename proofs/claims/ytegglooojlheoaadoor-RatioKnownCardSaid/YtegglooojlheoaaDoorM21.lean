/- limb.DivMod. No condition. -/
import Derived.Test.YtegglooojlheoaaDoorM18
import Derived.Test.YtegglooojlheoaaDoorM7
import Derived.Test.YtegglooojlheoaaDoorM8
import Derived.Test.YtegglooojlheoaaDoorM19
import Derived.Test.YtegglooojlheoaaDoorM20
import Derived.Test.YtegglooojlheoaaDoorM16
import Derived.Deep.DeepCutAuto

namespace Go.Proofs.YtegglooojlheoaaDoor
open Go.RowKit Anv
theorem nil_num (B : Nat) (w : World) : NumAt B w (.slice none 0 0) 0 :=
  ⟨none, 0, by rw [L_zero]; rfl, by rw [L_zero]; exact ⟨rfl, Nat.le_refl _, by simp [maxLen], AllLt.nil _, fun hp => by simp at hp⟩, fun a ha => by cases ha⟩
theorem dm_less {A B : Option Addr} {n c m d N M : Nat} {w : World} (h : NumIn w A n c N) (k : NumIn w B m d M) (hN : nl N ≤ 1000000) (hlt : N < M) :
    Calls Tryd.prog 147 #[.slice A n c, .slice B m d] w fun e w' => ∃ v u, e = .returned (.tuple #[v, u, .int .i64 0]) ∧ NumAt w.heap.size w' v (N / M) ∧ NumAt w.heap.size w' u (N % M) ∧ Below w.heap.size w w' := by
  have h0 : 0 < nl M := nl_pos (by omega)
  have hc := (cmpI_neg N M).2 hlt
  have hb := cmpI_bd N M
  have HE := Lib.hid (And.intro (Nat.div_eq_of_lt hlt) (Nat.mod_eq_of_lt hlt))
  clear hlt
  go_enter Tryd.func147, Tryd.ntmps147
  go_wp2_with fail
  refine (trim_num _ _ _ _ _ k).mono ?_
  rintro e w' ⟨rfl, hT, rfl⟩
  go_wp2_with fail
  refine (cmp_num' h (U32.num hT)).mono ?_
  rintro e w1 ⟨rfl, hb1⟩
  have h1 := h.below hb1
  clear hT k h
  generalize cmpI N M = z at *
  go_wp2_with fail
  refine (norm_num h1 hN).mono ?_
  rintro e w2 ⟨v, rfl, ⟨A2, c2, rfl, hU, hf⟩, hb2⟩
  have HU := Lib.hid hU
  have HF := Lib.hid hf
  clear hU hf h1
  go_wp2
  refine bodyPost_ret (v := .tuple #[.slice none 0 0, .slice A2 (L N).length c2, .int .i64 0]) (by simp [results, Tryd.results147, go_sem]) rfl ?_
  refine ⟨_, _, rfl, ?_, ?_, thru hb1 hb2⟩
  · rw [HE.out.1]; exact nil_num _ _
  · rw [HE.out.2]; exact ⟨_, _, rfl, HU.out, fun a ha => Nat.le_trans hb1.size (HF.out a ha)⟩
theorem one_limb {M : Nat} (h : nl M = 1) : (L M).getD 0 0 = M ∧ M < 4294967296 := by
  have h1 := val_L M
  have h2 := L_lt M
  have h3 : (L M).length = 1 := h
  obtain ⟨x, hx⟩ := List.length_eq_one_iff.1 h3
  rw [hx] at h1 h2 ⊢
  have := h2.head
  simp at h1
  subst h1
  exact ⟨rfl, this⟩
theorem dm_one {A B : Option Addr} {n c m d N M : Nat} {w : World} (h : NumIn w A n c N) (k : NumIn w B m d M) (hn : n ≤ 1000000) (hle : ¬ N < M) (h1 : nl M = 1) :
    Calls Tryd.prog 147 #[.slice A n c, .slice B m d] w fun e w' => ∃ v u, e = .returned (.tuple #[v, u, .int .i64 0]) ∧ NumAt w.heap.size w' v (N / M) ∧ NumAt w.heap.size w' u (N % M) ∧ Below w.heap.size w w' := by
  have hc : ¬ cmpI N M < 0 := fun h => hle ((cmpI_neg N M).1 h)
  have hb := cmpI_bd N M
  have hM0 : 0 < M := by
    rcases Nat.eq_zero_or_pos M with h | h
    · subst h; rw [nl_zero] at h1; omega
    · exact h
  have h2 := one_limb h1
  have hM : M < 4294967296 := h2.2
  have HO := Lib.hid h2.1
  have H1 := Lib.hid h1
  have hml : N % M < 4294967296 := Nat.lt_trans (Nat.mod_lt N hM0) hM
  clear hle h2 h1
  go_enter Tryd.func147, Tryd.ntmps147
  go_wp2_with fail
  refine (trim_num _ _ _ _ _ k).mono ?_
  rintro e w' ⟨rfl, hT, rfl⟩
  rw [H1.out] at hT ⊢
  go_wp2_with fail
  refine (cmp_num' h (U32.num hT)).mono ?_
  rintro e w1 ⟨rfl, hb1⟩
  have h1 := h.below hb1
  obtain ⟨b, off, rfl, hbw, hcs⟩ := (U32.below hT hb1).cells (by omega)
  have hcell := hcs 0 (by omega)
  rw [HO.out, Nat.add_zero] at hcell
  clear hT k h hcs
  generalize cmpI N M = z at *
  go_wp2_with fail
  refine (divs_num h1 hn hM0 hM).mono ?_
  rintro e w2 ⟨v, rfl, ⟨A2, c2, rfl, hU, hf⟩, hb2⟩
  have hb3 := thru hb1 hb2
  have HU := Lib.hid hU
  have HF := Lib.hid hf
  clear hU hf h1 hb2 hcell
  go_wp2_with fail
  refine (norm_num (new_num (w := w2) [N % M] rfl (by simp [nums]) (fun x hx => by simp at hx; omega) (by simp)) (by simp; have := nl_le_of_lt (N := N % M) (k := 1) (by omega); omega)).mono ?_
  rintro e w3 ⟨v, rfl, ⟨A3, c3, rfl, hU3, hf3⟩, hb4⟩
  rw [show val 4294967296 [N % M] = N % M by simp] at hU3 ⊢
  have HU3 := Lib.hid hU3
  have HF3 := Lib.hid hf3
  have hb5 := thru (below1 _ _) hb4
  have HU4 := Lib.hid (HU.out.below hb5)
  clear hU3 hf3 hb4 HU
  go_wp2
  refine bodyPost_ret (v := .tuple #[.slice A2 (L (N / M)).length c2, .slice A3 (L (N % M)).length c3, .int .i64 0]) (by simp [results, Tryd.results147, go_sem]) rfl ?_
  refine ⟨_, _, rfl, ⟨_, _, rfl, HU4.out, fun a ha => Nat.le_trans hb1.size (HF.out a ha)⟩, ⟨_, _, rfl, HU3.out, fun a ha => Nat.le_trans (by have := hb3.size; simp; omega) (HF3.out a ha)⟩, thru hb3 hb5⟩
end Go.Proofs.YtegglooojlheoaaDoor

/- limb.DivMod by more than one limb. No condition. -/
namespace Go.Proofs.YtegglooojlheoaaDoor
open Go.RowKit Anv
theorem nl_len {w : World} {A : Option Addr} {n c N : Nat} (h : NumIn w A n c N) : nl N ≤ n := by
  obtain ⟨xs, hx, rfl⟩ := h
  have h1 := val_lt hx.lt
  rw [hx.len] at h1
  exact nl_le_of_lt h1
theorem start_low {U V m : Nat} (hU : m + 2 ≤ nl U) (hV : nl V = m + 2) : val 4294967296 ((L U ++ [0]).drop (nl U - (m + 1))) < V := by
  have h1 : (L U ++ [0]).drop (nl U - (m + 1)) = (L U).drop (nl U - (m + 1)) ++ [0] := by
    rw [List.drop_append_of_le_length (by show _ ≤ nl U; omega)]
  rw [h1, val_append, show val 4294967296 [0] = 0 from rfl, Nat.mul_zero, Nat.add_zero]
  have h2 := val_lt ((L_lt U).drop (nl U - (m + 1)))
  rw [drop_len, show nl U - (nl U - (m + 1)) = m + 1 by omega] at h2
  have h3 : 0 < V := by
    rcases Nat.eq_zero_or_pos V with h | h
    · subst h; rw [nl_zero] at hV; omega
    · exact h
  have h4 := pow_le_dig (b := 4294967296) (by omega) V h3
  rw [show (dig 4294967296 V).length = m + 2 from hV] at h4
  exact Nat.lt_of_lt_of_le h2 h4
theorem cut3 (us : List Nat) (k n : Nat) : us.take k ++ (us.drop k).take n ++ us.drop (k + n) = us := by
  rw [← List.drop_drop, List.append_assoc, List.take_append_drop, List.take_append_drop]
theorem dm_big {A B : Option Addr} {n c m d N M : Nat} {w : World} (h : NumIn w A n c N) (k : NumIn w B m d M) (hn : n ≤ 900000) (hle : ¬ N < M) (h2 : 2 ≤ nl M) :
    Calls Tryd.prog 147 #[.slice A n c, .slice B m d] w fun e w' => ∃ v u, e = .returned (.tuple #[v, u, .int .i64 0]) ∧ NumAt w.heap.size w' v (N / M) ∧ NumAt w.heap.size w' u (N % M) ∧ Below w.heap.size w w' := by
  have hc : ¬ cmpI N M < 0 := fun h => hle ((cmpI_neg N M).1 h)
  have hb := cmpI_bd N M
  have hM0 : 0 < M := by
    rcases Nat.eq_zero_or_pos M with h | h
    · subst h; rw [nl_zero] at h2; omega
    · exact h
  have hnN := nl_len h
  have hnM : nl M ≤ nl N := nl_mono (by omega)
  obtain ⟨p, hp⟩ : ∃ p, nl M = p + 2 := ⟨nl M - 2, by omega⟩
  have HP := Lib.hid hp
  have HB := Lib.hid (And.intro hM0 (And.intro hnN (And.intro hnM (show M ≤ N by omega))))
  have hpb : p ≤ 900000 := by omega
  clear hle h2 hM0 hnN hnM
  go_enter Tryd.func147, Tryd.ntmps147
  go_wp2_with fail
  refine (trim_num _ _ _ _ _ k).mono ?_
  rintro e w' ⟨rfl, hT, rfl⟩
  rw [hp] at hT ⊢
  clear hp
  go_wp2_with fail
  refine (cmp_num' h (U32.num hT)).mono ?_
  rintro e w1 ⟨rfl, hb1⟩
  replace h := h.below hb1
  have hT1 := hT.below hb1
  obtain ⟨b, off, rfl, hbw, hcs⟩ := hT1.cells (by omega)
  have hcell := hcs (p + 1) (by omega)
  have hx : (L M).getD (p + 1) 0 < 4294967296 := (L_lt M).get (by omega) _
  generalize (L M).getD (p + 1) 0 = x at hx hcell
  clear hT k hcs
  generalize cmpI N M = z at *
  go_wp2_with fail
  refine (lz32 (x : Int) _ (by omega) (by omega)).mono ?_
  rintro e w' ⟨rfl, rfl⟩
  have hbl := bitLen_le32 (x : Int) (by omega) (by omega)
  obtain ⟨s, hs, hs2⟩ : ∃ s : Nat, 32 - (Lib.bitLen (x : Int).toNat : Int) = s ∧ s ≤ 32 := ⟨32 - Lib.bitLen (x : Int).toNat, by omega, by omega⟩
  rw [hs]
  clear hs hbl hcell hx
  go_wp2_with fail
  refine (shl_full (s := s) (U32.num hT1) (by omega) (by omega)).mono ?_
  rintro e w2 ⟨gv, rfl, hgv, hUv, hb2⟩
  replace h := h.below hb2
  have hb3 := thru hb1 hb2
  clear hT1
  go_wp2_with fail
  refine (shl_full (s := s) h (by omega) (by omega)).mono ?_
  rintro e w3 ⟨gu, rfl, hgu, hUu, hb4⟩
  replace hUv := hUv.below hb4
  have hb5 := thru hb3 hb4
  have hgv2 : w.heap.size ≤ gv := Nat.le_trans hb1.size hgv
  have HE := Lib.hid (And.intro (Nat.mul_div_mul_right N M (Nat.two_pow_pos s)) (Nat.mul_mod_mul_right (2 ^ s) N M))
  have hVM : nl M ≤ nl (M * 2 ^ s) := nl_mono (Nat.le_mul_of_pos_right M (Nat.two_pow_pos s))
  have hUV : nl (M * 2 ^ s) ≤ nl (N * 2 ^ s) := nl_mono (Nat.mul_le_mul_right _ HB.out.2.2.2)
  have hUb : nl (N * 2 ^ s) ≤ 900003 := by
    have h1 := nl_mul N (2 ^ s)
    have h2 : nl (2 ^ s) ≤ 2 := nl_le_of_lt (Nat.lt_of_le_of_lt (Nat.pow_le_pow_right (by omega) hs2) (by decide))
    have := HB.out.2.1
    omega
  have HR1 := Lib.hid (show N % M * 2 ^ s / 2 ^ s = N % M from Nat.mul_div_cancel _ (Nat.two_pow_pos s))
  have HV0 := Lib.hid (show 0 < M * 2 ^ s from Nat.mul_pos HB.out.1 (Nat.two_pow_pos s))
  rw [HP.out] at hVM
  clear hgu hgv h
  generalize N * 2 ^ s = U at *
  generalize M * 2 ^ s = V at *
  obtain ⟨r, hr⟩ : ∃ r, nl V = r + 2 := ⟨nl V - 2, by omega⟩
  obtain ⟨t, ht⟩ : ∃ t, nl U = t + (r + 1) := ⟨nl U - (r + 1), by omega⟩
  have ht0 : 0 < t := by omega
  have hrt : t + r ≤ 900003 := by omega
  have HVL := Lib.hid hr
  have HUL := Lib.hid ht
  have HST := Lib.hid (show val 4294967296 ((L U ++ [0]).drop t) < V by
    have := start_low (U := U) (V := V) (m := r) (by omega) hr
    rwa [ht, Nat.add_sub_cancel] at this)
  rw [hr] at hUv ⊢
  rw [ht] at hUu ⊢
  clear hVM hUV hUb hr ht
  have hgv3 : gv < w3.heap.size := by
    obtain ⟨gv', offv, ev, hgv3, _⟩ := hUv.cells (by omega)
    cases ev
    exact hgv3
  have HUv := Lib.hid hUv
  clear hUv
  have HLN := Lib.hid (show (L U ++ [0]).length = t + (r + 1) + 1 by rw [List.length_append]; show nl U + 1 = _; rw [HUL.out])
  go_wp2_with (first | (at_builtin; refine wpList_append_full w3 rfl (.tmp 66) (.tmp 67) 23 rfl 141 4 Tryd.underlying23 info_u32 gu _ (L U) hUu 1 _ [0] (by simp [nums]) rfl (by omega) rfl rfl (by simp only [maxLen]; omega) (by omega) ?_; intro v1 w4 hO1 hB1 hs1; obtain ⟨g, cu, hv1, hcu1, hcu2, hgu, hLu⟩ := hO1.lst (by simp); rw [HLN.out] at hv1 hcu1; subst hv1; clear hO1) | (at_make; refine wpList_make_nums _ rfl _ _ 23 rfl 141 .u32 4 Tryd.underlying23 info_u32 _ _ _ _ t rfl rfl (by omega) (by omega) (by omega) (by omega) ?_; intro w5 hA5 hB5 hz5))
  have hgw : g < w4.heap.size := hLu.lt
  have hb6 := thru hb5 hB1
  have HBE := Lib.hid (thru hb6 hB5)
  have HUV5 := Lib.hid ((HUv.out.below hB1).below hB5)
  have HL5 := Lib.hid (hLu.below hB5 hgw)
  have HA5 := Lib.hid hA5
  have hgg : g ≠ gv := by omega
  have hgq : g ≠ w4.heap.size := by omega
  have hwg : w.heap.size ≤ g := by have := hb5.size; omega
  have hws : w.heap.size ≤ w4.heap.size := hb6.size
  clear hLu hA5 hB5 hz5 hB1 hb6 hs1 hUu HUv
  unfold maxLen at hcu2
  go_loopw [17] (fun s17 wr => ∃ (kk : Nat) (us qs : List Nat), kk ≤ t ∧ s17 = .int .i64 ((kk : Int) - 1) ∧
      Hid (us.length = t + (r + 1) + 1 ∧ AllLt 4294967296 us ∧ qs.length = t ∧ AllLt 4294967296 qs ∧ val 4294967296 (us.drop kk) < V ∧ val 4294967296 us + V * 4294967296 ^ kk * val 4294967296 (qs.drop kk) = U) ∧
      Hid (Lst wr g us) ∧ Hid (Arr .u32 141 wr w4.heap.size qs) ∧ Hid (U32 wr (some ⟨gv, 0, none⟩) (r + 2) (r + 2) (L V)) ∧ Hid (Below w.heap.size w wr)) (fun s17 _ => (intOf s17 + 1).toNat)
  case atStart => exact ⟨t, L U ++ [0], _, Nat.le_refl _, int_eq (by omega), ⟨HLN.out, (L_lt U).append (AllLt.cons (by omega) (AllLt.nil _)), by simp, AllLt.zeros (by omega) _, HST.out, by rw [drop_all (xs := List.replicate t 0) (by simp), val_append, val_L]; simp⟩, HL5.out, HA5.out, HUV5.out, HBE.out⟩
  case round =>
    clear HL5 HA5 HUV5 HBE HST
    obtain ⟨kk, us, qs, hk, rfl, HI, HR, HA, HUV, HW⟩ := hrel
    rcases kk with _ | k
    · have h3 := HI.out
      have h4 := h3.2.2.2.2.2
      have h5 := h3.2.2.2.2.1
      rw [List.drop_zero] at h4 h5
      rw [Nat.pow_zero, Nat.mul_one] at h4
      have h6 := dm_unique h4 h5
      rw [HE.out.1, HE.out.2] at h6
      have hu := HR.out.whole h3.1 hcu1 (by unfold maxLen; exact hcu2) h3.2.1
      have hr1 : NumIn wr (some ⟨g, 0, none⟩) (t + (r + 1) + 1) cu (N % M * 2 ^ s) := ⟨us, hu, h6.2.symm⟩
      have hq1 : NumIn wr (some ⟨w4.heap.size, 0, none⟩) t t (N / M) := ⟨qs, HA.out.u32 h3.2.2.2.1 h3.2.2.1 (by simp only [maxLen]; omega), h6.1.symm⟩
      have HQ1 := Lib.hid hq1
      have hlen : nl (N % M * 2 ^ s) ≤ 1000000 := by have := nl_len hr1; omega
      clear h3 h4 h5 h6 hu hq1 HI HR HA HUV
      go_wp2_with fail
      refine (shr_num (s := s) hr1 hlen (by omega)).mono ?_
      rintro e w6 ⟨v, rfl, ⟨A6, c6, rfl, hU6, hf6⟩, hb6⟩
      rw [HR1.out] at hU6 ⊢
      have hq2 := HQ1.out.below hb6
      have HW6 := Lib.hid (thru HW.out hb6)
      have HU6 := Lib.hid hU6
      have HF6 := Lib.hid (fun a ha => Nat.le_trans HW.out.size (hf6 a ha))
      clear hU6 hf6 hb6 hr1
      go_wp2_with fail
      refine (trim_num _ _ _ _ _ hq2).mono ?_
      rintro e w7 ⟨rfl, hT7, rfl⟩
      have HT7 := Lib.hid hT7
      clear hT7 hq2
      go_wp2
      refine bodyPost_ret (v := .tuple #[.slice (some ⟨w4.heap.size, 0, none⟩) (nl (N / M)) (nl (N / M)), .slice A6 (L (N % M)).length c6, .int .i64 0]) (by simp [results, Tryd.results147, go_sem]) rfl ?_
      exact ⟨_, _, rfl, ⟨_, _, rfl, HT7.out, fun a ha => by cases ha; exact hws⟩, ⟨_, _, rfl, HU6.out, HF6.out⟩, HW6.out⟩
    · rw [show (((k + 1 : Nat) : Int) - 1) = (k : Int) from by omega]
      have hk0 : (0 : Int) ≤ (k : Int) := by omega
      have h3 := HI.out
      have ec := cut3 us k (r + 3)
      have hpl : (us.take k).length = k := by rw [List.length_take]; omega
      have hwl : ((us.drop k).take (r + 3)).length = r + 3 := by rw [List.length_take, List.length_drop]; omega
      have hwa : AllLt 4294967296 ((us.drop k).take (r + 3)) := (h3.2.1.drop k).take _
      have hlo := h3.2.2.2.2.1
      rw [← ec] at hlo
      have hVb : V < 4294967296 ^ (r + 2) := by have := lt_nl V; rwa [HVL.out] at this
      have hwin := quo_win (by omega) hpl hwl hwa hVb hlo
      have hq0 : (L V).getD (r + 1) 0 ≠ 0 := top_ne (dig_norm (by omega) V) HVL.out
      have hst := fun win' h => quo_step (b := 4294967296) (V := V) (win := (us.drop k).take (r + 3)) (win' := win') (U := U) hpl HV0.out hwin.1 (by rw [h3.2.2.1]; omega) (by rw [ec]; exact h3.2.2.2.2.2) h
      have HS := Lib.hid hst
      have hLc : Lst wr g (us.take k ++ (us.drop k).take (r + 3) ++ us.drop (k + (r + 3))) := by rw [ec]; exact HR.out
      have hD := digit_win (c := cu - k) (d := r + 2) (A := some ⟨gv, 0, none⟩) (vs := L V) hLc hpl hwl (by omega) (by unfold maxLen; omega) hwa HUV.out (fun a ha => by cases ha; exact fun h => hgg h.symm) (by omega) (by rw [val_L]; exact hwin.2)
      rw [val_L] at hD
      have HD := Lib.hid hD
      have hco := HA.out.cell k (by rw [h3.2.2.1]; omega)
      have HPL := Lib.hid (And.intro hpl (And.intro hwl (And.intro hwa (Nat.div_lt_iff_lt_mul HV0.out |>.2 hwin.2))))
      clear h3 ec hpl hwl hwa hlo hVb hwin hq0 hst hLc hD
      go_wp2_with fail
      rw [show k + (r + 2) + 1 - k = r + 3 from by omega]
      refine HD.out.mono ?_
      rintro e w6 ⟨os, rfl, hol, hoa, hov, hL6, hE6⟩
      have hA6 := hE6.arr HA.out (fun h => hgq h.symm)
      have hUV6 := hE6.u32 HUV.out (fun a ha => by cases ha; exact fun h => hgg h.symm)
      have hW6 := hE6.below HW.out hwg HW.out.size
      have hcq := hA6.cell k (by have := HI.out.2.2.1; omega)
      have hfq := hA6.frozen k
      have HA6 := Lib.hid hA6
      have HUV6 := Lib.hid hUV6
      have HW6 := Lib.hid hW6
      have HL6 := Lib.hid hL6
      have HO6 := Lib.hid (And.intro hol (And.intro hoa hov))
      have hdl := HPL.out.2.2.2
      clear hol hoa hov hL6 hE6 hA6 hUV6 hW6 hco HD
      generalize val 4294967296 ((us.drop k).take (r + 3)) / V = q at *
      go_wp2
      go_roundw
      case rel =>
        have h3 := HI.out
        have h4 := HS.out os HO6.out.2.2
        refine ⟨k, us.take k ++ os ++ us.drop (k + (r + 3)), qs.set k q, by omega, rfl, ⟨?_, ?_, by rw [List.length_set]; exact h3.2.2.1, h3.2.2.2.1.set k hdl, h4.1, h4.2⟩, HL6.out.keep (Below.heap_setCell _ _ _ _ (by exact hgq)), HA6.out.set k q, ?_, HW6.out.setCell hws _⟩
        · rw [List.length_append, List.length_append, HPL.out.1, HO6.out.1, List.length_drop, h3.1]; omega
        · exact ((h3.2.1.take k).append HO6.out.2.1).append (h3.2.1.drop _)
        · exact HUV6.out.far (by show gv ≠ w4.heap.size; omega) _
      case measure => simp [intOf]
theorem dm_num {A B : Option Addr} {n c m d N M : Nat} {w : World} (h : NumIn w A n c N) (k : NumIn w B m d M) (hn : n ≤ 900000) (hM : M ≠ 0) :
    Calls Tryd.prog 147 #[.slice A n c, .slice B m d] w fun e w' => ∃ v u, e = .returned (.tuple #[v, u, .int .i64 0]) ∧ NumAt w.heap.size w' v (N / M) ∧ NumAt w.heap.size w' u (N % M) ∧ Below w.heap.size w w' := by
  by_cases hlt : N < M
  · exact dm_less h k (by have := nl_len h; omega) hlt
  · have := nl_pos (N := M) (by omega)
    by_cases h1 : nl M = 1
    · exact dm_one h k (by omega) hlt h1
    · exact dm_big h k hn hlt (by omega)
end Go.Proofs.YtegglooojlheoaaDoor

/- integer.DivMod. No condition. -/
namespace Go.Proofs.YtegglooojlheoaaDoor
open Go.RowKit Anv
theorem below4 (w : World) (o o' o'' o3 : Obj) : Below w.heap.size w ((((w.alloc o).alloc o').alloc o'').alloc o3) := (below3 w o o' o'').alloc (by simp; omega) _
theorem boxes4 {t t' t'' t3 : TypeId} {w w1 : World} {a0 a1 b0 b1 z0 z1 y0 y1 : Value}
    (hb : Below ((((w.alloc (.cells #[a0, a1] t)).alloc (.cells #[b0, b1] t')).alloc (.cells #[z0, z1] t'')).alloc (.cells #[y0, y1] t3)).heap.size ((((w.alloc (.cells #[a0, a1] t)).alloc (.cells #[b0, b1] t')).alloc (.cells #[z0, z1] t'')).alloc (.cells #[y0, y1] t3)) w1) :
    Box2 t w1 w.heap.size a0 a1 ∧ Box2 t' w1 (w.heap.size + 1) b0 b1 ∧ Box2 t'' w1 (w.heap.size + 1 + 1) z0 z1 ∧ Box2 t3 w1 (w.heap.size + 1 + 1 + 1) y0 y1 ∧ Below w.heap.size w w1 := by
  have h := boxes3 (w := w) (t := t) (t' := t') (t'' := t'') (a0 := a0) (a1 := a1) (b0 := b0) (b1 := b1) (z0 := z0) (z1 := z1) (Below.refl _ _)
  have e3 := size3 w (.cells #[a0, a1] t) (.cells #[b0, b1] t') (.cells #[z0, z1] t'')
  have h4 := Box2.new (((w.alloc (.cells #[a0, a1] t)).alloc (.cells #[b0, b1] t')).alloc (.cells #[z0, z1] t'')) t3 y0 y1
  rw [e3] at h4
  have h0 := h.1.alloc (.cells #[y0, y1] t3)
  have h1 := h.2.1.alloc (.cells #[y0, y1] t3)
  have h2 := h.2.2.1.alloc (.cells #[y0, y1] t3)
  exact ⟨h0.below hb h0.lt, h1.below hb h1.lt, h2.below hb h2.lt, h4.below hb h4.lt, thru (below4 _ _ _ _ _) hb⟩
theorem keep_alloc {w : World} {p : Addr} {v : Value} (h : w.cell? p = some v) (o : Obj) : (w.alloc o).cell? p = some v := (World.cell?_alloc_lt w o p (World.block_lt_of_cell? w p h)).trans h
theorem keep_drew {w : World} {p : Addr} {v : Value} (h : w.cell? p = some v) : w.drew.cell? p = some v := h
theorem keep_set {w : World} {p q : Addr} {v : Value} (h : w.cell? p = some v) (hne : p.block ≠ q.block) (u : Value) : (w.setCell q u).cell? p = some v :=
  (World.cell?_of_block (Below.heap_setCell w q u p.block hne)).trans h
theorem made_x (b : Bool) (A : Option Addr) (n c : Nat) (w : World) :
    Calls Tryd.prog 95 #[.bool b, .slice A n c] w fun e w' => e = .returned (.agg #[.bool (b && decide (0 < n)), .slice A n c]) ∧ ∃ o, w' = w.alloc o := by
  cases b
  all_goals
    go_enter Tryd.func95, Tryd.ntmps95
    go_wp2
  · exact bodyPost_ret (v := .agg #[.bool (false && decide (0 < n)), .slice A n c]) (by simp [results, Tryd.results95, go_sem]) rfl ⟨rfl, _, rfl⟩
  · exact bodyPost_ret (v := .agg #[.bool (true && decide (0 < n)), .slice A n c]) (by simp [results, Tryd.results95, go_sem]) rfl ⟨rfl, _, rfl⟩
section
variable (w : World) (o o' o'' : Obj) (t : TypeId) (a b : Value)
theorem quad0 : Box2 t ((((w.alloc (.cells #[a, b] t)).alloc o).alloc o').alloc o'').drew w.heap.size a b := (((Box2.new w t a b).alloc o).alloc o').alloc o''
theorem quad1 : Box2 t ((((w.alloc o).alloc (.cells #[a, b] t)).alloc o').alloc o'').drew (w.heap.size + 1) a b := by
  have h := ((Box2.new (w.alloc o) t a b).alloc o').alloc o''
  rw [show (w.alloc o).heap.size = w.heap.size + 1 by simp] at h
  exact h
theorem quad2 : Box2 t ((((w.alloc o).alloc o').alloc (.cells #[a, b] t)).alloc o'').drew (w.heap.size + 1 + 1) a b := by
  have h := (Box2.new ((w.alloc o).alloc o') t a b).alloc o''
  rw [show ((w.alloc o).alloc o').heap.size = w.heap.size + 1 + 1 by simp] at h
  exact h
theorem quad3 : Box2 t ((((w.alloc o).alloc o').alloc o'').alloc (.cells #[a, b] t)).drew (w.heap.size + 1 + 1 + 1) a b := by
  have h := Box2.new (((w.alloc o).alloc o').alloc o'') t a b
  rw [size3] at h
  exact h
end
theorem U32.put3 {w : World} {A S : Option Addr} {n c g m k : Nat} {b : Bool} {t : TypeId} {xs : List Nat} (h : U32 w A n c xs) (q : Box2 t w g (.bool b) (.slice S m k)) (u u' : Value) :
    U32 ((w.setCell ⟨g, 0, none⟩ u).setCell ⟨g, 1, none⟩ u') A n c xs :=
  (h.store (p := ⟨g, 0, none⟩) (by rw [q.c0]; intro x hx; cases hx) u).store (p := ⟨g, 1, none⟩) (by rw [World.cell?_setCell_other _ _ _ _ (by simp)]; rw [q.c1]; intro x hx; cases hx) u'
theorem U32.store4 {w : World} {A : Option Addr} {n c : Nat} {xs : List Nat} (h : U32 w A n c xs) {t t' : TypeId} {g g' : Nat} (k : Box2 t w g (.bool false) (.slice none 0 0)) (k' : Box2 t' w g' (.bool false) (.slice none 0 0)) (hne : g' ≠ g) (u0 u1 v0 v1 : Value) :
    U32 ((((w.setCell ⟨g, 0, none⟩ u0).setCell ⟨g, 1, none⟩ u1).setCell ⟨g', 0, none⟩ v0).setCell ⟨g', 1, none⟩ v1).drew A n c xs :=
  U32.below ((h.store2 k.c0 k.c1 u0 u1).store2 (k'.far2 hne u0 u1).c0 (k'.far2 hne u0 u1).c1 v0 v1) (Below.refl _ _).drew
theorem zat_of {w : World} {A : Option Addr} {c N : Nat} (b : Bool) (h : U32 w A (L N).length c (L N)) : ZIn w A c (sg b N) := by
  unfold ZIn; rw [sg_zl, sg_abs]; exact h
theorem bool_of (b : Bool) (N : Nat) : (b && decide (0 < (L N).length)) = neg (sg b N) := by
  rw [sg_neg, ← nl_dpos N]; rfl
theorem len_of (b : Bool) (N : Nat) : (L N).length = zl (sg b N) := by rw [sg_zl]; rfl
set_option maxHeartbeats 4000000 in
theorem divmod_z {A B : Option Addr} {c d : Nat} {x y : Int} {w : World} (hx : ZIn w A c x) (hy : ZIn w B d y) (hn : zl x ≤ 100000) (hm : zl y ≤ 100000) (hy0 : y ≠ 0) :
    Calls Tryd.prog 117 #[.agg #[.bool (neg x), .slice A (zl x) c], .agg #[.bool (neg y), .slice B (zl y) d]] w fun e w' => ∃ v u, e = .returned (.tuple #[v, u, .int .i64 0]) ∧ ZAt w' v (x / y) ∧ ZAt w' u (x % y) ∧ Below w.heap.size w w' := by
  go_enter Tryd.func117, Tryd.ntmps117
  have HY0 := Lib.hid hy0
  clear hy0
  go_wp2_with fail
  refine (dm_num (NumIn.below (ZIn.num hx) (by exact below4 _ _ _ _ _)) (NumIn.below (ZIn.num hy) (by exact below4 _ _ _ _ _)) (by omega) (by have := HY0.out; omega)).mono ?_
  rintro e w1 ⟨v, u, rfl, ⟨A1, c1, rfl, hU1, hf1⟩, ⟨A2, c2, rfl, hU2, hf2⟩, hb⟩
  obtain ⟨q0, q1, q2, q3, hbw⟩ := boxes4 hb
  have hy1 := hy.below hbw
  clear hb hf1 hf2 hx hy
  have HU1 := Lib.hid hU1
  have HU2 := Lib.hid hU2
  have HY1 := Lib.hid hy1
  have HBW := Lib.hid hbw
  have Q1 := Lib.hid q1
  have Q2 := Lib.hid q2
  have Q3 := Lib.hid q3
  have a0 := q0.c0
  have a1 := q1.c0
  have hs := q3.lt
  clear hU1 hU2 hy1 hbw q1 q2 q3 q0
  generalize hbx : neg x = bx at *
  generalize hby : neg y = bY at *
  have HBX := Lib.hid (And.intro hbx hby)
  clear hbx hby
  go_upto_region 4 with fail
  go_cut [10, 11] (fun s10 s11 wx => ∃ g10 g11 : Nat, s10 = .pointer (some ⟨g10, 0, none⟩) ∧ s11 = .pointer (some ⟨g11, 0, none⟩) ∧
    Box2 36 wx g10 (.bool (!bx == bY && decide (0 < (L (x.natAbs / y.natAbs)).length))) (.slice A1 (L (x.natAbs / y.natAbs)).length c1) ∧ Box2 36 wx g11 (.bool (bx && decide (0 < (L (x.natAbs % y.natAbs)).length))) (.slice A2 (L (x.natAbs % y.natAbs)).length c2) ∧
    g10 ≠ g11 ∧ w1.heap.size ≤ g10 ∧ w1.heap.size ≤ g11 ∧ Below w1.heap.size w1 wx)
  case first =>
    go_region_held3 (fun w' => w'.cell? ⟨w.heap.size, 0, none⟩ = some (.bool bx) ∧ w'.cell? ⟨w.heap.size + 1, 0, none⟩ = some (.bool bY)) (refine ⟨?_, ?_⟩ <;> repeat (first | exact a0 | exact a1 | apply keep_drew | apply keep_alloc | (refine keep_set ?_ (by simp; omega) _))) (first | (go_at_call 95; (with_reducible refine (made_x _ _ _ _ _).mono ?_); rintro e wn ⟨rfl, o, rfl⟩))
    all_goals (go_wp2_with fail)
    all_goals go_meet
    all_goals refine ⟨_, _, rfl, rfl, ?_, ?_, by omega, by omega, by omega, (below4 w1 _ _ _ _).drew⟩
    all_goals first
      | with_reducible exact quad0 w1 _ _ _ _ _ _
      | with_reducible exact quad1 w1 _ _ _ _ _ _
      | with_reducible exact quad2 w1 _ _ _ _ _ _
      | with_reducible exact quad3 w1 _ _ _ _ _ _
  case rest =>
    obtain ⟨g10, g11, rfl, rfl, k10, k11, hgg, hg0, hg1, hbc⟩ := hcut
    rw [bool_of, len_of (!bx == bY)] at k10
    rw [bool_of, len_of bx] at k11
    have k1 := Q1.out.below hbc Q1.out.lt
    have k2 := Q2.out.below hbc Q2.out.lt
    have k3 := Q3.out.below hbc Q3.out.lt
    have hy1 := HY1.out.below hbc
    have zn := zat_of (!bx == bY) (U32.below HU1.out hbc)
    have zm := zat_of bx (U32.below HU2.out hbc)
    have bw := thru HBW.out hbc
    clear HU1 HU2 HY1 HBW Q1 Q2 Q3 a0 a1 hbc
    rw [← HBX.out.1, ← HBX.out.2] at *
    have hzn : zl (sg (!neg x == neg y) (x.natAbs / y.natAbs)) ≤ 100000 := by rw [sg_zl]; exact Nat.le_trans (nl_mono (Nat.div_le_self _ _)) hn
    have hzm : zl (sg (neg x) (x.natAbs % y.natAbs)) ≤ 100000 := by rw [sg_zl]; exact Nat.le_trans (nl_mono (Nat.le_of_lt (Nat.mod_lt _ (by have := HY0.out; omega)))) hm
    have HP := Lib.hid (fun h => ed_plain (x := x) (y := y) HY0.out h)
    have HT := Lib.hid (fun h => ed_turned (x := x) (y := y) HY0.out h)
    generalize sg (!neg x == neg y) (x.natAbs / y.natAbs) = n at *
    generalize sg (neg x) (x.natAbs % y.natAbs) = m at *
    have e0 := k11.c0
    go_upto_if 37 with fail
    go_cut [10] (fun s10 wx => s10 = .pointer (some ⟨g10, 0, none⟩) ∧ ∃ (A3 : Option Addr) (c3 : Nat) (A4 : Option Addr) (c4 : Nat), Box2 36 wx g10 (.bool (neg (x / y))) (.slice A3 (zl (x / y)) c3) ∧ Box2 36 wx g11 (.bool (neg (x % y))) (.slice A4 (zl (x % y)) c4) ∧ ZIn wx A3 c3 (x / y) ∧ ZIn wx A4 c4 (x % y) ∧
      Box2 36 wx (w.heap.size + 1 + 1) (.bool false) (.slice none 0 0) ∧ Box2 36 wx (w.heap.size + 1 + 1 + 1) (.bool false) (.slice none 0 0) ∧ Below w.heap.size w wx)
    case first =>
      cases hneg : neg m
      · have HE := HP.out hneg
        go_wp2_with fail
        go_meet
        case rel => exact ⟨rfl, A1, c1, A2, c2, by rw [HE.1]; exact k10, by rw [HE.2]; exact k11, by rw [HE.1]; exact zn, by rw [HE.2]; exact zm, k2, k3, bw⟩
      · have HE := Lib.hid (HT.out hneg)
        clear HP HT
        clear e0
        have HM := Lib.hid hneg
        clear hneg
        have fy := y.natAbs
        clear fy
        have hxy : zl (y.natAbs : Int) ≤ 100000 := by rw [zl_abs]; exact hm
        have hys := sign_bd y
        have hzs : zl y.sign ≤ 100000 := by have := zl_small (n := y.sign) (by omega) (by omega); omega
        go_upto_region 6 with fail
        go_cut [10] (fun s10 wx => s10 = .pointer (some ⟨g10, 0, none⟩) ∧ ∃ (A4 : Option Addr) (c4 : Nat), Box2 36 wx g11 (.bool (neg (m + y.natAbs))) (.slice A4 (zl (m + y.natAbs)) c4) ∧ ZIn wx A4 c4 (m + y.natAbs) ∧ Box2 36 wx g10 (.bool (neg n)) (.slice A1 (zl n) c1) ∧ ZIn wx A1 c1 n ∧
          Box2 36 wx (w.heap.size + 1) (.bool (neg y)) (.slice B (zl y) d) ∧ Box2 36 wx (w.heap.size + 1 + 1) (.bool false) (.slice none 0 0) ∧ Box2 36 wx (w.heap.size + 1 + 1 + 1) (.bool false) (.slice none 0 0) ∧ Below w.heap.size w wx)
        case first =>
          have a0 := k11.c0
          have a1 := k11.c1
          have b0 := k1.c0
          have b1 := k1.c1
          have K := Lib.hid (And.intro k11 (And.intro k10 (And.intro k1 (And.intro k2 (And.intro k3 bw)))))
          have ZZ := Lib.hid (And.intro (hy1.below (Below.refl wc.heap.size wc).drew) (And.intro (zm.below (Below.refl wc.heap.size wc).drew) (zn.below (Below.refl wc.heap.size wc).drew)))
          clear k11 k10 k1 k2 k3 bw zm zn hy1
          go_region_with (first | (go_at_call 86; (with_reducible refine (abs_z ZZ.out.1).mono ?_); rintro e w2 ⟨v, rfl, ⟨A5, c5, rfl, z5⟩, hb2⟩; have hbA : Below wc.heap.size wc w2 := undrew hb2; have r11 := K.out.1.below hbA K.out.1.lt; have zm2 := ZZ.out.2.1.below hb2; have ra0 := r11.c0; have ra1 := r11.c1) | (go_at_call 85; (with_reducible refine (add_z zm2 z5 (by omega) (by omega)).mono ?_); rintro e w3 ⟨v, rfl, ⟨A6, c6, rfl, z6⟩, hb3⟩; have hb4 := thru hbA hb3; have s11 := r11.below hb3 r11.lt; have s10 := K.out.2.1.below hb4 K.out.2.1.lt; have s1 := K.out.2.2.1.below hb4 K.out.2.2.1.lt; have s2 := K.out.2.2.2.1.below hb4 K.out.2.2.2.1.lt; have s3 := K.out.2.2.2.2.1.below hb4 K.out.2.2.2.2.1.lt; have sb := thru K.out.2.2.2.2.2 hb4; have sn := (ZZ.out.2.2.below hb2).below hb3; have d0 := s11.c0; have d1 := s11.c1; have d2 := s11.f 0; have d3 := s11.f 1))
          all_goals (go_wp2_with fail)
          all_goals go_meet
          all_goals exact ⟨rfl, A6, c6, s11.put _ _, U32.put3 z6 s11 _ _, s10.far2 hgg _ _, U32.put3 sn s11 _ _, s1.far2 (by omega) _ _, s2.far2 (by omega) _ _, s3.far2 (by omega) _ _, below_store2 sb (by omega) _ _⟩
        case rest =>
          clear k11 zm k10 zn k1 k2 k3 bw hy1
          obtain ⟨rfl, A4, c4, k11, zm, k10, zn, k1, k2, k3, bw⟩ := hcut
          have a0 := k10.c0
          have a1 := k10.c1
          have b0 := k1.c0
          have b1 := k1.c1
          have K := Lib.hid (And.intro k11 (And.intro k10 (And.intro k2 (And.intro k3 bw))))
          have ZZ := Lib.hid (And.intro (zn.below (Below.refl wc.heap.size wc).drew) (zm.below (Below.refl wc.heap.size wc).drew))
          clear k11 k10 k1 k2 k3 bw zm zn
          go_upto_region 7 with fail
          go_region_with (first | (go_at_call 31; (with_reducible refine (sign_z (z := y)).mono ?_); rintro e w2 ⟨rfl, hb2⟩; have hbA : Below wc.heap.size wc w2 := undrew hb2; have r10 := K.out.2.1.below hbA K.out.2.1.lt; have ra0 := r10.c0; have ra1 := r10.c1) | (go_at_call 43; (with_reducible refine (of_z (n := y.sign) (by omega) (by omega)).mono ?_); rintro e w3 ⟨v, rfl, ⟨A5, c5, rfl, z5⟩, hb3⟩; have hbB := thru hbA hb3; have t10 := r10.below hb3 r10.lt; have rb0 := t10.c0; have rb1 := t10.c1; have zn2 := (ZZ.out.1.below hb2).below hb3) | (go_at_call 99; (with_reducible refine (sub_z zn2 z5 (by omega) (by omega)).mono ?_); rintro e w4 ⟨v, rfl, ⟨A6, c6, rfl, z6⟩, hb4⟩; have hb5 := thru hbB hb4; have s10 := t10.below hb4 t10.lt; have s11 := K.out.1.below hb5 K.out.1.lt; have s2 := K.out.2.2.1.below hb5 K.out.2.2.1.lt; have s3 := K.out.2.2.2.1.below hb5 K.out.2.2.2.1.lt; have sb := thru K.out.2.2.2.2 hb5; have sm := ((ZZ.out.2.below hb2).below hb3).below hb4; have d0 := s10.c0; have d1 := s10.c1; have d2 := s10.f 0; have d3 := s10.f 1))
          all_goals (go_wp2_with fail)
          all_goals go_meet
          all_goals exact ⟨rfl, A6, c6, A4, c4, by rw [HE.out.1]; exact s10.put _ _, by rw [HE.out.2]; exact s11.far2 hgg.symm _ _, by rw [HE.out.1]; exact U32.put3 z6 s10 _ _, by rw [HE.out.2]; exact U32.put3 sm s10 _ _, s2.far2 (by omega) _ _, s3.far2 (by omega) _ _, below_store2 sb (by omega) _ _⟩
    case rest =>
      clear k11 zm k10 zn k1 k2 k3 bw hy1 HP HT e0
      obtain ⟨rfl, A3, c3, A4, c4, k10, k11, zn, zm, k2, k3, bw⟩ := hcut
      have a0 := k10.c0
      have a1 := k10.c1
      have b0 := k11.c0
      have b1 := k11.c1
      have d0 := k2.c0
      have d1 := k2.c1
      have d2 := k2.f 0
      have d3 := k2.f 1
      have f0 := k3.c0
      have f1 := k3.c1
      have f2 := k3.f 0
      have f3 := k3.f 1
      have K := Lib.hid (And.intro k10 (And.intro k11 (And.intro k2 (And.intro k3 bw))))
      have ZZ := Lib.hid (And.intro zn zm)
      clear k10 k11 k2 k3 bw zn zm
      go_upto_region 8 with fail
      go_region
      all_goals (go_wp2_with fail)
      have k2 := K.out.2.2.1
      have k3 := K.out.2.2.2.1
      exact bodyPost_ret (v := .tuple #[.agg #[.bool (neg (x / y)), .slice A3 (zl (x / y)) c3], .agg #[.bool (neg (x % y)), .slice A4 (zl (x % y)) c4], .int .i64 0]) (by simp [results, Tryd.results117, go_sem, d0, d1, f0, f1]) rfl
        ⟨_, _, rfl, ⟨_, _, rfl, U32.store4 ZZ.out.1 k2 k3 (by omega) _ _ _ _⟩, ⟨_, _, rfl, U32.store4 ZZ.out.2 k2 k3 (by omega) _ _ _ _⟩, (below_store2 (below_store2 K.out.2.2.2.2 (by omega) _ _) (by omega) _ _).drew⟩
end Go.Proofs.YtegglooojlheoaaDoor
