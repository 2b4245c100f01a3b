/- limb.DivMod. No condition. -/
import Derived.Test.YtnldopjbiacbfaaDoorM18
import Derived.Test.YtnldopjbiacbfaaDoorM7
import Derived.Test.YtnldopjbiacbfaaDoorM8
import Derived.Test.YtnldopjbiacbfaaDoorM19
import Derived.Test.YtnldopjbiacbfaaDoorM20
import Derived.Test.YtnldopjbiacbfaaDoorM16

namespace Go.Proofs.YtnldopjbiacbfaaDoor
open Go.RowKit Anv

theorem dm_zero {A B : Option Addr} {n c m d : Nat} {w : World} (h : NumIn w B m d 0) :
    Calls Tryd.prog 33 #[.slice A n c, .slice B m d] w fun e w' => e = .returned (.tuple #[.slice none 0 0, .slice none 0 0, .int .i64 2]) ∧ Below w.heap.size w w' := by
  have h0 : nl 0 = 0 := nl_zero
  go_enter Tryd.func33, Tryd.ntmps33
  go_wp2_with fail
  refine (trim_num _ _ _ _ _ h).mono ?_
  rintro e w' ⟨rfl, hT, rfl⟩
  rw [h0]
  clear hT h
  go_wp2
  refine bodyPost_ret (v := .tuple #[.slice none 0 0, .slice none 0 0, .int .i64 2]) (by simp [results, Tryd.results33, go_sem]) rfl ⟨rfl, Below.refl _ _⟩

theorem nil_num (B : Nat) (w : World) : NumAt B w (.slice none 0 0) 0 :=
  ⟨none, 0, by rw [L_zero]; rfl, by rw [L_zero]; exact ⟨rfl, Nat.le_refl _, by simp [maxLen], AllLt.nil _, fun hp => by simp at hp⟩, fun a ha => by cases ha⟩

theorem dm_less {A B : Option Addr} {n c m d N M : Nat} {w : World} (h : NumIn w A n c N) (k : NumIn w B m d M) (hN : nl N ≤ 1000000) (hlt : N < M) :
    Calls Tryd.prog 33 #[.slice A n c, .slice B m d] w fun e w' => ∃ v u, e = .returned (.tuple #[v, u, .int .i64 0]) ∧ NumAt w.heap.size w' v (N / M) ∧ NumAt w.heap.size w' u (N % M) ∧ Below w.heap.size w w' := by
  have h0 : 0 < nl M := nl_pos (by omega)
  have hc := (cmpI_neg N M).2 hlt
  have hb := cmpI_bd N M
  have HE := Lib.hid (And.intro (Nat.div_eq_of_lt hlt) (Nat.mod_eq_of_lt hlt))
  clear hlt
  go_enter Tryd.func33, Tryd.ntmps33
  go_wp2_with fail
  refine (trim_num _ _ _ _ _ k).mono ?_
  rintro e w' ⟨rfl, hT, rfl⟩
  go_wp2_with fail
  refine (cmp_num' h (U32.num hT)).mono ?_
  rintro e w1 ⟨rfl, hb1⟩
  have h1 := h.below hb1
  clear hT k h
  generalize cmpI N M = z at *
  go_wp2_with fail
  refine (norm_num h1 hN).mono ?_
  rintro e w2 ⟨v, rfl, ⟨A2, c2, rfl, hU, hf⟩, hb2⟩
  have HU := Lib.hid hU
  have HF := Lib.hid hf
  clear hU hf h1
  go_wp2
  refine bodyPost_ret (v := .tuple #[.slice none 0 0, .slice A2 (L N).length c2, .int .i64 0]) (by simp [results, Tryd.results33, go_sem]) rfl ?_
  refine ⟨_, _, rfl, ?_, ?_, thru hb1 hb2⟩
  · rw [HE.out.1]; exact nil_num _ _
  · rw [HE.out.2]; exact ⟨_, _, rfl, HU.out, fun a ha => Nat.le_trans hb1.size (HF.out a ha)⟩

theorem one_limb {M : Nat} (h : nl M = 1) : (L M).getD 0 0 = M ∧ M < 4294967296 := by
  have h1 := val_L M
  have h2 := L_lt M
  have h3 : (L M).length = 1 := h
  obtain ⟨x, hx⟩ := List.length_eq_one_iff.1 h3
  rw [hx] at h1 h2 ⊢
  have := h2.head
  simp at h1
  subst h1
  exact ⟨rfl, this⟩

theorem dm_one {A B : Option Addr} {n c m d N M : Nat} {w : World} (h : NumIn w A n c N) (k : NumIn w B m d M) (hn : n ≤ 1000000) (hle : ¬ N < M) (h1 : nl M = 1) :
    Calls Tryd.prog 33 #[.slice A n c, .slice B m d] w fun e w' => ∃ v u, e = .returned (.tuple #[v, u, .int .i64 0]) ∧ NumAt w.heap.size w' v (N / M) ∧ NumAt w.heap.size w' u (N % M) ∧ Below w.heap.size w w' := by
  have hc : ¬ cmpI N M < 0 := fun h => hle ((cmpI_neg N M).1 h)
  have hb := cmpI_bd N M
  have hM0 : 0 < M := by
    rcases Nat.eq_zero_or_pos M with h | h
    · subst h; rw [nl_zero] at h1; omega
    · exact h
  have h2 := one_limb h1
  have hM : M < 4294967296 := h2.2
  have HO := Lib.hid h2.1
  have H1 := Lib.hid h1
  have hml : N % M < 4294967296 := Nat.lt_trans (Nat.mod_lt N hM0) hM
  clear hle h2 h1
  go_enter Tryd.func33, Tryd.ntmps33
  go_wp2_with fail
  refine (trim_num _ _ _ _ _ k).mono ?_
  rintro e w' ⟨rfl, hT, rfl⟩
  rw [H1.out] at hT ⊢
  go_wp2_with fail
  refine (cmp_num' h (U32.num hT)).mono ?_
  rintro e w1 ⟨rfl, hb1⟩
  have h1 := h.below hb1
  obtain ⟨b, off, rfl, hbw, hcs⟩ := (U32.below hT hb1).cells (by omega)
  have hcell := hcs 0 (by omega)
  rw [HO.out, Nat.add_zero] at hcell
  clear hT k h hcs
  generalize cmpI N M = z at *
  go_wp2_with fail
  refine (divs_num h1 hn hM0 hM).mono ?_
  rintro e w2 ⟨v, rfl, ⟨A2, c2, rfl, hU, hf⟩, hb2⟩
  have hb3 := thru hb1 hb2
  have HU := Lib.hid hU
  have HF := Lib.hid hf
  clear hU hf h1 hb2 hcell
  go_wp2_with fail
  refine (norm_num (new_num (w := w2) [N % M] rfl (by simp [nums]) (fun x hx => by simp at hx; omega) (by simp)) (by simp; have := nl_le_of_lt (N := N % M) (k := 1) (by omega); omega)).mono ?_
  rintro e w3 ⟨v, rfl, ⟨A3, c3, rfl, hU3, hf3⟩, hb4⟩
  rw [show val 4294967296 [N % M] = N % M by simp] at hU3 ⊢
  have HU3 := Lib.hid hU3
  have HF3 := Lib.hid hf3
  have hb5 := thru (below1 _ _) hb4
  have HU4 := Lib.hid (HU.out.below hb5)
  clear hU3 hf3 hb4 HU
  go_wp2
  refine bodyPost_ret (v := .tuple #[.slice A2 (L (N / M)).length c2, .slice A3 (L (N % M)).length c3, .int .i64 0]) (by simp [results, Tryd.results33, go_sem]) rfl ?_
  refine ⟨_, _, rfl, ⟨_, _, rfl, HU4.out, fun a ha => Nat.le_trans hb1.size (HF.out a ha)⟩, ⟨_, _, rfl, HU3.out, fun a ha => Nat.le_trans (by have := hb3.size; simp; omega) (HF3.out a ha)⟩, thru hb3 hb5⟩

end Go.Proofs.YtnldopjbiacbfaaDoor

/- limb.DivMod by more than one limb. No condition. -/
namespace Go.Proofs.YtnldopjbiacbfaaDoor
open Go.RowKit Anv

theorem nl_len {w : World} {A : Option Addr} {n c N : Nat} (h : NumIn w A n c N) : nl N ≤ n := by
  obtain ⟨xs, hx, rfl⟩ := h
  have h1 := val_lt hx.lt
  rw [hx.len] at h1
  exact nl_le_of_lt h1

theorem start_low {U V m : Nat} (hU : m + 2 ≤ nl U) (hV : nl V = m + 2) : val 4294967296 ((L U ++ [0]).drop (nl U - (m + 1))) < V := by
  have h1 : (L U ++ [0]).drop (nl U - (m + 1)) = (L U).drop (nl U - (m + 1)) ++ [0] := by
    rw [List.drop_append_of_le_length (by show _ ≤ nl U; omega)]
  rw [h1, val_append, show val 4294967296 [0] = 0 from rfl, Nat.mul_zero, Nat.add_zero]
  have h2 := val_lt ((L_lt U).drop (nl U - (m + 1)))
  rw [drop_len, show nl U - (nl U - (m + 1)) = m + 1 by omega] at h2
  have h3 : 0 < V := by
    rcases Nat.eq_zero_or_pos V with h | h
    · subst h; rw [nl_zero] at hV; omega
    · exact h
  have h4 := pow_le_dig (b := 4294967296) (by omega) V h3
  rw [show (dig 4294967296 V).length = m + 2 from hV] at h4
  exact Nat.lt_of_lt_of_le h2 h4

theorem cut3 (us : List Nat) (k n : Nat) : us.take k ++ (us.drop k).take n ++ us.drop (k + n) = us := by
  rw [← List.drop_drop, List.append_assoc, List.take_append_drop, List.take_append_drop]

theorem dm_big {A B : Option Addr} {n c m d N M : Nat} {w : World} (h : NumIn w A n c N) (k : NumIn w B m d M) (hn : n ≤ 900000) (hle : ¬ N < M) (h2 : 2 ≤ nl M) :
    Calls Tryd.prog 33 #[.slice A n c, .slice B m d] w fun e w' => ∃ v u, e = .returned (.tuple #[v, u, .int .i64 0]) ∧ NumAt w.heap.size w' v (N / M) ∧ NumAt w.heap.size w' u (N % M) ∧ Below w.heap.size w w' := by
  have hc : ¬ cmpI N M < 0 := fun h => hle ((cmpI_neg N M).1 h)
  have hb := cmpI_bd N M
  have hM0 : 0 < M := by
    rcases Nat.eq_zero_or_pos M with h | h
    · subst h; rw [nl_zero] at h2; omega
    · exact h
  have hnN := nl_len h
  have hnM : nl M ≤ nl N := nl_mono (by omega)
  obtain ⟨p, hp⟩ : ∃ p, nl M = p + 2 := ⟨nl M - 2, by omega⟩
  have HP := Lib.hid hp
  have HB := Lib.hid (And.intro hM0 (And.intro hnN (And.intro hnM (show M ≤ N by omega))))
  have hpb : p ≤ 900000 := by omega
  clear hle h2 hM0 hnN hnM
  go_enter Tryd.func33, Tryd.ntmps33
  go_wp2_with fail
  refine (trim_num _ _ _ _ _ k).mono ?_
  rintro e w' ⟨rfl, hT, rfl⟩
  rw [hp] at hT ⊢
  clear hp
  go_wp2_with fail
  refine (cmp_num' h (U32.num hT)).mono ?_
  rintro e w1 ⟨rfl, hb1⟩
  replace h := h.below hb1
  have hT1 := hT.below hb1
  obtain ⟨b, off, rfl, hbw, hcs⟩ := hT1.cells (by omega)
  have hcell := hcs (p + 1) (by omega)
  have hx : (L M).getD (p + 1) 0 < 4294967296 := (L_lt M).get (by omega) _
  generalize (L M).getD (p + 1) 0 = x at hx hcell
  clear hT k hcs
  generalize cmpI N M = z at *
  go_wp2_with fail
  refine (lz32 (x : Int) _ (by omega) (by omega)).mono ?_
  rintro e w' ⟨rfl, rfl⟩
  have hbl := bitLen_le32 (x : Int) (by omega) (by omega)
  obtain ⟨s, hs, hs2⟩ : ∃ s : Nat, 32 - (Lib.bitLen (x : Int).toNat : Int) = s ∧ s ≤ 32 := ⟨32 - Lib.bitLen (x : Int).toNat, by omega, by omega⟩
  rw [hs]
  clear hs hbl hcell hx
  go_wp2_with fail
  refine (shl_full (s := s) (U32.num hT1) (by omega) (by omega)).mono ?_
  rintro e w2 ⟨gv, rfl, hgv, hUv, hb2⟩
  replace h := h.below hb2
  have hb3 := thru hb1 hb2
  clear hT1
  go_wp2_with fail
  refine (shl_full (s := s) h (by omega) (by omega)).mono ?_
  rintro e w3 ⟨gu, rfl, hgu, hUu, hb4⟩
  replace hUv := hUv.below hb4
  have hb5 := thru hb3 hb4
  have hgv2 : w.heap.size ≤ gv := Nat.le_trans hb1.size hgv
  have HE := Lib.hid (And.intro (Nat.mul_div_mul_right N M (Nat.two_pow_pos s)) (Nat.mul_mod_mul_right (2 ^ s) N M))
  have hVM : nl M ≤ nl (M * 2 ^ s) := nl_mono (Nat.le_mul_of_pos_right M (Nat.two_pow_pos s))
  have hUV : nl (M * 2 ^ s) ≤ nl (N * 2 ^ s) := nl_mono (Nat.mul_le_mul_right _ HB.out.2.2.2)
  have hUb : nl (N * 2 ^ s) ≤ 900003 := by
    have h1 := nl_mul N (2 ^ s)
    have h2 : nl (2 ^ s) ≤ 2 := nl_le_of_lt (Nat.lt_of_le_of_lt (Nat.pow_le_pow_right (by omega) hs2) (by decide))
    have := HB.out.2.1
    omega
  have HR1 := Lib.hid (show N % M * 2 ^ s / 2 ^ s = N % M from Nat.mul_div_cancel _ (Nat.two_pow_pos s))
  have HV0 := Lib.hid (show 0 < M * 2 ^ s from Nat.mul_pos HB.out.1 (Nat.two_pow_pos s))
  rw [HP.out] at hVM
  clear hgu hgv h
  generalize N * 2 ^ s = U at *
  generalize M * 2 ^ s = V at *
  obtain ⟨r, hr⟩ : ∃ r, nl V = r + 2 := ⟨nl V - 2, by omega⟩
  obtain ⟨t, ht⟩ : ∃ t, nl U = t + (r + 1) := ⟨nl U - (r + 1), by omega⟩
  have ht0 : 0 < t := by omega
  have hrt : t + r ≤ 900003 := by omega
  have HVL := Lib.hid hr
  have HUL := Lib.hid ht
  have HST := Lib.hid (show val 4294967296 ((L U ++ [0]).drop t) < V by
    have := start_low (U := U) (V := V) (m := r) (by omega) hr
    rwa [ht, Nat.add_sub_cancel] at this)
  rw [hr] at hUv ⊢
  rw [ht] at hUu ⊢
  clear hVM hUV hUb hr ht
  have hgv3 : gv < w3.heap.size := by
    obtain ⟨gv', offv, ev, hgv3, _⟩ := hUv.cells (by omega)
    cases ev
    exact hgv3
  have HUv := Lib.hid hUv
  clear hUv
  have HLN := Lib.hid (show (L U ++ [0]).length = t + (r + 1) + 1 by rw [List.length_append]; show nl U + 1 = _; rw [HUL.out])
  go_wp2_with (first | (at_builtin; refine wpList_append_full w3 rfl (.tmp 66) (.tmp 67) 22 rfl 45 4 Tryd.underlying22 info_u32 gu _ (L U) hUu 1 _ [0] (by simp [nums]) rfl (by omega) rfl rfl (by simp only [maxLen]; omega) (by omega) ?_; intro v1 w4 hO1 hB1 hs1; obtain ⟨g, cu, hv1, hcu1, hcu2, hgu, hLu⟩ := hO1.lst (by simp); rw [HLN.out] at hv1 hcu1; subst hv1; clear hO1) | (at_make; refine wpList_make_nums _ rfl _ _ 22 rfl 45 .u32 4 Tryd.underlying22 info_u32 _ _ _ _ t rfl rfl (by omega) (by omega) (by omega) (by omega) ?_; intro w5 hA5 hB5 hz5))
  have hgw : g < w4.heap.size := hLu.lt
  have hb6 := thru hb5 hB1
  have HBE := Lib.hid (thru hb6 hB5)
  have HUV5 := Lib.hid ((HUv.out.below hB1).below hB5)
  have HL5 := Lib.hid (hLu.below hB5 hgw)
  have HA5 := Lib.hid hA5
  have hgg : g ≠ gv := by omega
  have hgq : g ≠ w4.heap.size := by omega
  have hwg : w.heap.size ≤ g := by have := hb5.size; omega
  have hws : w.heap.size ≤ w4.heap.size := hb6.size
  clear hLu hA5 hB5 hz5 hB1 hb6 hs1 hUu HUv
  unfold maxLen at hcu2
  go_loopw [17] (fun s17 wr => ∃ (kk : Nat) (us qs : List Nat), kk ≤ t ∧ s17 = .int .i64 ((kk : Int) - 1) ∧
      Hid (us.length = t + (r + 1) + 1 ∧ AllLt 4294967296 us ∧ qs.length = t ∧ AllLt 4294967296 qs ∧ val 4294967296 (us.drop kk) < V ∧ val 4294967296 us + V * 4294967296 ^ kk * val 4294967296 (qs.drop kk) = U) ∧
      Hid (Lst wr g us) ∧ Hid (Arr .u32 45 wr w4.heap.size qs) ∧ Hid (U32 wr (some ⟨gv, 0, none⟩) (r + 2) (r + 2) (L V)) ∧ Hid (Below w.heap.size w wr)) (fun s17 _ => (intOf s17 + 1).toNat)
  case atStart => exact ⟨t, L U ++ [0], _, Nat.le_refl _, int_eq (by omega), ⟨HLN.out, (L_lt U).append (AllLt.cons (by omega) (AllLt.nil _)), by simp, AllLt.zeros (by omega) _, HST.out, by rw [drop_all (xs := List.replicate t 0) (by simp), val_append, val_L]; simp⟩, HL5.out, HA5.out, HUV5.out, HBE.out⟩
  case round =>
    clear HL5 HA5 HUV5 HBE HST
    obtain ⟨kk, us, qs, hk, rfl, HI, HR, HA, HUV, HW⟩ := hrel
    rcases kk with _ | k
    · have h3 := HI.out
      have h4 := h3.2.2.2.2.2
      have h5 := h3.2.2.2.2.1
      rw [List.drop_zero] at h4 h5
      rw [Nat.pow_zero, Nat.mul_one] at h4
      have h6 := dm_unique h4 h5
      rw [HE.out.1, HE.out.2] at h6
      have hu := HR.out.whole h3.1 hcu1 (by unfold maxLen; exact hcu2) h3.2.1
      have hr1 : NumIn wr (some ⟨g, 0, none⟩) (t + (r + 1) + 1) cu (N % M * 2 ^ s) := ⟨us, hu, h6.2.symm⟩
      have hq1 : NumIn wr (some ⟨w4.heap.size, 0, none⟩) t t (N / M) := ⟨qs, HA.out.u32 h3.2.2.2.1 h3.2.2.1 (by simp only [maxLen]; omega), h6.1.symm⟩
      have HQ1 := Lib.hid hq1
      have hlen : nl (N % M * 2 ^ s) ≤ 1000000 := by have := nl_len hr1; omega
      clear h3 h4 h5 h6 hu hq1 HI HR HA HUV
      go_wp2_with fail
      refine (shr_num (s := s) hr1 hlen (by omega)).mono ?_
      rintro e w6 ⟨v, rfl, ⟨A6, c6, rfl, hU6, hf6⟩, hb6⟩
      rw [HR1.out] at hU6 ⊢
      have hq2 := HQ1.out.below hb6
      have HW6 := Lib.hid (thru HW.out hb6)
      have HU6 := Lib.hid hU6
      have HF6 := Lib.hid (fun a ha => Nat.le_trans HW.out.size (hf6 a ha))
      clear hU6 hf6 hb6 hr1
      go_wp2_with fail
      refine (trim_num _ _ _ _ _ hq2).mono ?_
      rintro e w7 ⟨rfl, hT7, rfl⟩
      have HT7 := Lib.hid hT7
      clear hT7 hq2
      go_wp2
      refine bodyPost_ret (v := .tuple #[.slice (some ⟨w4.heap.size, 0, none⟩) (nl (N / M)) (nl (N / M)), .slice A6 (L (N % M)).length c6, .int .i64 0]) (by simp [results, Tryd.results33, go_sem]) rfl ?_
      exact ⟨_, _, rfl, ⟨_, _, rfl, HT7.out, fun a ha => by cases ha; exact hws⟩, ⟨_, _, rfl, HU6.out, HF6.out⟩, HW6.out⟩
    · rw [show (((k + 1 : Nat) : Int) - 1) = (k : Int) from by omega]
      have hk0 : (0 : Int) ≤ (k : Int) := by omega
      have h3 := HI.out
      have ec := cut3 us k (r + 3)
      have hpl : (us.take k).length = k := by rw [List.length_take]; omega
      have hwl : ((us.drop k).take (r + 3)).length = r + 3 := by rw [List.length_take, List.length_drop]; omega
      have hwa : AllLt 4294967296 ((us.drop k).take (r + 3)) := (h3.2.1.drop k).take _
      have hlo := h3.2.2.2.2.1
      rw [← ec] at hlo
      have hVb : V < 4294967296 ^ (r + 2) := by have := lt_nl V; rwa [HVL.out] at this
      have hwin := quo_win (by omega) hpl hwl hwa hVb hlo
      have hq0 : (L V).getD (r + 1) 0 ≠ 0 := top_ne (dig_norm (by omega) V) HVL.out
      have hst := fun win' h => quo_step (b := 4294967296) (V := V) (win := (us.drop k).take (r + 3)) (win' := win') (U := U) hpl HV0.out hwin.1 (by rw [h3.2.2.1]; omega) (by rw [ec]; exact h3.2.2.2.2.2) h
      have HS := Lib.hid hst
      have hLc : Lst wr g (us.take k ++ (us.drop k).take (r + 3) ++ us.drop (k + (r + 3))) := by rw [ec]; exact HR.out
      have hD := digit_win (c := cu - k) (d := r + 2) (A := some ⟨gv, 0, none⟩) (vs := L V) hLc hpl hwl (by omega) (by unfold maxLen; omega) hwa HUV.out (fun a ha => by cases ha; exact fun h => hgg h.symm) (by omega) (by rw [val_L]; exact hwin.2)
      rw [val_L] at hD
      have HD := Lib.hid hD
      have hco := HA.out.cell k (by rw [h3.2.2.1]; omega)
      have HPL := Lib.hid (And.intro hpl (And.intro hwl (And.intro hwa (Nat.div_lt_iff_lt_mul HV0.out |>.2 hwin.2))))
      clear h3 ec hpl hwl hwa hlo hVb hwin hq0 hst hLc hD
      go_wp2_with fail
      rw [show k + (r + 2) + 1 - k = r + 3 from by omega]
      refine HD.out.mono ?_
      rintro e w6 ⟨os, rfl, hol, hoa, hov, hL6, hE6⟩
      have hA6 := hE6.arr HA.out (fun h => hgq h.symm)
      have hUV6 := hE6.u32 HUV.out (fun a ha => by cases ha; exact fun h => hgg h.symm)
      have hW6 := hE6.below HW.out hwg HW.out.size
      have hcq := hA6.cell k (by have := HI.out.2.2.1; omega)
      have hfq := hA6.frozen k
      have HA6 := Lib.hid hA6
      have HUV6 := Lib.hid hUV6
      have HW6 := Lib.hid hW6
      have HL6 := Lib.hid hL6
      have HO6 := Lib.hid (And.intro hol (And.intro hoa hov))
      have hdl := HPL.out.2.2.2
      clear hol hoa hov hL6 hE6 hA6 hUV6 hW6 hco HD
      generalize val 4294967296 ((us.drop k).take (r + 3)) / V = q at *
      go_wp2
      go_roundw
      case rel =>
        have h3 := HI.out
        have h4 := HS.out os HO6.out.2.2
        refine ⟨k, us.take k ++ os ++ us.drop (k + (r + 3)), qs.set k q, by omega, rfl, ⟨?_, ?_, by rw [List.length_set]; exact h3.2.2.1, h3.2.2.2.1.set k hdl, h4.1, h4.2⟩, HL6.out.keep (Below.heap_setCell _ _ _ _ (by exact hgq)), HA6.out.set k q, ?_, HW6.out.setCell hws _⟩
        · rw [List.length_append, List.length_append, HPL.out.1, HO6.out.1, List.length_drop, h3.1]; omega
        · exact ((h3.2.1.take k).append HO6.out.2.1).append (h3.2.1.drop _)
        · exact HUV6.out.far (by show gv ≠ w4.heap.size; omega) _
      case measure => simp [intOf]

/-- limb.DivMod by what is not 0. -/
theorem dm_num {A B : Option Addr} {n c m d N M : Nat} {w : World} (h : NumIn w A n c N) (k : NumIn w B m d M) (hn : n ≤ 900000) (hM : M ≠ 0) :
    Calls Tryd.prog 33 #[.slice A n c, .slice B m d] w fun e w' => ∃ v u, e = .returned (.tuple #[v, u, .int .i64 0]) ∧ NumAt w.heap.size w' v (N / M) ∧ NumAt w.heap.size w' u (N % M) ∧ Below w.heap.size w w' := by
  by_cases hlt : N < M
  · exact dm_less h k (by have := nl_len h; omega) hlt
  · have := nl_pos (N := M) (by omega)
    by_cases h1 : nl M = 1
    · exact dm_one h k (by omega) hlt h1
    · exact dm_big h k hn hlt (by omega)

end Go.Proofs.YtnldopjbiacbfaaDoor
