/- limb.DivMod. No condition. -/
import Derived.Test.YtnldopjbiacbfaaDigit
import Derived.Test.YtnldopjbiacbfaaShl
import Derived.Test.YtnldopjbiacbfaaShr
import Derived.Test.YtnldopjbiacbfaaLz
import Derived.Test.YtnldopjbiacbfaaBits
import Derived.Test.YtnldopjbiacbfaaInt4
namespace Go.Proofs.Ytnldopjbiacbfaa
open Go.RowKit Anv

theorem dm_zero {A B : Option Addr} {n c m d : Nat} {w : World} (h : NumIn w B m d 0) :
    Calls Try.prog 60 #[.slice A n c, .slice B m d] w fun e w' => e = .returned (.tuple #[.slice none 0 0, .slice none 0 0, .int .i64 2]) ∧ Below w.heap.size w w' := by
  have h0 : nl 0 = 0 := nl_zero
  go_enter Try.func60, Try.ntmps60
  go_wp2_with fail
  refine (trim_num _ _ _ _ _ h).mono ?_
  rintro e w' ⟨rfl, hT, rfl⟩
  rw [h0]
  clear hT h
  go_wp2
  refine bodyPost_ret (v := .tuple #[.slice none 0 0, .slice none 0 0, .int .i64 2]) (by simp [results, Try.results60, go_sem]) rfl ⟨rfl, Below.refl _ _⟩

theorem nil_num (B : Nat) (w : World) : NumAt B w (.slice none 0 0) 0 :=
  ⟨none, 0, by rw [L_zero]; rfl, by rw [L_zero]; exact ⟨rfl, Nat.le_refl _, by simp [maxLen], AllLt.nil _, fun hp => by simp at hp⟩, fun a ha => by cases ha⟩

theorem dm_less {A B : Option Addr} {n c m d N M : Nat} {w : World} (h : NumIn w A n c N) (k : NumIn w B m d M) (hN : nl N ≤ 1000000) (hlt : N < M) :
    Calls Try.prog 60 #[.slice A n c, .slice B m d] w fun e w' => ∃ v u, e = .returned (.tuple #[v, u, .int .i64 0]) ∧ NumAt w.heap.size w' v (N / M) ∧ NumAt w.heap.size w' u (N % M) ∧ Below w.heap.size w w' := by
  have h0 : 0 < nl M := nl_pos (by omega)
  have hc := (cmpI_neg N M).2 hlt
  have hb := cmpI_bd N M
  have HE := Lib.hid (And.intro (Nat.div_eq_of_lt hlt) (Nat.mod_eq_of_lt hlt))
  clear hlt
  go_enter Try.func60, Try.ntmps60
  go_wp2_with fail
  refine (trim_num _ _ _ _ _ k).mono ?_
  rintro e w' ⟨rfl, hT, rfl⟩
  go_wp2_with fail
  refine (cmp_num' h (U32.num hT)).mono ?_
  rintro e w1 ⟨rfl, hb1⟩
  have h1 := h.below hb1
  clear hT k h
  generalize cmpI N M = z at *
  go_wp2_with fail
  refine (norm_num h1 hN).mono ?_
  rintro e w2 ⟨v, rfl, ⟨A2, c2, rfl, hU, hf⟩, hb2⟩
  have HU := Lib.hid hU
  have HF := Lib.hid hf
  clear hU hf h1
  go_wp2
  refine bodyPost_ret (v := .tuple #[.slice none 0 0, .slice A2 (L N).length c2, .int .i64 0]) (by simp [results, Try.results60, go_sem]) rfl ?_
  refine ⟨_, _, rfl, ?_, ?_, thru hb1 hb2⟩
  · rw [HE.out.1]; exact nil_num _ _
  · rw [HE.out.2]; exact ⟨_, _, rfl, HU.out, fun a ha => Nat.le_trans hb1.size (HF.out a ha)⟩

theorem one_limb {M : Nat} (h : nl M = 1) : (L M).getD 0 0 = M ∧ M < 4294967296 := by
  have h1 := val_L M
  have h2 := L_lt M
  have h3 : (L M).length = 1 := h
  obtain ⟨x, hx⟩ := List.length_eq_one_iff.1 h3
  rw [hx] at h1 h2 ⊢
  have := h2.head
  simp at h1
  subst h1
  exact ⟨rfl, this⟩

theorem dm_one {A B : Option Addr} {n c m d N M : Nat} {w : World} (h : NumIn w A n c N) (k : NumIn w B m d M) (hn : n ≤ 1000000) (hle : ¬ N < M) (h1 : nl M = 1) :
    Calls Try.prog 60 #[.slice A n c, .slice B m d] w fun e w' => ∃ v u, e = .returned (.tuple #[v, u, .int .i64 0]) ∧ NumAt w.heap.size w' v (N / M) ∧ NumAt w.heap.size w' u (N % M) ∧ Below w.heap.size w w' := by
  have hc : ¬ cmpI N M < 0 := fun h => hle ((cmpI_neg N M).1 h)
  have hb := cmpI_bd N M
  have hM0 : 0 < M := by
    rcases Nat.eq_zero_or_pos M with h | h
    · subst h; rw [nl_zero] at h1; omega
    · exact h
  have h2 := one_limb h1
  have hM : M < 4294967296 := h2.2
  have HO := Lib.hid h2.1
  have H1 := Lib.hid h1
  have hml : N % M < 4294967296 := Nat.lt_trans (Nat.mod_lt N hM0) hM
  clear hle h2 h1
  go_enter Try.func60, Try.ntmps60
  go_wp2_with fail
  refine (trim_num _ _ _ _ _ k).mono ?_
  rintro e w' ⟨rfl, hT, rfl⟩
  rw [H1.out] at hT ⊢
  go_wp2_with fail
  refine (cmp_num' h (U32.num hT)).mono ?_
  rintro e w1 ⟨rfl, hb1⟩
  have h1 := h.below hb1
  obtain ⟨b, off, rfl, hbw, hcs⟩ := (U32.below hT hb1).cells (by omega)
  have hcell := hcs 0 (by omega)
  rw [HO.out, Nat.add_zero] at hcell
  clear hT k h hcs
  generalize cmpI N M = z at *
  go_wp2_with fail
  refine (divs_num h1 hn hM0 hM).mono ?_
  rintro e w2 ⟨v, rfl, ⟨A2, c2, rfl, hU, hf⟩, hb2⟩
  have hb3 := thru hb1 hb2
  have HU := Lib.hid hU
  have HF := Lib.hid hf
  clear hU hf h1 hb2 hcell
  go_wp2_with fail
  refine (norm_num (new_num (w := w2) [N % M] rfl (by simp [nums]) (fun x hx => by simp at hx; omega) (by simp)) (by simp; have := nl_le_of_lt (N := N % M) (k := 1) (by omega); omega)).mono ?_
  rintro e w3 ⟨v, rfl, ⟨A3, c3, rfl, hU3, hf3⟩, hb4⟩
  rw [show val 4294967296 [N % M] = N % M by simp] at hU3 ⊢
  have HU3 := Lib.hid hU3
  have HF3 := Lib.hid hf3
  have hb5 := thru (below1 _ _) hb4
  have HU4 := Lib.hid (HU.out.below hb5)
  clear hU3 hf3 hb4 HU
  go_wp2
  refine bodyPost_ret (v := .tuple #[.slice A2 (L (N / M)).length c2, .slice A3 (L (N % M)).length c3, .int .i64 0]) (by simp [results, Try.results60, go_sem]) rfl ?_
  refine ⟨_, _, rfl, ⟨_, _, rfl, HU4.out, fun a ha => Nat.le_trans hb1.size (HF.out a ha)⟩, ⟨_, _, rfl, HU3.out, fun a ha => Nat.le_trans (by have := hb3.size; simp; omega) (HF3.out a ha)⟩, thru hb3 hb5⟩

end Go.Proofs.Ytnldopjbiacbfaa
