/- limb.trim: a list without high noughts is the list's own beginning. No condition. -/
import Derived.Test.YtnldopjbiacbfaaBase
namespace Go.Proofs.Ytnldopjbiacbfaa
open Go.RowKit Anv

theorem trim_any (A : Option Addr) (n c : Nat) (xs : List Nat) (w : World) (h : U32 w A n c xs) :
    Calls Try.prog 63 #[.slice A n c] w fun e w' => e = .returned (.slice A (tl xs) (tl xs)) ∧ w = w' := by
  have hc := h.cap
  have hb := h.big
  unfold maxLen at hb
  go_enter Try.func63, Try.ntmps63
  go_wp2
  go_loop [3] (fun i => ∃ m : Nat, m ≤ n ∧ i = .int .i64 m ∧ Hid (∀ j, m ≤ j → j < n → xs.getD j 0 = 0)) (fun i => (intOf i).toNat)
  case atStart => exact ⟨n, Nat.le_refl _, rfl, fun j h1 h2 => by omega⟩
  case round =>
    obtain ⟨m, hm, rfl, HZ⟩ := hrel
    rcases m with _ | m
    · go_wp2
      go_ret
      have e := tl_eq h.lt 0 (by omega) (fun j h1 h2 => HZ.out j h1 (by rw [← h.len]; exact h2)) (.inl rfl)
      exact ⟨ret_slice e e, rfl⟩
    · obtain ⟨b, off, rfl, hbw, hcs⟩ := h.cells (by omega)
      have hcell := hcs m (by omega)
      clear hcs
      generalize hx : xs.getD m 0 = x at hcell
      have HX := Lib.hid hx
      clear hx
      by_cases hx : x = 0
      · subst hx
        go_wp2
        go_round
        case rel =>
          refine ⟨m, by omega, rfl, fun j h1 h2 => ?_⟩
          rcases Nat.eq_or_lt_of_le h1 with h3 | h3
          · rw [← h3]; exact HX.out
          · exact HZ.out j (by omega) h2
        case measure => simp [intOf]
      · have hx0 : ((x : Int) == 0) = false := by simp; omega
        go_wp2
        go_ret
        have e := tl_eq h.lt (m + 1) (by rw [h.len]; omega) (fun j h1 h2 => HZ.out j h1 (by rw [← h.len]; exact h2)) (.inr (by rw [Nat.add_sub_cancel, HX.out]; exact hx))
        exact ⟨ret_slice e e, rfl⟩

theorem trim_num (A : Option Addr) (n c N : Nat) (w : World) (h : NumIn w A n c N) :
    Calls Try.prog 63 #[.slice A n c] w fun e w' => e = .returned (.slice A (nl N) (nl N)) ∧ U32 w A (nl N) (nl N) (L N) ∧ w = w' := by
  obtain ⟨xs, hx, rfl⟩ := h
  refine (trim_any A n c xs w hx).mono ?_
  rintro e w' ⟨rfl, rfl⟩
  have h1 := tl_L hx.lt
  have h2 := hx.trim
  rw [h1] at h2 ⊢
  exact ⟨rfl, h2, rfl⟩

end Go.Proofs.Ytnldopjbiacbfaa
