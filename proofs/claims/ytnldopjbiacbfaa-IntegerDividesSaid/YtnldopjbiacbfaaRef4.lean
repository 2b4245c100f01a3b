/- The reference's size: digits held against digits. No condition. -/
import Derived.Test.YtnldopjbiacbfaaRef3
namespace Go.Proofs.Ytnldopjbiacbfaa
open Go.RowKit Anv

theorem size_ref {A B : Option Addr} {c d N M : Nat} {w : World} (hU : U32 w A (dn N) c (D N)) (kU : U32 w B (dn M) d (D M)) :
    Calls Try.prog 48 #[.slice A (dn N) c, .slice B (dn M) d] w fun e w' => e = .returned (.int .i64 (cmpI N M)) ∧ ∃ q, w' = w.drewN q := by
  have hbig := hU.big
  have hcap := hU.cap
  have kbig := kU.big
  have kcap := kU.cap
  unfold maxLen at hbig kbig
  by_cases h1 : dn N < dn M
  · have hne : ((dn N : Int) != (dn M : Int)) = true := by simp; omega
    go_enter Try.func48, Try.ntmps48
    go_wp2
    go_ret
    exact ⟨by rw [cmpI_lt (dig_len_lt (by omega) h1)]; rfl, 0, rfl⟩
  · by_cases h2 : dn M < dn N
    · have hne : ((dn N : Int) != (dn M : Int)) = true := by simp; omega
      go_enter Try.func48, Try.ntmps48
      go_wp2
      go_ret
      exact ⟨by rw [cmpI_gt (dig_len_lt (by omega) h2)]; rfl, 0, rfl⟩
    · have h3 : dn N = dn M := by omega
      have hne : ((dn N : Int) != (dn M : Int)) = false := by simp; omega
      have hne2 : ((dn N : Int) == (dn M : Int)) = true := by simp; omega
      have H3 := Lib.hid h3
      clear h3
      go_enter Try.func48, Try.ntmps48
      go_wp2
      go_loopw [5] (fun i wr => ∃ k : Nat, k ≤ dn N ∧ i = .int .i64 ((k : Int) - 1) ∧ Hid ((D N).drop k = (D M).drop k) ∧ Hid (∃ q, wr = w.drewN q)) (fun i _ => (intOf i + 1).toNat)
      case atStart => exact ⟨dn N, Nat.le_refl _, rfl, by show (D N).drop (dn N) = (D M).drop (dn N); rw [drop_all (xs := D N) (n := dn N) (Nat.le_refl _), drop_all (xs := D M) (n := dn N) (by rw [H3.out]; exact Nat.le_refl _)], 0, rfl⟩
      case round =>
        obtain ⟨k, hk, rfl, HD, HQ⟩ := hrel
        obtain ⟨q, rfl⟩ := HQ.out
        rcases k with _ | k
        · go_wp2
          go_ret
          refine ⟨?_, q, rfl⟩
          have h4 := HD.out
          rw [List.drop_zero, List.drop_zero] at h4
          have h5 : N = M := by rw [← val_D N, ← val_D M, h4]
          rw [h5, cmpI_eq]; rfl
        · rw [show (((k + 1 : Nat) : Int) - 1) = (k : Int) from by omega]
          obtain ⟨b, off, rfl, hbw, hcs⟩ := hU.cells (by omega)
          have hcx := hcs k (by omega)
          obtain ⟨b2, off2, rfl, hbw2, hcs2⟩ := kU.cells (by omega)
          have hcy := hcs2 k (by omega)
          clear hcs hcs2
          generalize hx : (D N).getD k 0 = x at hcx
          generalize hy : (D M).getD k 0 = y at hcy
          have HX := Lib.hid hx
          have HY := Lib.hid hy
          clear hx hy
          have hk0 : (0 : Int) ≤ (k : Int) := by omega
          have hk1 : (k : Int) < (dn N : Int) := by omega
          have hk2 : (k : Int) < (dn M : Int) := by omega
          have hkt : ((k : Int)).toNat = k := by omega
          have hlx : k < (D N).length := by show k < dn N; omega
          have hly : k < (D M).length := by show k < dn M; omega
          by_cases hxy : x < y
          · go_wp2_with fail
            go_quiet (fail)
            go_wp2_with fail
            go_ret
            refine ⟨?_, by simp only [World.drewN_drewN]; exact ⟨_, rfl⟩⟩
            rw [cmpI_lt]
            · rfl
            · rw [← val_D N, ← val_D M]
              exact val_lt_of _ _ k (D_lt N) HD.out hlx (by rw [HX.out, HY.out]; exact hxy) hly
          · by_cases hyx : y < x
            · go_wp2_with fail
              go_quiet (fail)
              go_wp2_with fail
              go_quiet (fail)
              go_wp2_with fail
              go_ret
              refine ⟨?_, by simp only [World.drewN_drewN]; exact ⟨_, rfl⟩⟩
              rw [cmpI_gt]
              · rfl
              · rw [← val_D N, ← val_D M]
                exact val_lt_of _ _ k (D_lt M) HD.out.symm hly (by rw [HX.out, HY.out]; exact hyx) hlx
            · go_wp2_with fail
              go_quiet (fail)
              go_wp2_with fail
              go_quiet (fail)
              go_wp2_with fail
              go_roundw
              case rel => exact ⟨k, by omega, rfl, by show (D N).drop k = (D M).drop k; rw [drop_step _ k hlx, drop_step _ k hly, HX.out, HY.out, HD.out, show x = y from by omega], by show ∃ q, _ = _; exact ⟨_, rfl⟩⟩
              case measure => simp [intOf]

theorem size_ref' {A B : Option Addr} {c d N M : Nat} {w : World} (hU : U32 w A (dn N) c (D N)) (kU : U32 w B (dn M) d (D M)) :
    Calls Try.prog 48 #[.slice A (dn N) c, .slice B (dn M) d] w fun e w' => e = .returned (.int .i64 (cmpI N M)) ∧ Below w.heap.size w w' := by
  refine (size_ref hU kU).mono ?_
  rintro e w' ⟨rfl, q, rfl⟩
  exact ⟨rfl, below_drewN' w q⟩

end Go.Proofs.Ytnldopjbiacbfaa
