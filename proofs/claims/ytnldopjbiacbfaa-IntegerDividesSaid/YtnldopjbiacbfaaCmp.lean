/- limb.Cmp. No condition. -/
import Derived.Test.YtnldopjbiacbfaaArr
import Derived.Test.YtnldopjbiacbfaaTrim
namespace Go.Proofs.Ytnldopjbiacbfaa
open Go.RowKit Anv

theorem cmp_num {A B : Option Addr} {n c m d N M : Nat} {w : World} (h : NumIn w A n c N) (h' : NumIn w B m d M) :
    Calls Try.prog 47 #[.slice A n c, .slice B m d] w fun e w' => e = .returned (.int .i64 (cmpI N M)) ∧ ∃ q, w' = w.drewN q := by
  go_enter Try.func47, Try.ntmps47
  go_wp2_with fail
  refine (trim_num _ _ _ _ _ h).mono ?_
  rintro e w' ⟨rfl, hU, rfl⟩
  go_wp2_with fail
  refine (trim_num _ _ _ _ _ h').mono ?_
  rintro e w' ⟨rfl, kU, rfl⟩
  have hbig := hU.big
  have kbig := kU.big
  unfold maxLen at hbig kbig
  by_cases h1 : nl N < nl M
  · go_wp2
    go_ret
    exact ⟨by rw [cmpI_lt (dig_len_lt (by omega) h1)]; rfl, 0, rfl⟩
  · by_cases h2 : nl M < nl N
    · go_wp2
      go_ret
      exact ⟨by rw [cmpI_gt (dig_len_lt (by omega) h2)]; rfl, 0, rfl⟩
    · have h3 : nl N = nl M := by omega
      have H3 := Lib.hid h3
      clear h3
      go_wp2
      go_loopw [5] (fun i wr => ∃ k : Nat, k ≤ nl N ∧ i = .int .i64 ((k : Int) - 1) ∧ Hid ((L N).drop k = (L M).drop k) ∧ Hid (∃ q, wr = w.drewN q)) (fun i _ => (intOf i + 1).toNat)
      case atStart => exact ⟨nl N, Nat.le_refl _, rfl, by show (L N).drop (nl N) = (L M).drop (nl N); rw [drop_all (xs := L N) (n := nl N) (Nat.le_refl _), drop_all (xs := L M) (n := nl N) (by rw [H3.out]; exact Nat.le_refl _)], 0, rfl⟩
      case round =>
        obtain ⟨k, hk, rfl, HD, HQ⟩ := hrel
        obtain ⟨q, rfl⟩ := HQ.out
        rcases k with _ | k
        · go_wp2
          go_ret
          refine ⟨?_, q, rfl⟩
          have h4 := HD.out
          rw [List.drop_zero, List.drop_zero] at h4
          have h5 : N = M := by rw [← val_L N, ← val_L M, h4]
          rw [h5, cmpI_eq]; rfl
        · rw [show (((k + 1 : Nat) : Int) - 1) = (k : Int) from by omega]
          obtain ⟨b, off, rfl, hbw, hcs⟩ := hU.cells (by omega)
          have hcx := hcs k (by omega)
          obtain ⟨b2, off2, rfl, hbw2, hcs2⟩ := kU.cells (by omega)
          have hcy := hcs2 k (by omega)
          clear hcs hcs2
          generalize hx : (L N).getD k 0 = x at hcx
          generalize hy : (L M).getD k 0 = y at hcy
          have HX := Lib.hid hx
          have HY := Lib.hid hy
          clear hx hy
          have hk0 : (0 : Int) ≤ (k : Int) := by omega
          have hk1 : (k : Int) < (nl N : Int) := by omega
          have hk2 : (k : Int) < (nl M : Int) := by omega
          have hkt : ((k : Int)).toNat = k := by omega
          have hlx : k < (L N).length := by show k < nl N; omega
          have hly : k < (L M).length := by show k < nl M; omega
          by_cases hxy : x < y
          · go_wp2_with fail
            go_quiet (fail)
            go_wp2_with fail
            go_ret
            refine ⟨?_, by simp only [World.drewN_drewN]; exact ⟨_, rfl⟩⟩
            rw [cmpI_lt]
            · rfl
            · rw [← val_L N, ← val_L M]
              exact val_lt_of _ _ k (L_lt N) HD.out hlx (by rw [HX.out, HY.out]; exact hxy) hly
          · by_cases hyx : y < x
            · go_wp2_with fail
              go_quiet (fail)
              go_wp2_with fail
              go_quiet (fail)
              go_wp2_with fail
              go_ret
              refine ⟨?_, by simp only [World.drewN_drewN]; exact ⟨_, rfl⟩⟩
              rw [cmpI_gt]
              · rfl
              · rw [← val_L N, ← val_L M]
                exact val_lt_of _ _ k (L_lt M) HD.out.symm hly (by rw [HX.out, HY.out]; exact hyx) hlx
            · go_wp2_with fail
              go_quiet (fail)
              go_wp2_with fail
              go_quiet (fail)
              go_wp2_with fail
              go_roundw
              case rel => exact ⟨k, by omega, rfl, by show (L N).drop k = (L M).drop k; rw [drop_step _ k hlx, drop_step _ k hly, HX.out, HY.out, HD.out, show x = y from by omega], by show ∃ q, _ = _; exact ⟨_, rfl⟩⟩
              case measure => simp [intOf]

theorem cmp_num' {A B : Option Addr} {n c m d N M : Nat} {w : World} (h : NumIn w A n c N) (h' : NumIn w B m d M) :
    Calls Try.prog 47 #[.slice A n c, .slice B m d] w fun e w' => e = .returned (.int .i64 (cmpI N M)) ∧ Below w.heap.size w w' := by
  refine (cmp_num h h').mono ?_
  rintro e w' ⟨rfl, q, rfl⟩
  exact ⟨rfl, below_drewN' w q⟩

end Go.Proofs.Ytnldopjbiacbfaa
