/- limb.Sub. No condition. -/
import Derived.Test.YtnldopjbiacbfaaCmp
namespace Go.Proofs.Ytnldopjbiacbfaa
open Go.RowKit Anv

theorem sub_num {A B : Option Addr} {n c m d N M : Nat} {w : World} (h : NumIn w A n c N) (h' : NumIn w B m d M) (hn : n ≤ 1000000) (hNM : M ≤ N) :
    Calls Try.prog 53 #[.slice A n c, .slice B m d] w fun e w' => ∃ v, e = .returned (.tuple #[v, .int .i64 0]) ∧ NumAt w.heap.size w' v (N - M) ∧ Below w.heap.size w w' := by
  have hc0 := cmpI_neg N M
  have hcb := cmpI_bd N M
  have hc1 : ¬ cmpI N M < 0 := by omega
  clear hc0
  go_enter Try.func53, Try.ntmps53
  go_wp2_with fail
  refine (cmp_num h h').mono ?_
  rintro e w' ⟨rfl, q, rfl⟩
  have HH := Lib.hid (And.intro h h')
  clear h h'
  obtain ⟨xs, hx, hxv⟩ := HH.out.1
  obtain ⟨ys, hy, hyv⟩ := HH.out.2
  have HV := Lib.hid (And.intro hxv hyv)
  clear hxv hyv
  have hsz : (w.drewN q).heap.size = w.heap.size := rfl
  clear hsz
  go_wp2_with (at_make; refine wpList_make_nums _ rfl _ _ 22 rfl 74 .u32 4 Try.underlying22 info_u32 _ _ _ _ n rfl rfl (by omega) (by omega) (by omega) (by omega) ?_; intro w1 hA1 hB1 hz1)
  have HA := Lib.hid hA1
  have HB := Lib.hid hB1
  clear hA1 hB1 hz1
  go_loopw [7, 21] (fun cy i wr => ∃ (k r : Nat) (os : List Nat), k ≤ n ∧ i = .int .i64 k ∧ cy = .int .u64 r ∧ r ≤ 1 ∧
        Hid (os.length = n ∧ AllLt 4294967296 os ∧ val 4294967296 (os.take k) + val 4294967296 (ys.take k) = val 4294967296 (xs.take k) + 4294967296 ^ k * r) ∧
        Hid (Arr .u32 74 wr w.heap.size os) ∧ Hid (Below w.heap.size w wr)) (fun _ i _ => n - (intOf i).toNat)
  case atStart => exact ⟨0, 0, _, Nat.zero_le _, rfl, rfl, by omega, ⟨by simp, AllLt.zeros (by omega) _, by simp⟩, HA.out, (below_drewN' w q).trans HB.out⟩
  case round =>
      obtain ⟨k, r, os, hk, rfl, rfl, hr, HI, HR, HW⟩ := hrel
      by_cases hlt : k < n
      · obtain ⟨b, off, rfl, hbw, hcs⟩ := hx.cells (by omega)
        have hcx := (HW.out.cell (p := ⟨b, off + k, none⟩) hbw).trans (hcs k hlt)
        have hxlt := hx.lt.get (by omega) k
        clear hcs
        generalize hx : xs.getD k 0 = x at hcx hxlt
        have HX := Lib.hid hx
        clear hx
        have hco := HR.out.cell k (by rw [HI.out.1]; omega)
        have hfo := HR.out.frozen k
        by_cases hlm : k < m
        · obtain ⟨b2, off2, rfl, hbw2, hcs⟩ := hy.cells (by omega)
          have hcy := (HW.out.cell (p := ⟨b2, off2 + k, none⟩) hbw2).trans (hcs k hlm)
          have hylt := hy.lt.get (by omega) k
          clear hcs
          generalize hy : ys.getD k 0 = y at hcy hylt
          have HY := Lib.hid hy
          clear hy
          by_cases hxy : x < r + y
          · have hb := borrow_yes x (r + y) hxlt (by omega) (by omega)
            rw [show (((r + y : Nat)) : Int) = (r : Int) + y from by omega] at hb
            have HB := Lib.hid hb
            clear hb
            go_wp2
            go_roundw
            case rel =>
              have h3 := HI.out
              have h4 := sub_step 4294967296 xs ys os k r (x + 4294967296 - (r + y)) 1 (by omega) h3.2.2 (by rw [HX.out, HY.out]; omega)
              exact ⟨k + 1, 1, os.set k (x + 4294967296 - (r + y)), by omega, by go_num, int_eq HB.out.1, by omega, ⟨by simp; exact h3.1, h3.2.1.set k (by omega), h4⟩, HR.out.set' k _ _ HB.out.2, HW.out.setCell (Nat.le_refl _) _⟩
            case measure => simp [intOf]; omega
          · have hb := borrow_no x (r + y) hxlt (by omega)
            rw [show (((r + y : Nat)) : Int) = (r : Int) + y from by omega] at hb
            have HB := Lib.hid hb
            clear hb
            go_wp2
            go_roundw
            case rel =>
              have h3 := HI.out
              have h4 := sub_step 4294967296 xs ys os k r (x - (r + y)) 0 (by omega) h3.2.2 (by rw [HX.out, HY.out]; omega)
              exact ⟨k + 1, 0, os.set k (x - (r + y)), by omega, by go_num, int_eq HB.out.1, by omega, ⟨by simp; exact h3.1, h3.2.1.set k (by omega), h4⟩, HR.out.set' k _ _ HB.out.2, HW.out.setCell (Nat.le_refl _) _⟩
            case measure => simp [intOf]; omega
        · have hy : ys.getD k 0 = 0 := getD_ge (by rw [hy.len]; omega)
          have HY := Lib.hid hy
          clear hy
          by_cases hxy : x < r
          · have hb := borrow_yes x r hxlt (by omega) (by omega)
            have HB := Lib.hid hb
            clear hb
            go_wp2
            go_roundw
            case rel =>
              have h3 := HI.out
              have h4 := sub_step 4294967296 xs ys os k r (x + 4294967296 - r) 1 (by omega) h3.2.2 (by rw [HX.out, HY.out]; omega)
              exact ⟨k + 1, 1, os.set k (x + 4294967296 - r), by omega, by go_num, int_eq HB.out.1, by omega, ⟨by simp; exact h3.1, h3.2.1.set k (by omega), h4⟩, HR.out.set' k _ _ HB.out.2, HW.out.setCell (Nat.le_refl _) _⟩
            case measure => simp [intOf]; omega
          · have hb := borrow_no x r hxlt (by omega)
            have HB := Lib.hid hb
            clear hb
            go_wp2
            go_roundw
            case rel =>
              have h3 := HI.out
              have h4 := sub_step 4294967296 xs ys os k r (x - r) 0 (by omega) h3.2.2 (by rw [HX.out, HY.out]; omega)
              exact ⟨k + 1, 0, os.set k (x - r), by omega, by go_num, int_eq HB.out.1, by omega, ⟨by simp; exact h3.1, h3.2.1.set k (by omega), h4⟩, HR.out.set' k _ _ HB.out.2, HW.out.setCell (Nat.le_refl _) _⟩
            case measure => simp [intOf]; omega
      · go_wp2_with fail
        have h3 := HI.out
        obtain rfl : k = n := by omega
        have hU := HR.out.u32 h3.2.1 h3.1 (by simp only [maxLen]; omega)
        have hv : val 4294967296 os = N - M := by
          rw [← HV.out.1, ← HV.out.2]
          exact sub_final xs ys os k r h3.2.1 h3.1 hx.len hx.lt hr h3.2.2 (by rw [HV.out.1, HV.out.2]; exact hNM)
        have hN : NumIn wr (some ⟨w.heap.size, 0, none⟩) k k (N - M) := ⟨os, hU, hv⟩
        refine (trim_num _ _ _ _ _ hN).mono ?_
        rintro e w' ⟨rfl, hT, rfl⟩
        have HT := Lib.hid hT
        clear hT hv hU h3 hN
        go_wp2
        go_ret2
        exact ⟨_, rfl, ⟨_, _, rfl, HT.out, fun a ha => by cases ha; exact Nat.le_refl _⟩, HW.out⟩

theorem sub_bad {A B : Option Addr} {n c m d N M : Nat} {w : World} (h : NumIn w A n c N) (h' : NumIn w B m d M) (hNM : N < M) :
    Calls Try.prog 53 #[.slice A n c, .slice B m d] w fun e w' => e = .returned (.tuple #[.slice none 0 0, .int .i64 5]) ∧ ∃ q, w' = w.drewN q := by
  have hc1 : cmpI N M < 0 := (cmpI_neg N M).2 hNM
  have hcb := cmpI_bd N M
  go_enter Try.func53, Try.ntmps53
  go_wp2_with fail
  refine (cmp_num h h').mono ?_
  rintro e w' ⟨rfl, q, rfl⟩
  go_wp2
  go_ret2
  exact ⟨rfl, q, rfl⟩

end Go.Proofs.Ytnldopjbiacbfaa
