/- limb.Mul. No condition. -/
import Derived.Test.YtnldopjbiacbfaaArr
import Derived.Test.YtnldopjbiacbfaaTrim
namespace Go.Proofs.Ytnldopjbiacbfaa
open Go.RowKit Anv

theorem mul_any (A B : Option Addr) (n c m d : Nat) (xs ys : List Nat) (w : World) (hx : U32 w A n c xs) (hy : U32 w B m d ys) (hn : n ≤ 1000000) (hm : m ≤ 1000000) :
    Calls Try.prog 56 #[.slice A n c, .slice B m d] w fun e w' => ∃ v, e = .returned v ∧ NumAt w.heap.size w' v (val 4294967296 xs * val 4294967296 ys) ∧ Below w.heap.size w w' := by
  go_enter Try.func56, Try.ntmps56
  go_wp2_with (at_make; refine wpList_make_nums _ rfl _ _ 22 rfl 74 .u32 4 Try.underlying22 info_u32 _ _ _ _ (n + m) rfl rfl (by omega) (by omega) (by omega) (by omega) ?_; intro w1 hA1 hB1 hz1)
  have HA := Lib.hid hA1
  have HB := Lib.hid hB1
  clear hA1 hB1 hz1
  go_loopw [19] (fun i wr => ∃ (k : Nat) (os : List Nat), k ≤ n ∧ i = .int .i64 k ∧
        Hid (os.length = n + m ∧ AllLt 4294967296 os ∧ val 4294967296 os = val 4294967296 (xs.take k) * val 4294967296 ys ∧ ∀ j, k + m ≤ j → os.getD j 0 = 0) ∧
        Hid (Arr .u32 74 wr w.heap.size os) ∧ Hid (Below w.heap.size w wr)) (fun i _ => n - (intOf i).toNat)
  case atStart => exact ⟨0, _, Nat.zero_le _, rfl, ⟨by simp, AllLt.zeros (by omega) _, by simp [val_zeros], fun j _ => zeros_getD _ _⟩, HA.out, HB.out⟩
  case round =>
    obtain ⟨k, os, hk, rfl, HI, HR, HW⟩ := hrel
    by_cases hlt : k < n
    · obtain ⟨b, off, rfl, hbw, hcs⟩ := hx.cells (by omega)
      have hcx := (HW.out.cell (p := ⟨b, off + k, none⟩) hbw).trans (hcs k hlt)
      have hxlt := hx.lt.get (by omega) k
      clear hcs
      generalize hx : xs.getD k 0 = x at hcx hxlt
      have HX := Lib.hid hx
      clear hx
      go_wp2
      obtain ⟨wo, rfl⟩ : ∃ wo : World, wo = wr := ⟨_, rfl⟩
      go_loopw [8, 26] (fun cy i wr => ∃ (q cc : Nat) (os : List Nat), q ≤ m ∧ i = .int .i64 q ∧ cy = .int .u64 cc ∧ cc < 4294967296 ∧
        Hid (os.length = n + m ∧ AllLt 4294967296 os ∧ val 4294967296 os + 4294967296 ^ (k + q) * cc = val 4294967296 (xs.take k) * val 4294967296 ys + 4294967296 ^ k * (x * val 4294967296 (ys.take q)) ∧ ∀ j, k + m ≤ j → os.getD j 0 = 0) ∧
        Hid (Arr .u32 74 wr w.heap.size os) ∧ Hid (Below w.heap.size w wr)) (fun _ i _ => m - (intOf i).toNat)
      case atStart => exact ⟨0, 0, os, Nat.zero_le _, rfl, rfl, by omega, ⟨HI.out.1, HI.out.2.1, by simp [HI.out.2.2.1], HI.out.2.2.2⟩, HR.out, HW.out⟩
      case round =>
        clear HI HR HW
        obtain ⟨q, cc, os, hq, rfl, rfl, hcc, HI, HR, HW⟩ := hrel
        by_cases hqm : q < m
        · obtain ⟨b2, off2, rfl, hbw2, hcs⟩ := hy.cells (by omega)
          have hcy := (HW.out.cell (p := ⟨b2, off2 + q, none⟩) hbw2).trans (hcs q hqm)
          have hylt := hy.lt.get (by omega) q
          clear hcs
          generalize hy : ys.getD q 0 = y at hcy hylt
          have HY := Lib.hid hy
          clear hy
          have hco := HR.out.cell (k + q) (by rw [HI.out.1]; omega)
          have hfo := HR.out.frozen (k + q)
          have holt := HI.out.2.1.get (by omega) (k + q)
          generalize ho : os.getD (k + q) 0 = o at hco holt
          have HO := Lib.hid ho
          clear ho
          have hmc := mul_carry 4294967296 cc x y o (by omega) hcc hxlt hylt holt
          go_wp2
          go_roundw
          case rel =>
            have h3 := HI.out
            have h4 := mul_step 4294967296 ys os k q cc x _ (by omega) h3.2.2.1
            rw [HY.out, HO.out] at h4
            exact ⟨q + 1, (cc + x * y + o) / 4294967296, os.set (k + q) ((cc + x * y + o) % 4294967296), by omega, by go_num, int_eq (by omega), by omega, ⟨by simp; exact h3.1, h3.2.1.set _ (by omega), h4, fun j hj => by rw [dset_ne (by omega)]; exact h3.2.2.2 j hj⟩, HR.out.set' _ _ _ (by omega), HW.out.setCell (Nat.le_refl _) _⟩
          case measure => simp [intOf]; omega
        · obtain rfl : q = m := by omega
          have hco := HR.out.cell (k + q) (by rw [HI.out.1]; omega)
          have hfo := HR.out.frozen (k + q)
          rw [HI.out.2.2.2 (k + q) (Nat.le_refl _)] at hco
          go_wp2
          go_roundw
          case rel =>
            have h3 := HI.out
            have h4 := val_set_zero 4294967296 os (k + q) cc (by omega) (h3.2.2.2 _ (Nat.le_refl _))
            have h5 := h3.2.2.1
            rw [List.take_of_length_le (l := ys) (by rw [hy.len]; exact Nat.le_refl _)] at h5
            refine ⟨k + 1, os.set (k + q) cc, by omega, by go_num, ⟨by simp; exact h3.1, h3.2.1.set _ hcc, ?_, fun j hj => by rw [dset_ne (by omega)]; exact h3.2.2.2 j (by omega)⟩, HR.out.set _ _, HW.out.setCell (Nat.le_refl _) _⟩
            rw [h4, h5, val_take_step, HX.out, Nat.add_mul, Nat.mul_assoc]
          case measure => simp [intOf]; omega
    · go_wp2_with fail
      have h3 := HI.out
      obtain rfl : k = n := by omega
      have hU := HR.out.u32 h3.2.1 h3.1 (by simp only [maxLen]; omega)
      have hv : val 4294967296 os = val 4294967296 xs * val 4294967296 ys := by
        rw [h3.2.2.1, List.take_of_length_le (by rw [hx.len]; exact Nat.le_refl _)]
      have hN : NumIn wr (some ⟨w.heap.size, 0, none⟩) (k + m) (k + m) (val 4294967296 xs * val 4294967296 ys) := ⟨os, hU, hv⟩
      refine (trim_num _ _ _ _ _ hN).mono ?_
      rintro e w' ⟨rfl, hT, rfl⟩
      have HT := Lib.hid hT
      clear hT hv hU h3 hN
      go_wp2
      go_ret
      exact ⟨_, rfl, ⟨_, _, rfl, HT.out, fun a ha => by cases ha; exact Nat.le_refl _⟩, HW.out⟩

theorem mul_num {A B : Option Addr} {n c m d N M : Nat} {w : World} (h : NumIn w A n c N) (k : NumIn w B m d M) (hn : n ≤ 1000000) (hm : m ≤ 1000000) :
    Calls Try.prog 56 #[.slice A n c, .slice B m d] w fun e w' => ∃ v, e = .returned v ∧ NumAt w.heap.size w' v (N * M) ∧ Below w.heap.size w w' := by
  obtain ⟨xs, hx, rfl⟩ := h
  obtain ⟨ys, hy, rfl⟩ := k
  exact mul_any A B n c m d xs ys w hx hy hn hm

end Go.Proofs.Ytnldopjbiacbfaa
