/- limb.Add. No condition. -/
import Derived.Test.YtnldopjbiacbfaaArr
import Derived.Test.YtnldopjbiacbfaaTrim
namespace Go.Proofs.Ytnldopjbiacbfaa
open Go.RowKit Anv

theorem add_any (A B : Option Addr) (n c m d : Nat) (xs ys : List Nat) (w : World) (h : U32 w A n c xs) (k : U32 w B m d ys) (hn : n ≤ 1000000) (hm : m ≤ 1000000) :
    Calls Try.prog 52 #[.slice A n c, .slice B m d] w fun e w' => ∃ v, e = .returned v ∧ NumAt w.heap.size w' v (val 4294967296 xs + val 4294967296 ys) ∧ Below w.heap.size w w' := by
  go_enter Try.func52, Try.ntmps52
  go_upto_if 13 with fail
  go_cut [0, 1] (fun s0 s1 wx => wx = w ∧ ∃ (A' B' : Option Addr) (n' c' m' d' : Nat) (xs' ys' : List Nat), s0 = .slice A' n' c' ∧ s1 = .slice B' m' d' ∧ Hid (U32 w A' n' c' xs' ∧ U32 w B' m' d' ys') ∧ m' ≤ n' ∧ n' ≤ 1000000 ∧ Hid (val 4294967296 xs' + val 4294967296 ys' = val 4294967296 xs + val 4294967296 ys))
  case first =>
    by_cases hlt : n < m
    · go_wp2
      go_meet
      case rel => exact ⟨rfl, B, A, m, d, n, c, ys, xs, rfl, rfl, ⟨k, h⟩, by omega, by omega, Nat.add_comm _ _⟩
    · go_wp2
      go_meet
      case rel => exact ⟨rfl, A, B, n, c, m, d, xs, ys, rfl, rfl, ⟨h, k⟩, by omega, by omega, rfl⟩
  case rest =>
    obtain ⟨rfl, A', B', n', c', m', d', xs', ys', rfl, rfl, hu, hmn, hn', HS⟩ := hcut
    clear h k hn hm
    go_wp2_with (at_make; refine wpList_make_nums _ rfl _ _ 22 rfl 74 .u32 4 Try.underlying22 info_u32 _ _ _ _ (n' + 1) rfl rfl (by omega) (by omega) (by omega) (by omega) ?_; intro w1 hA1 hB1 hz1)
    have HA := Lib.hid hA1
    have HB := Lib.hid hB1
    clear hA1 hB1
    go_loopw [6, 22] (fun cy i wr => ∃ (k cc : Nat) (os : List Nat), k ≤ n' ∧ i = .int .i64 k ∧ cy = .int .u64 cc ∧ cc ≤ 1 ∧
        Hid (os.length = n' + 1 ∧ AllLt 4294967296 os ∧ val 4294967296 (os.take k) + 4294967296 ^ k * cc = val 4294967296 (xs'.take k) + val 4294967296 (ys'.take k)) ∧
        Hid (Arr .u32 74 wr wc.heap.size os) ∧ Hid (Below wc.heap.size wc wr)) (fun _ i _ => n' - (intOf i).toNat)
    case atStart => exact ⟨0, 0, _, Nat.zero_le _, rfl, rfl, by omega, ⟨by simp, AllLt.zeros (by omega) _, by simp⟩, HA.out, HB.out⟩
    case round =>
      obtain ⟨k, cc, os, hk, rfl, rfl, hcc, HI, HR, HW⟩ := hrel
      by_cases hlt : k < n'
      · obtain ⟨b, off, rfl, hbw, hcs⟩ := hu.out.1.cells (by omega)
        have hcx := (HW.out.cell (p := ⟨b, off + k, none⟩) hbw).trans (hcs k hlt)
        have hxlt := hu.out.1.lt.get (by omega) k
        clear hcs
        generalize hx : xs'.getD k 0 = x at hcx hxlt
        have HX := Lib.hid hx
        clear hx
        have hco := HR.out.cell k (by rw [HI.out.1]; omega)
        have hfo := HR.out.frozen k
        by_cases hlm : k < m'
        · obtain ⟨b2, off2, rfl, hbw2, hcs⟩ := hu.out.2.cells (by omega)
          have hcy := (HW.out.cell (p := ⟨b2, off2 + k, none⟩) hbw2).trans (hcs k hlm)
          have hylt := hu.out.2.lt.get (by omega) k
          clear hcs
          generalize hy : ys'.getD k 0 = y at hcy hylt
          have HY := Lib.hid hy
          clear hy
          go_wp2
          go_roundw
          case rel =>
            have h3 := HI.out
            have h4 := add_step 4294967296 xs' ys' os k cc (by omega) h3.2.2
            rw [HX.out, HY.out] at h4
            exact ⟨k + 1, (cc + x + y) / 4294967296, os.set k ((cc + x + y) % 4294967296), by omega, by go_num, int_eq (by omega), by omega, ⟨by simp; exact h3.1, h3.2.1.set k (by omega), h4⟩, HR.out.set' k _ _ (by omega), HW.out.setCell (Nat.le_refl _) _⟩
          case measure => simp [intOf]; omega
        · have hy : ys'.getD k 0 = 0 := getD_ge (by rw [hu.out.2.len]; omega)
          have HY := Lib.hid hy
          clear hy
          go_wp2
          go_roundw
          case rel =>
            have h3 := HI.out
            have h4 := add_step 4294967296 xs' ys' os k cc (by omega) h3.2.2
            rw [HX.out, HY.out, Nat.add_zero] at h4
            exact ⟨k + 1, (cc + x) / 4294967296, os.set k ((cc + x) % 4294967296), by omega, by go_num, int_eq (by omega), by omega, ⟨by simp; exact h3.1, h3.2.1.set k (by omega), h4⟩, HR.out.set' k _ _ (by omega), HW.out.setCell (Nat.le_refl _) _⟩
          case measure => simp [intOf]; omega
      · have hco := HR.out.cell n' (by rw [HI.out.1]; omega)
        have hfo := HR.out.frozen n'
        go_wp2_with fail
        have h3 := HI.out
        obtain rfl : k = n' := by omega
        have hset := HR.out.set k cc
        have hlt' : AllLt 4294967296 (os.set k cc) := h3.2.1.set k (by omega)
        have hU := hset.u32 hlt' (n := k + 1) (by simp; exact h3.1) (by simp only [maxLen]; omega)
        have hv : val 4294967296 (os.set k cc) = val 4294967296 xs + val 4294967296 ys := by
          have h5 := val_set_take 4294967296 os k cc (by omega)
          rw [List.take_of_length_le (by simp; omega), h3.2.2, List.take_of_length_le (by rw [hu.out.1.len]; omega), List.take_of_length_le (by rw [hu.out.2.len]; omega), HS.out] at h5
          exact h5
        have hB2 := HW.out.setCell (p := ⟨wc.heap.size, k, none⟩) (Nat.le_refl _) (.int .u32 (cc : Nat))
        have hT := hU.trim
        rw [hv] at hT
        have hl := tl_L hlt'
        rw [hv] at hl
        refine (trim_any _ _ _ _ _ hU).mono ?_
        rintro e w' ⟨rfl, rfl⟩
        rw [hl] at hT ⊢
        have HT := Lib.hid hT
        have HB2 := Lib.hid hB2
        clear hT hB2 hl hv hU hset h3 hco hfo
        go_wp2
        go_ret
        exact ⟨_, rfl, ⟨_, _, rfl, HT.out, fun a ha => by cases ha; exact Nat.le_refl _⟩, HB2.out⟩

theorem add_num {A B : Option Addr} {n c m d N M : Nat} {w : World} (h : NumIn w A n c N) (k : NumIn w B m d M) (hn : n ≤ 1000000) (hm : m ≤ 1000000) :
    Calls Try.prog 52 #[.slice A n c, .slice B m d] w fun e w' => ∃ v, e = .returned v ∧ NumAt w.heap.size w' v (N + M) ∧ Below w.heap.size w w' := by
  obtain ⟨xs, hx, rfl⟩ := h
  obtain ⟨ys, hy, rfl⟩ := k
  exact add_any A B n c m d xs ys w hx hy hn hm

end Go.Proofs.Ytnldopjbiacbfaa
