/- limb.digit: a limb of a quotient. No condition. -/
import Derived.Test.YtegglooojlheoaaDoorM17
import Derived.Test.YtegglooojlheoaaDoorM7
import Derived.Deep.CutBlock
import Derived.WalkMore

namespace Go.Proofs.YtegglooojlheoaaDoor
open Go.RowKit Anv
set_option maxRecDepth 100000 in
set_option maxHeartbeats 1000000 in
theorem digit_win {g k m c d : Nat} {A : Option Addr} {pre win post vs : List Nat} {w : World} (hL : Lst w g (pre ++ win ++ post)) (hk : pre.length = k) (hm : win.length = m + 3) (hc : m + 3 ≤ c) (hkc : k + c ≤ maxLen)
    (hwl : AllLt 4294967296 win) (hv : U32 w A (m + 2) d vs) (hA : ∀ a, A = some a → a.block ≠ g) (hv1 : 0 < vs.getD (m + 1) 0) (hlow : val 4294967296 win < 4294967296 * val 4294967296 vs) :
    Calls Tryd.prog 162 #[.slice (some ⟨g, k, none⟩) (m + 3 : Nat) c, .slice A (m + 2 : Nat) d] w fun e w' => ∃ os, e = .returned (.int .u32 ((val 4294967296 win / val 4294967296 vs : Nat) : Int)) ∧ os.length = m + 3 ∧ AllLt 4294967296 os ∧
      val 4294967296 os = val 4294967296 win % val 4294967296 vs ∧ Lst w' g (pre ++ os ++ post) ∧ Eff g w w' := by
  have HG := Lib.hid (guess_of 4294967296 m (by omega) win vs hm hv.len hwl hv.lt hv1 hlow)
  have HK := Lib.hid (And.intro hk hm)
  have HL := Lib.hid hL
  have HWL := Lib.hid hwl
  have HV := Lib.hid hv
  have HAA := Lib.hid hA
  have hb := hv.cap
  have hbb := hv.big
  have hc2 : w.cell? ⟨g, k + (m + 2), none⟩ = some (.int .u32 ((win.getD (m + 2) 0 : Nat) : Int)) := by
    rw [hL.cell (k + (m + 2)) (by simp; omega), get_mid pre win post k (m + 2) hk (by omega)]
  have hc1 : w.cell? ⟨g, k + (m + 1), none⟩ = some (.int .u32 ((win.getD (m + 1) 0 : Nat) : Int)) := by
    rw [hL.cell (k + (m + 1)) (by simp; omega), get_mid pre win post k (m + 1) hk (by omega)]
  have hc0 : w.cell? ⟨g, k + m, none⟩ = some (.int .u32 ((win.getD m 0 : Nat) : Int)) := by
    rw [hL.cell (k + m) (by simp; omega), get_mid pre win post k m hk (by omega)]
  obtain ⟨b2, off2, rfl, hbw2, hcs⟩ := hv.cells (by omega)
  have hd1 := hcs (m + 1) (by omega)
  have hd0 := hcs m (by omega)
  have hun := hwl.get (by omega) (m + 2)
  have hu1 := hwl.get (by omega) (m + 1)
  have hu2 := hwl.get (by omega) m
  have hv1l := hv.lt.get (by omega) (m + 1)
  have hv2l := hv.lt.get (by omega) m
  have hor := put_low (win.getD (m + 1) 0) (win.getD (m + 2) 0) hu1 hun
  have hHb : win.getD (m + 2) 0 * 4294967296 + win.getD (m + 1) 0 < 18446744073709551616 := by omega
  have hou := fun r (hr : r < 4294967296) => put_low (win.getD m 0) r hu2 hr
  unfold maxLen at hkc hbb
  have hwm : IntKind.i64.wrap (m : Int) = (m : Int) := by rw [IntKind.wrap_i64]; omega
  clear hk hm hL hwl hv hA hlow hcs
  generalize vs.getD (m + 1) 0 = v1 at *
  generalize vs.getD m 0 = v2 at *
  generalize win.getD m 0 = u2 at *
  generalize win.getD (m + 2) 0 * 4294967296 + win.getD (m + 1) 0 = H at *
  generalize win.getD (m + 1) 0 = u1 at *
  generalize win.getD (m + 2) 0 = un at *
  have HO := Lib.hid hou
  clear hou
  go_enter Tryd.func162, Tryd.ntmps162
  go_wp2_with fail
  go_step3
  go_wp2_with fail
  go_quiet (fail)
  go_wp2_with fail
  go_quiet (fail)
  go_wp2_with fail
  go_step3
  go_upto_block 0 with fail
  have HQ0 := Lib.hid (show IntKind.u64.wrap ((H : Int) / (v1 : Int)) = ((H / v1 : Nat) : Int) by
    have := Nat.div_le_self H v1
    rw [← Int.natCast_ediv, IntKind.wrap_u64]; generalize H / v1 = Z at *; omega)
  have HQ1 := Lib.hid (And.intro (Nat.mod_lt H hv1) (show H / v1 * v1 + H % v1 = H by rw [Nat.mul_comm]; exact Nat.div_add_mod H v1))
  have HQ2 := Lib.hid (show H / v1 < 18446744073709551616 from Nat.lt_of_le_of_lt (Nat.div_le_self H v1) hHb)
  obtain ⟨W, hW⟩ : ∃ W, W = val 4294967296 win := ⟨_, rfl⟩
  obtain ⟨V, hV⟩ : ∃ V, V = val 4294967296 vs := ⟨_, rfl⟩
  rw [← hW, ← hV] at HG
  have HWV := Lib.hid (And.intro hW hV)
  clear hW hV
  go_cut [7] (fun s7 wx => ∃ g : Nat, s7 = .int .u64 g ∧ g < 4294967296 ∧ Hid (g = W / V ∨ g = W / V + 1) ∧ Hid (∃ z, wx = w.drewN z))
  case first =>
    go_wp2_with fail
    go_loopw [7, 8] (fun s7 s8 wr => ∃ g r : Nat, s7 = .int .u64 g ∧ s8 = .int .u64 r ∧ g < 18446744073709551616 ∧ r < 4294967296 ∧ Hid (g * v1 + r = H ∧ W / V ≤ g) ∧ Hid (∃ z, wr = w.drewN z)) (fun s7 _ _ => (intOf s7).toNat)
    case atStart => exact ⟨H / v1, H % v1, int_eq HQ0.out, rfl, HQ2.out, Nat.lt_trans HQ1.out.1 hv1l, ⟨HQ1.out.2, HG.out.first⟩, by simp only [World.drewN_drewN]; exact ⟨_, rfl⟩⟩
    case round =>
      clear HQ0 HQ1 HQ2
      obtain ⟨g', r, rfl, rfl, hg, hr, HI, HZ⟩ := hrel
      obtain ⟨z, rfl⟩ := HZ.out
      clear HZ
      by_cases hbig : 4294967296 ≤ g'
      · have hq := Lib.hid (mend_big HG.out.pos HG.out.low hbig)
        have HE := Lib.hid (show (g' - 1) * v1 + (r + v1) = H by
          obtain ⟨p, rfl⟩ : ∃ p, g' = p + 1 := ⟨g' - 1, by omega⟩
          have := HI.out.1
          rw [Nat.succ_mul] at this
          rw [Nat.add_sub_cancel]; omega)
        have hgi : (0 : Int) < (g' : Int) / 4294967296 := by omega
        by_cases hbr : 4294967296 ≤ r + v1
        · go_wp2_with fail
          go_quiet (fail)
          go_wp2_with fail
          go_meet
          case rel =>
            have h1 := HG.out.digit _ _ HE.out hbr
            have h2 := HG.out.stop _ _ HE.out (by have := hq.out; omega) h1 (guess_early 4294967296 v2 u2 _ _ h1 hv2l hbr)
            exact ⟨g' - 1, by go_num, h1, h2, _, rfl⟩
        · go_wp2_with fail
          go_quiet (fail)
          go_wp2_with fail
          go_roundw
          case rel => exact ⟨g' - 1, r + v1, by go_num, by go_num, by omega, by omega, ⟨HE.out, by have := hq.out; omega⟩, by show ∃ z, _ = _; exact ⟨_, rfl⟩⟩
          case measure => simp [intOf]; omega
      · have hgs : decide ((0 : Int) < (g' : Int) / 4294967296) = false := decide_eq_false (by omega)
        have ho := HO.out r hr
        have hT : r * 4294967296 + u2 < 18446744073709551616 := by omega
        have hmul : g' * v2 < 18446744073709551616 := Nat.mul_lt_mul'' (show g' < 4294967296 by omega) hv2l
        have hm0 := HG.out.mend g' r HI.out.1
        have hs0 := HG.out.stop g' r HI.out.1 HI.out.2 (by omega)
        have HM := Lib.hid (And.intro hm0 hs0)
        clear hm0 hs0
        generalize r * 4294967296 + u2 = T at *
        have hpr : IntKind.u64.wrap ((g' : Int) * (v2 : Int)) = ((g' * v2 : Nat) : Int) := by rw [← Int.natCast_mul, IntKind.wrap_u64]; omega
        have hpos : g' = 0 → g' * v2 = 0 := by rintro rfl; simp
        generalize g' * v2 = G at *
        by_cases ht : T < G
        · have hg0 : 0 < g' := by
            rcases Nat.eq_zero_or_pos g' with h | h
            · have := hpos h; omega
            · exact h
          have hti : decide (T < G) = true := decide_eq_true ht
          have hq := Lib.hid (HM.out.1 ht)
          have HE := Lib.hid (show (g' - 1) * v1 + (r + v1) = H by
            obtain ⟨p, rfl⟩ : ∃ p, g' = p + 1 := ⟨g' - 1, by omega⟩
            have := HI.out.1
            rw [Nat.succ_mul] at this
            rw [Nat.add_sub_cancel]; omega)
          clear hmul hpos
          by_cases hbr : 4294967296 ≤ r + v1
          · go_wp2_with fail
            go_quiet (fail)
            clear hgs hT
            go_wp2_with fail
            go_meet
            case rel =>
              have h1 := HG.out.digit _ _ HE.out hbr
              have h2 := HG.out.stop _ _ HE.out (by have := hq.out; omega) h1 (guess_early 4294967296 v2 u2 _ _ h1 hv2l hbr)
              exact ⟨g' - 1, by go_num, h1, h2, _, rfl⟩
          · go_wp2_with fail
            go_quiet (fail)
            clear hgs hT
            go_wp2_with fail
            go_roundw
            case rel => exact ⟨g' - 1, r + v1, by go_num, by go_num, by omega, by omega, ⟨HE.out, by have := hq.out; omega⟩, by show ∃ z, _ = _; exact ⟨_, rfl⟩⟩
            case measure => simp [intOf]; omega
        · have hti : decide (T < G) = false := decide_eq_false ht
          have h2 := Lib.hid (HM.out.2 (by omega))
          clear hmul hpos
          go_wp2_with fail
          go_quiet (fail)
          clear hgs hT
          go_wp2_with fail
          go_meet
          case rel => exact ⟨g', rfl, by omega, h2.out, by show ∃ z, _ = _; simp only [World.drewN_drewN]; exact ⟨_, rfl⟩⟩
  case rest =>
    obtain ⟨g', rfl, hg, HQ, HZ⟩ := hcut
    obtain ⟨z, rfl⟩ := HZ.out
    have hWV := HWV.out
    clear HZ HQ0 HQ1 HQ2 hor HO hc2 hc1 hc0 hd1 hd0
    go_wp2_with fail
    refine (less_win (w := w.drewN z) (HL.out.keep rfl) HK.out.1 HK.out.2 hc (by unfold maxLen; exact hkc) HWL.out (HV.out.below (below_drewN' w z)) HAA.out (by omega) hg).mono ?_
    rintro e w1 ⟨os1, hcase, hl1, hlt1, hL1, hE1⟩
    rw [← hWV.1, ← hWV.2] at hcase
    clear hWV
    have HL1 := Lib.hid hL1
    have HE1 := Lib.hid (show Eff g w w1 from ((Eff.refl g w).drewN z).trans hE1)
    have HO1 := Lib.hid (And.intro hl1 hlt1)
    clear hL1 hE1 hl1 hlt1
    rcases hcase with ⟨hle, rfl, hval⟩ | ⟨hle, rfl, hval⟩
    · have HR := Lib.hid (less_no HQ.out HG.out.pos hval)
      have HVAL := Lib.hid hle
      clear hle hval
      go_wp2
      rw [Exit.noGoto_ret]
      go_ret
      have h := HR.out
      exact ⟨os1, by rw [← HWV.out.1, ← HWV.out.2, ← h.1]; rfl, HO1.out.1, HO1.out.2, by rw [← HWV.out.1, ← HWV.out.2]; exact h.2, HL1.out, HE1.out⟩
    · have HVAL := Lib.hid (And.intro hle hval)
      have hg0 : 0 < g' := by
        rcases Nat.eq_zero_or_pos g' with h | h
        · subst h; simp at hle
        · exact h
      clear hle hval
      go_wp2_with fail
      go_loopw [9, 89] (fun cy ix wr => ∃ (i cc : Nat) (os : List Nat), i ≤ m + 3 ∧ ix = .int .i64 i ∧ cy = .int .u64 cc ∧ cc ≤ 1 ∧
        Hid (os.length = m + 3 ∧ AllLt 4294967296 os ∧ (∀ j, i ≤ j → os.getD j 0 = os1.getD j 0) ∧ val 4294967296 (os.take i) + 4294967296 ^ i * cc = val 4294967296 (os1.take i) + val 4294967296 (vs.take i)) ∧
        Hid (Lst wr g (pre ++ os ++ post)) ∧ Hid (Eff g w wr)) (fun _ ix _ => m + 3 - (intOf ix).toNat)
      case atStart => exact ⟨0, 0, os1, Nat.zero_le _, rfl, rfl, by omega, ⟨HO1.out.1, HO1.out.2, fun _ _ => rfl, by simp⟩, HL1.out, HE1.out⟩
      case round =>
        obtain ⟨i, cc, os, hi, rfl, rfl, hcc, HI, HR, HW⟩ := hrel
        by_cases hlt : i < m + 3
        · have hil : i < os.length := by rw [HI.out.1]; exact hlt
          have hcx : wr.cell? ⟨g, k + i, none⟩ = some (.int .u32 ((os1.getD i 0 : Nat) : Int)) := by
            rw [HR.out.cell (k + i) (by rw [List.length_append, List.length_append, HK.out.1]; omega), get_mid pre os post k i HK.out.1 hil, HI.out.2.2.1 i (Nat.le_refl _)]
          have hfo := HR.out.frozen (k + i)
          have hxlt := HO1.out.2.get (by omega) i
          have hst := add_step 4294967296 os1 vs os i cc hil HI.out.2.2.2
          clear hil
          by_cases hlv : i < m + 2
          · obtain ⟨b3, off3, e3, hbw3, hcs⟩ := (HW.out.u32 HV.out HAA.out).cells (by omega)
            cases e3
            have hcy := hcs i hlv
            have hylt := HV.out.lt.get (by omega) i
            have HS := Lib.hid hst
            clear hcs hst
            generalize os1.getD i 0 = x at *
            generalize vs.getD i 0 = y at *
            go_wp2
            go_roundw
            case rel =>
              have h3 := HI.out
              exact ⟨i + 1, (cc + x + y) / 4294967296, os.set i ((cc + x + y) % 4294967296), by omega, by go_num, int_eq (by omega), by omega, ⟨by rw [List.length_set]; exact h3.1, h3.2.1.set i (by omega), fun j hj => by rw [dset_ne (by omega)]; exact h3.2.2.1 j (by omega), HS.out⟩, by rw [← set_mid pre os post k i _ HK.out.1 (by rw [h3.1]; exact hlt)]; exact HR.out.set' _ _ _ (by omega), HW.out.set rfl _⟩
            case measure => simp [intOf]; omega
          · rw [getD_ge (xs := vs) (by rw [HV.out.len]; omega), Nat.add_zero] at hst
            have HS := Lib.hid hst
            clear hst
            generalize os1.getD i 0 = x at *
            go_wp2
            go_roundw
            case rel =>
              have h3 := HI.out
              exact ⟨i + 1, (cc + x) / 4294967296, os.set i ((cc + x) % 4294967296), by omega, by go_num, int_eq (by omega), by omega, ⟨by rw [List.length_set]; exact h3.1, h3.2.1.set i (by omega), fun j hj => by rw [dset_ne (by omega)]; exact h3.2.2.1 j (by omega), HS.out⟩, by rw [← set_mid pre os post k i _ HK.out.1 (by rw [h3.1]; exact hlt)]; exact HR.out.set' _ _ _ (by omega), HW.out.set rfl _⟩
            case measure => simp [intOf]; omega
        · have h3 := HI.out
          obtain rfl : i = m + 3 := by omega
          have h4 := h3.2.2.2
          have h5 := val_lt h3.2.1
          rw [List.take_of_length_le (by rw [h3.1]; exact Nat.le_refl _), List.take_of_length_le (by rw [HO1.out.1]; exact Nat.le_refl _), List.take_of_length_le (by rw [HV.out.len]; omega), ← HWV.out.2] at h4
          rw [h3.1] at h5
          have HF := Lib.hid (And.intro h3.1 (And.intro h3.2.1 (less_back HQ.out HG.out.pos HVAL.out.1 HVAL.out.2 h4 h5 hcc)))
          clear h3 h4 h5 HI
          go_wp2
          rw [Exit.noGoto_ret]
          go_ret
          have h := HF.out
          refine ⟨os, ?_, h.1, h.2.1, by rw [← HWV.out.1, ← HWV.out.2]; exact h.2.2.2, HR.out, HW.out⟩
          rw [← HWV.out.1, ← HWV.out.2, ← h.2.2.1]
          exact congrArg (fun z => Ending.returned (.int .u32 z)) (by omega)
end Go.Proofs.YtegglooojlheoaaDoor
