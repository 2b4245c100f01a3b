/- limb.Shr. No condition. -/
import Derived.Test.YtnldopjbiacbfaaNum2
import Derived.Test.YtnldopjbiacbfaaInt1
namespace Go.Proofs.Ytnldopjbiacbfaa
open Go.RowKit Anv

theorem join_val (x y : Nat) (hx : x < 4294967296) (hy : y < 4294967296) : bits .or .u64 (x : Int) ((y : Int) * 4294967296) = ((x + 4294967296 * y : Nat) : Int) := by
  have h := u64_or_nat x (y * 4294967296) (by omega) (by omega)
  rw [Int.natCast_mul] at h
  rw [show ((4294967296 : Nat) : Int) = 4294967296 from rfl] at h
  rw [h]
  have := low_or 32 y x (by omega)
  rw [show (2 : Nat) ^ 32 = 4294967296 from rfl] at this
  rw [this, Nat.mul_comm]

theorem drop_len (N d : Nat) : ((L N).drop d).length = nl N - d := by rw [List.length_drop]; rfl

theorem val_drop_L (N d : Nat) : val 4294967296 ((L N).drop d) = N / 4294967296 ^ d := by
  have h1 : val 4294967296 (L N) = val 4294967296 ((L N).take d) + 4294967296 ^ ((L N).take d).length * val 4294967296 ((L N).drop d) := by
    conv => lhs; rw [← List.take_append_drop d (L N)]
    rw [val_append]
  rw [val_L] at h1
  have h2 := val_lt ((L_lt N).take d)
  rcases Nat.lt_or_ge (L N).length d with h | h
  · rw [List.drop_eq_nil_of_le (by omega)]
    have h3 := val_lt (L_lt N)
    rw [val_L] at h3
    have h4 : (4294967296 : Nat) ^ (L N).length ≤ 4294967296 ^ d := Nat.pow_le_pow_right (by omega) (by omega)
    rw [Nat.div_eq_of_lt (by omega)]; rfl
  · rw [List.length_take, Nat.min_eq_left h] at h1 h2
    conv => rhs; rw [h1]
    rw [Nat.add_mul_div_left _ _ (Nat.pow_pos (by omega)), Nat.div_eq_of_lt h2, Nat.zero_add]

theorem shr_num {A : Option Addr} {n c N s : Nat} {w : World} (h : NumIn w A n c N) (hn : nl N ≤ 1000000) (hs : s ≤ 9223372036854775807) :
    Calls Try.prog 69 #[.slice A n c, .int .i64 s] w fun e w' => ∃ v, e = .returned (.tuple #[v, .int .i64 0]) ∧ NumAt w.heap.size w' v (N / 2 ^ s) ∧ Below w.heap.size w w' := by
  obtain ⟨d, hd⟩ : ∃ d, d = s / 32 := ⟨_, rfl⟩
  obtain ⟨r, hr⟩ : ∃ r, r = s % 32 := ⟨_, rfl⟩
  have hd1 : (s : Int) / 32 = d := by omega
  have hr1 : (s : Int) % 32 = r := by omega
  have hr2 : r < 32 := by omega
  have HP := Lib.hid (show N / 2 ^ s = N / 4294967296 ^ d / 2 ^ r by rw [Nat.div_div_eq_div_mul, show (4294967296 : Nat) = 2 ^ 32 from rfl, ← Nat.pow_mul, ← Nat.pow_add]; congr 2; omega)
  clear hd hr
  go_enter Try.func69, Try.ntmps69
  go_wp2_with fail
  refine (trim_num _ _ _ _ _ h).mono ?_
  rintro e w' ⟨rfl, hU, rfl⟩
  clear h
  by_cases hdl : nl N ≤ d
  · have H0 := Lib.hid (show N / 2 ^ s = 0 by
      rw [HP.out, Nat.div_eq_of_lt (a := N), Nat.zero_div]
      exact Nat.lt_of_lt_of_le (lt_pow_dig (by omega) N) (Nat.pow_le_pow_right (by omega) hdl))
    clear hU
    go_wp2
    go_ret2
    refine ⟨_, rfl, ⟨none, 0, ?_, ?_, fun a ha => by cases ha⟩, Below.refl _ _⟩
    · rw [H0.out, L_zero]; rfl
    · rw [H0.out, L_zero]
      exact ⟨rfl, Nat.le_refl _, by simp [maxLen], AllLt.nil _, fun hp => by simp at hp⟩
  · obtain ⟨b, off, rfl, hbw, hcs⟩ := hU.cells (by omega)
    have HC := Lib.hid hcs
    have hcap := hU.big
    unfold maxLen at hcap
    clear hcs hU
    go_wp2_with (at_make; refine wpList_make_nums _ rfl _ _ 22 rfl 74 .u32 4 Try.underlying22 info_u32 _ _ _ _ (nl N - d) rfl rfl (by omega) (by omega) (by omega) (by omega) ?_; intro w1 hA1 hB1 hz1)
    have HA := Lib.hid hA1
    have HB := Lib.hid hB1
    clear hA1 hB1 hz1
    obtain ⟨m, hm⟩ : ∃ m, m = nl N - d := ⟨_, rfl⟩
    rw [← hm] at HA ⊢
    have HM := Lib.hid hm
    have hyl := drop_len N d
    have HY := Lib.hid (And.intro ((L_lt N).drop d) (And.intro (val_drop_L N d) (show ((L N).drop d).length = m by rw [hyl, hm])))
    have HG := Lib.hid (fun i => show ((L N).drop d).getD i 0 = (L N).getD (d + i) 0 by simp [List.getD])
    have hmb : m < 9223372036854775808 ∧ m ≤ 1000000 := by omega
    clear hm hyl
    generalize (L N).drop d = ys at *
    go_loopw [31] (fun i wr => ∃ (k : Nat) (os : List Nat), k ≤ m ∧ i = .int .i64 k ∧
        Hid (os.length = m ∧ AllLt 4294967296 os ∧ val 4294967296 (os.take k) + 4294967296 ^ k * (val 4294967296 (ys.drop k) / 2 ^ r) = val 4294967296 ys / 2 ^ r) ∧
        Hid (Arr .u32 74 wr w.heap.size os) ∧ Hid (Below w.heap.size w wr)) (fun i _ => m - (intOf i).toNat)
    case atStart => exact ⟨0, _, Nat.zero_le _, rfl, ⟨by simp, AllLt.zeros (by omega) _, by simp⟩, HA.out, HB.out⟩
    case round =>
      obtain ⟨k, os, hk, rfl, HI, HR, HW⟩ := hrel
      by_cases hlt : k < m
      · have hcx : wr.cell? ⟨b, off + d + k, none⟩ = some (.int .u32 ((ys.getD k 0 : Nat) : Int)) := by
          rw [HG.out, HW.out.cell (p := ⟨b, off + d + k, none⟩) hbw, Nat.add_assoc]
          exact HC.out (d + k) (by have := HM.out; omega)
        have hco := HR.out.cell k (by rw [HI.out.1]; omega)
        have hxlt := HY.out.1.get (by omega) k
        have hfo := HR.out.frozen k
        have hst := fun T h => shr_next 4294967296 (2 ^ r) (2 ^ (32 - r)) (by rw [← Nat.pow_add, show r + (32 - r) = 32 by omega]) (Nat.two_pow_pos r) (by omega) ys os k T (by rw [HI.out.1]; exact hlt) hxlt h
        have hst2 := hst _ HI.out.2.2
        have HS := Lib.hid hst2
        have hylt := HY.out.1.get (by omega) (k + 1)
        clear hst hst2
        by_cases hlt2 : k + 1 < m
        · have hcy : wr.cell? ⟨b, off + d + (k + 1), none⟩ = some (.int .u32 ((ys.getD (k + 1) 0 : Nat) : Int)) := by
            rw [HG.out, HW.out.cell (p := ⟨b, off + d + (k + 1), none⟩) hbw, Nat.add_assoc]
            exact HC.out (d + (k + 1)) (by have := HM.out; omega)
          generalize ys.getD k 0 = x at *
          generalize ys.getD (k + 1) 0 = y at *
          have HH := Lib.hid (show bits .or .u64 (x : Int) ((y : Int) * 4294967296) / 2 ^ r % 4294967296 = (((x + 4294967296 * y) / 2 ^ r % 4294967296 : Nat) : Int) by
            rw [join_val x y hxlt hylt, Int.natCast_emod, Int.natCast_ediv, Int.natCast_pow]; rfl)
          go_wp2
          go_roundw
          case rel =>
            have h3 := HI.out
            exact ⟨k + 1, _, by omega, by go_num, ⟨by rw [List.length_set]; exact h3.1, h3.2.1.set k (Nat.mod_lt _ (by omega)), HS.out⟩, HR.out.set' k _ _ HH.out, HW.out.setCell (Nat.le_refl _) _⟩
          case measure => simp [intOf]; omega
        · have hy0 : ys.getD (k + 1) 0 = 0 := getD_ge (by rw [HY.out.2.2]; omega)
          rw [hy0, Nat.mul_zero, Nat.add_zero] at HS
          clear hy0 hylt
          generalize ys.getD k 0 = x at *
          have HH := Lib.hid (show (x : Int) / 2 ^ r % 4294967296 = ((x / 2 ^ r % 4294967296 : Nat) : Int) by
            rw [Int.natCast_emod, Int.natCast_ediv, Int.natCast_pow]; rfl)
          go_wp2
          go_roundw
          case rel =>
            have h3 := HI.out
            exact ⟨k + 1, _, by omega, by go_num, ⟨by rw [List.length_set]; exact h3.1, h3.2.1.set k (Nat.mod_lt _ (by omega)), HS.out⟩, HR.out.set' k _ _ HH.out, HW.out.setCell (Nat.le_refl _) _⟩
          case measure => simp [intOf]; omega
      · go_wp2_with fail
        have h3 := HI.out
        obtain rfl : k = m := by omega
        have hU := HR.out.u32 h3.2.1 h3.1 (by simp only [maxLen]; omega)
        have hv : val 4294967296 os = N / 2 ^ s := by
          have h4 := h3.2.2
          rw [List.take_of_length_le (by omega), List.drop_eq_nil_of_le (by rw [HY.out.2.2]; exact Nat.le_refl _), HY.out.2.1, ← HP.out] at h4
          simpa using h4
        have hN : NumIn wr (some ⟨w.heap.size, 0, none⟩) k k (N / 2 ^ s) := ⟨os, hU, hv⟩
        refine (trim_num _ _ _ _ _ hN).mono ?_
        rintro e w' ⟨rfl, hT, rfl⟩
        have HT := Lib.hid hT
        clear hT hv hU h3 hN
        go_wp2
        go_ret2
        exact ⟨_, rfl, ⟨_, _, rfl, HT.out, fun a ha => by cases ha; exact Nat.le_refl _⟩, HW.out⟩

end Go.Proofs.Ytnldopjbiacbfaa
