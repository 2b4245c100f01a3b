/- The reference's minus. No condition. -/
import Derived.Test.YtnldopjbiacbfaaRef2
namespace Go.Proofs.Ytnldopjbiacbfaa
open Go.RowKit Anv

theorem minus_step (x y o : List Nat) (i r d r' : Nat) (hi : o.length = i) (h : val 65536 o + val 65536 (y.take i) = val 65536 (x.take i) + 65536 ^ i * r) (hd : d + y.getD i 0 + r = x.getD i 0 + 65536 * r') :
    val 65536 (o ++ [d]) + val 65536 (y.take (i + 1)) = val 65536 (x.take (i + 1)) + 65536 ^ (i + 1) * r' := by
  have h1 := sub_step 65536 x y (o ++ [0]) i r d r' (by simp; omega) (by rw [List.take_append_of_le_length (by omega), List.take_of_length_le (by omega)]; exact h) hd
  rw [List.take_of_length_le (by simp; omega)] at h1
  rw [← h1]
  congr 2
  rw [← hi, List.set_append_right _ _ (Nat.le_refl _)]
  simp

theorem minus_own {A B : Option Addr} {n c m d : Nat} {xs ys : List Nat} {w : World} (hx : U32 w A n c xs) (hy : U32 w B m d ys) (hdx : AllLt 65536 xs) (hdy : AllLt 65536 ys) (hn : n ≤ 1000000) (hle : val 65536 ys ≤ val 65536 xs) :
    Calls Try.prog 55 #[.slice A n c, .slice B m d] w fun e w' => ∃ v os, e = .returned v ∧ Own w.heap.size 74 w' v os ∧ os.length = n ∧ AllLt 65536 os ∧ val 65536 os = val 65536 xs - val 65536 ys ∧ Below w.heap.size w w' := by
  have HL := Lib.hid hle
  clear hle
  go_enter Try.func55, Try.ntmps55
  go_wp2
  go_loopw [5, 6, 7] (fun o cy i wr => ∃ (k r : Nat) (os : List Nat), k ≤ n ∧ i = .int .i64 k ∧ cy = .int .u32 r ∧ r ≤ 1 ∧
        Hid (os.length = k ∧ AllLt 65536 os ∧ val 65536 os + val 65536 (ys.take k) = val 65536 (xs.take k) + 65536 ^ k * r) ∧
        Hid (Own w.heap.size 74 wr o os) ∧ Hid (Below w.heap.size w wr)) (fun _ _ i _ => n - (intOf i).toNat)
  case atStart => exact ⟨0, 0, [], Nat.zero_le _, rfl, rfl, by omega, ⟨rfl, AllLt.nil _, by simp⟩, Own.nil _ _ _, Below.refl _ _⟩
  case round =>
    obtain ⟨k, r, os, hk, rfl, rfl, hr, HI, HO, HW⟩ := hrel
    by_cases hlx : k < n
    · obtain ⟨b, off, rfl, hwb, hcs⟩ := hx.cells (by omega)
      have hcx := (HW.out.cell (p := ⟨b, off + k, none⟩) hwb).trans (hcs k (by omega))
      have hxlt := hdx.get (by omega) k
      generalize hx : xs.getD k 0 = x at hcx hxlt
      have HX := Lib.hid hx
      clear hx hcs
      by_cases hly : k < m
      · obtain ⟨b2, off2, rfl, hwb2, hcs⟩ := hy.cells (by omega)
        have hcy := (HW.out.cell (p := ⟨b2, off2 + k, none⟩) hwb2).trans (hcs k (by omega))
        have hylt := hdy.get (by omega) k
        generalize hy : ys.getD k 0 = y at hcy hylt
        have HY := Lib.hid hy
        clear hy hcs
        by_cases hxy : x < r + y
        · go_wp2_with (at_builtin; refine wpList_append_new _ rfl (.tmp 36) (.tmp 40) 22 rfl 74 4 Try.underlying22 info_u32 w.heap.size _ os HO.out 1 _ [x + 65536 - (r + y)] (by simp [nums]; omega) rfl rfl rfl (by rw [HI.out.1]; simp only [maxLen]; omega) (by rw [HI.out.1]; omega) (HW.out.size) ?_; intro v1 w1 hO1 hs1 hB1; have HO1 := Lib.hid hO1; have HB1 := Lib.hid (hB1 _ _ (Nat.le_refl _) HW.out); clear hO1 hB1)
          go_roundw
          case rel =>
            have h3 := HI.out
            have h4 := minus_step xs ys os k r (x + 65536 - (r + y)) 1 h3.1 h3.2.2 (by rw [HX.out, HY.out]; omega)
            exact ⟨k + 1, 1, os ++ [x + 65536 - (r + y)], by omega, by go_num, rfl, by omega, ⟨by simp [h3.1], h3.2.1.append (AllLt.cons (by omega) (AllLt.nil _)), h4⟩, HO1.out, HB1.out⟩
          case measure => simp [intOf]; omega
        · go_wp2_with (at_builtin; refine wpList_append_new _ rfl (.tmp 36) (.tmp 40) 22 rfl 74 4 Try.underlying22 info_u32 w.heap.size _ os HO.out 1 _ [x - (r + y)] (by simp [nums]; omega) rfl rfl rfl (by rw [HI.out.1]; simp only [maxLen]; omega) (by rw [HI.out.1]; omega) (HW.out.size) ?_; intro v1 w1 hO1 hs1 hB1; have HO1 := Lib.hid hO1; have HB1 := Lib.hid (hB1 _ _ (Nat.le_refl _) HW.out); clear hO1 hB1)
          go_roundw
          case rel =>
            have h3 := HI.out
            have h4 := minus_step xs ys os k r (x - (r + y)) 0 h3.1 h3.2.2 (by rw [HX.out, HY.out]; omega)
            exact ⟨k + 1, 0, os ++ [x - (r + y)], by omega, by go_num, rfl, by omega, ⟨by simp [h3.1], h3.2.1.append (AllLt.cons (by omega) (AllLt.nil _)), h4⟩, HO1.out, HB1.out⟩
          case measure => simp [intOf]; omega
      · have hy0 : ys.getD k 0 = 0 := getD_ge (by rw [hy.len]; omega)
        have HY := Lib.hid hy0
        clear hy0
        by_cases hxy : x < r
        · go_wp2_with (at_builtin; refine wpList_append_new _ rfl (.tmp 36) (.tmp 40) 22 rfl 74 4 Try.underlying22 info_u32 w.heap.size _ os HO.out 1 _ [x + 65536 - (r)] (by simp [nums]; omega) rfl rfl rfl (by rw [HI.out.1]; simp only [maxLen]; omega) (by rw [HI.out.1]; omega) (HW.out.size) ?_; intro v1 w1 hO1 hs1 hB1; have HO1 := Lib.hid hO1; have HB1 := Lib.hid (hB1 _ _ (Nat.le_refl _) HW.out); clear hO1 hB1)
          go_roundw
          case rel =>
            have h3 := HI.out
            have h4 := minus_step xs ys os k r (x + 65536 - (r)) 1 h3.1 h3.2.2 (by rw [HX.out, HY.out]; omega)
            exact ⟨k + 1, 1, os ++ [x + 65536 - (r)], by omega, by go_num, rfl, by omega, ⟨by simp [h3.1], h3.2.1.append (AllLt.cons (by omega) (AllLt.nil _)), h4⟩, HO1.out, HB1.out⟩
          case measure => simp [intOf]; omega
        · go_wp2_with (at_builtin; refine wpList_append_new _ rfl (.tmp 36) (.tmp 40) 22 rfl 74 4 Try.underlying22 info_u32 w.heap.size _ os HO.out 1 _ [x - (r)] (by simp [nums]; omega) rfl rfl rfl (by rw [HI.out.1]; simp only [maxLen]; omega) (by rw [HI.out.1]; omega) (HW.out.size) ?_; intro v1 w1 hO1 hs1 hB1; have HO1 := Lib.hid hO1; have HB1 := Lib.hid (hB1 _ _ (Nat.le_refl _) HW.out); clear hO1 hB1)
          go_roundw
          case rel =>
            have h3 := HI.out
            have h4 := minus_step xs ys os k r (x - (r)) 0 h3.1 h3.2.2 (by rw [HX.out, HY.out]; omega)
            exact ⟨k + 1, 0, os ++ [x - (r)], by omega, by go_num, rfl, by omega, ⟨by simp [h3.1], h3.2.1.append (AllLt.cons (by omega) (AllLt.nil _)), h4⟩, HO1.out, HB1.out⟩
          case measure => simp [intOf]; omega
    · go_wp2
      go_ret
      have h3 := HI.out
      obtain rfl : k = n := by omega
      refine ⟨_, os, rfl, HO.out, h3.1, h3.2.1, ?_, HW.out⟩
      have e1 : os.take k = os := by rw [List.take_of_length_le (by omega)]
      exact sub_final xs ys os k r h3.2.1 h3.1 hx.len hdx hr (by rw [e1]; exact h3.2.2) HL.out

theorem minus_ref {A B : Option Addr} {n c m d : Nat} {xs ys : List Nat} {w : World} (hx : U32 w A n c xs) (hy : U32 w B m d ys) (hdx : AllLt 65536 xs) (hdy : AllLt 65536 ys) (hn : n ≤ 1000000) (hle : val 65536 ys ≤ val 65536 xs) :
    Calls Try.prog 55 #[.slice A n c, .slice B m d] w fun e w' => ∃ A' c' os, e = .returned (.slice A' n c') ∧ U32 w' A' n c' os ∧ AllLt 65536 os ∧ val 65536 os = val 65536 xs - val 65536 ys ∧ (∀ a, A' = some a → w.heap.size ≤ a.block) ∧ Below w.heap.size w w' := by
  refine (minus_own hx hy hdx hdy hn hle).mono ?_
  rintro e w' ⟨v, os, rfl, hO, hl, ha, hv, hb⟩
  obtain ⟨A', c', rfl, hU, hf⟩ := hO.u32 (wide ha)
  rw [hl] at hU ⊢
  exact ⟨A', c', os, rfl, hU, ha, hv, hf, hb⟩

end Go.Proofs.Ytnldopjbiacbfaa
