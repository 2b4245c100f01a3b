/- The reference's plus, minus. No condition. -/
import Derived.Test.YtnldopjbiacbfaaRef1
namespace Go.Proofs.Ytnldopjbiacbfaa
open Go.RowKit Anv

theorem plus_step (x y o : List Nat) (i c : Nat) (hi : o.length = i)
    (h : val 65536 o + 65536 ^ i * c = val 65536 (x.take i) + val 65536 (y.take i)) :
    val 65536 (o ++ [(c + x.getD i 0 + y.getD i 0) % 65536]) + 65536 ^ (i + 1) * ((c + x.getD i 0 + y.getD i 0) / 65536) = val 65536 (x.take (i + 1)) + val 65536 (y.take (i + 1)) := by
  have h1 := add_step 65536 x y (o ++ [0]) i c (by simp; omega) (by rw [List.take_append_of_le_length (by omega), List.take_of_length_le (by omega)]; exact h)
  rw [List.take_of_length_le (by simp; omega)] at h1
  rw [← h1]
  congr 2
  rw [← hi, List.set_append_right _ _ (Nat.le_refl _)]
  simp

theorem plus_ref {A B : Option Addr} {n c m d : Nat} {xs ys : List Nat} {w : World} (hx : U32 w A n c xs) (hy : U32 w B m d ys) (hdx : AllLt 65536 xs) (hdy : AllLt 65536 ys) (hn : n ≤ 1000000) (hm : m ≤ 1000000) :
    Calls Try.prog 54 #[.slice A n c, .slice B m d] w fun e w' => ∃ A' k c' os, e = .returned (.slice A' k c') ∧ U32 w' A' k c' os ∧ AllLt 65536 os ∧ k ≤ n + m + 2 ∧ val 65536 os = val 65536 xs + val 65536 ys ∧ Below w.heap.size w w' := by
  go_enter Try.func54, Try.ntmps54
  go_wp2
  go_loopw [5, 6, 7] (fun o cy i wr => ∃ (k cc : Nat) (os : List Nat), k ≤ max n m + 1 ∧ i = .int .i64 k ∧ cy = .int .u32 cc ∧ cc ≤ 1 ∧
        Hid ((k = max n m + 1 → cc = 0) ∧ os.length = k ∧ AllLt 65536 os ∧ val 65536 os + 65536 ^ k * cc = val 65536 (xs.take k) + val 65536 (ys.take k)) ∧
        Hid (Own w.heap.size 74 wr o os) ∧ Hid (Below w.heap.size w wr)) (fun _ _ i _ => max n m + 1 - (intOf i).toNat)
  case atStart => exact ⟨0, 0, [], Nat.zero_le _, rfl, rfl, by omega, ⟨fun _ => rfl, rfl, AllLt.nil _, by simp⟩, Own.nil _ _ _, Below.refl _ _⟩
  case round =>
    obtain ⟨k, cc, os, hk, rfl, rfl, hcc, HI, HO, HW⟩ := hrel
    by_cases hend : k < n ∨ k < m ∨ 0 < cc
    · have hkk : k < max n m + 1 := by
        rcases Nat.lt_or_ge k (max n m + 1) with h1 | h1
        · exact h1
        · have := HI.out.1 (by omega); omega
      by_cases hlx : k < n
      · by_cases hly : k < m
        · obtain ⟨b, off, rfl, hwb, hcs⟩ := hx.cells (by omega)
          have hcx := (HW.out.cell (p := ⟨b, off + k, none⟩) hwb).trans (hcs k (by omega))
          have hxlt := hdx.get (by omega) k
          generalize hx : xs.getD k 0 = x at hcx hxlt
          have HX := Lib.hid hx
          clear hx hcs
          obtain ⟨b2, off2, rfl, hwb2, hcs⟩ := hy.cells (by omega)
          have hcy := (HW.out.cell (p := ⟨b2, off2 + k, none⟩) hwb2).trans (hcs k (by omega))
          have hylt := hdy.get (by omega) k
          generalize hy : ys.getD k 0 = y at hcy hylt
          have HY := Lib.hid hy
          clear hy hcs
          go_wp2_with (at_builtin; refine wpList_append_new _ rfl (.tmp 44) (.tmp 47) 22 rfl 74 4 Try.underlying22 info_u32 w.heap.size _ os HO.out 1 _ [(cc + x + y) % 65536] (by simp [nums]) rfl rfl rfl (by rw [HI.out.2.1]; simp only [maxLen]; omega) (by rw [HI.out.2.1]; omega) (HW.out.size) ?_; intro v1 w1 hO1 hs1 hB1; have HO1 := Lib.hid hO1; have HB1 := Lib.hid (hB1 _ _ (Nat.le_refl _) HW.out); clear hO1 hB1)
          go_roundw
          case rel =>
            have h3 := HI.out
            have h4 := plus_step xs ys os k cc h3.2.1 h3.2.2.2
            rw [HX.out, HY.out] at h4
            exact ⟨k + 1, (cc + x + y) / 65536, os ++ [(cc + x + y) % 65536], by omega, by go_num, int_eq (by omega), by omega, ⟨fun _ => by omega, by simp [h3.2.1], h3.2.2.1.append (AllLt.cons (Nat.mod_lt _ (by omega)) (AllLt.nil _)), h4⟩, HO1.out, HB1.out⟩
          case measure => simp [intOf]; omega
        · obtain ⟨b, off, rfl, hwb, hcs⟩ := hx.cells (by omega)
          have hcx := (HW.out.cell (p := ⟨b, off + k, none⟩) hwb).trans (hcs k (by omega))
          have hxlt := hdx.get (by omega) k
          generalize hx : xs.getD k 0 = x at hcx hxlt
          have HX := Lib.hid hx
          clear hx hcs
          have hy0 : ys.getD k 0 = 0 := getD_ge (by rw [hy.len]; omega)
          have HY := Lib.hid hy0
          clear hy0
          go_wp2_with (at_builtin; refine wpList_append_new _ rfl (.tmp 44) (.tmp 47) 22 rfl 74 4 Try.underlying22 info_u32 w.heap.size _ os HO.out 1 _ [(cc + x) % 65536] (by simp [nums]) rfl rfl rfl (by rw [HI.out.2.1]; simp only [maxLen]; omega) (by rw [HI.out.2.1]; omega) (HW.out.size) ?_; intro v1 w1 hO1 hs1 hB1; have HO1 := Lib.hid hO1; have HB1 := Lib.hid (hB1 _ _ (Nat.le_refl _) HW.out); clear hO1 hB1)
          go_roundw
          case rel =>
            have h3 := HI.out
            have h4 := plus_step xs ys os k cc h3.2.1 h3.2.2.2
            rw [HX.out, HY.out, Nat.add_zero] at h4
            exact ⟨k + 1, (cc + x) / 65536, os ++ [(cc + x) % 65536], by omega, by go_num, int_eq (by omega), by omega, ⟨fun _ => by omega, by simp [h3.2.1], h3.2.2.1.append (AllLt.cons (Nat.mod_lt _ (by omega)) (AllLt.nil _)), h4⟩, HO1.out, HB1.out⟩
          case measure => simp [intOf]; omega
      · by_cases hly : k < m
        · have hx0 : xs.getD k 0 = 0 := getD_ge (by rw [hx.len]; omega)
          have HX := Lib.hid hx0
          clear hx0
          obtain ⟨b2, off2, rfl, hwb2, hcs⟩ := hy.cells (by omega)
          have hcy := (HW.out.cell (p := ⟨b2, off2 + k, none⟩) hwb2).trans (hcs k (by omega))
          have hylt := hdy.get (by omega) k
          generalize hy : ys.getD k 0 = y at hcy hylt
          have HY := Lib.hid hy
          clear hy hcs
          go_wp2_with (at_builtin; refine wpList_append_new _ rfl (.tmp 44) (.tmp 47) 22 rfl 74 4 Try.underlying22 info_u32 w.heap.size _ os HO.out 1 _ [(cc + y) % 65536] (by simp [nums]) rfl rfl rfl (by rw [HI.out.2.1]; simp only [maxLen]; omega) (by rw [HI.out.2.1]; omega) (HW.out.size) ?_; intro v1 w1 hO1 hs1 hB1; have HO1 := Lib.hid hO1; have HB1 := Lib.hid (hB1 _ _ (Nat.le_refl _) HW.out); clear hO1 hB1)
          go_roundw
          case rel =>
            have h3 := HI.out
            have h4 := plus_step xs ys os k cc h3.2.1 h3.2.2.2
            rw [HX.out, HY.out, Nat.add_zero] at h4
            exact ⟨k + 1, (cc + y) / 65536, os ++ [(cc + y) % 65536], by omega, by go_num, int_eq (by omega), by omega, ⟨fun _ => by omega, by simp [h3.2.1], h3.2.2.1.append (AllLt.cons (Nat.mod_lt _ (by omega)) (AllLt.nil _)), h4⟩, HO1.out, HB1.out⟩
          case measure => simp [intOf]; omega
        · have hcc1 : 0 < cc := by omega
          have hx0 : xs.getD k 0 = 0 := getD_ge (by rw [hx.len]; omega)
          have HX := Lib.hid hx0
          clear hx0
          have hy0 : ys.getD k 0 = 0 := getD_ge (by rw [hy.len]; omega)
          have HY := Lib.hid hy0
          clear hy0
          go_wp2_with (at_builtin; refine wpList_append_new _ rfl (.tmp 44) (.tmp 47) 22 rfl 74 4 Try.underlying22 info_u32 w.heap.size _ os HO.out 1 _ [(cc) % 65536] (by simp [nums]) rfl rfl rfl (by rw [HI.out.2.1]; simp only [maxLen]; omega) (by rw [HI.out.2.1]; omega) (HW.out.size) ?_; intro v1 w1 hO1 hs1 hB1; have HO1 := Lib.hid hO1; have HB1 := Lib.hid (hB1 _ _ (Nat.le_refl _) HW.out); clear hO1 hB1)
          go_roundw
          case rel =>
            have h3 := HI.out
            have h4 := plus_step xs ys os k cc h3.2.1 h3.2.2.2
            rw [HX.out, HY.out, Nat.add_zero, Nat.add_zero] at h4
            exact ⟨k + 1, (cc) / 65536, os ++ [(cc) % 65536], by omega, by go_num, int_eq (by omega), by omega, ⟨fun _ => by omega, by simp [h3.2.1], h3.2.2.1.append (AllLt.cons (Nat.mod_lt _ (by omega)) (AllLt.nil _)), h4⟩, HO1.out, HB1.out⟩
          case measure => simp [intOf]; omega
    · go_wp2
      go_ret
      have h3 := HI.out
      obtain ⟨A', c', rfl, hU, hf⟩ := HO.out.u32 (wide h3.2.2.1)
      refine ⟨A', os.length, c', os, rfl, hU, h3.2.2.1, by rw [h3.2.1]; omega, ?_, HW.out⟩
      have h4 := h3.2.2.2
      rw [show cc = 0 from by omega, List.take_of_length_le (by rw [hx.len]; omega), List.take_of_length_le (by rw [hy.len]; omega)] at h4
      simpa using h4

end Go.Proofs.Ytnldopjbiacbfaa
