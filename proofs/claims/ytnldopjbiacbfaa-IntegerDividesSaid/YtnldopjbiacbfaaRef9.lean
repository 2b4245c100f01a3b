/- The reference: limbs out of digits. No condition. -/
import Derived.Test.YtnldopjbiacbfaaRef8
namespace Go.Proofs.Ytnldopjbiacbfaa
open Go.RowKit Anv

/-- The first k limbs out of digits. -/
def prs (ds : List Nat) (k : Nat) : List Nat := (List.range k).map fun j => ds.getD (2 * j) 0 + 65536 * ds.getD (2 * j + 1) 0
theorem prs_succ (ds : List Nat) (k : Nat) : prs ds (k + 1) = prs ds k ++ [ds.getD (2 * k) 0 + 65536 * ds.getD (2 * k + 1) 0] := by
  simp [prs, List.range_succ]
theorem prs_len (ds : List Nat) (k : Nat) : (prs ds k).length = k := by simp [prs]
theorem prs_lt {ds : List Nat} (h : AllLt 65536 ds) (k : Nat) : AllLt 4294967296 (prs ds k) := by
  intro x hx
  simp [prs] at hx
  obtain ⟨j, _, rfl⟩ := hx
  have h1 := h.get (by omega) (2 * j)
  have h2 := h.get (by omega) (2 * j + 1)
  simp at h1 h2
  omega
theorem val_prs (ds : List Nat) (k : Nat) : val 4294967296 (prs ds k) = val 65536 (ds.take (2 * k)) := by
  induction k with
  | zero => simp [prs]
  | succ k ih =>
    rw [prs_succ, val_append, ih, prs_len, show 2 * (k + 1) = 2 * k + 1 + 1 from by omega, val_take_step, val_take_step, val_cons, val_nil, Nat.mul_zero, Nat.add_zero, Nat.mul_add, Nat.add_assoc]
    have e : (4294967296 : Nat) ^ k = 65536 ^ (2 * k) := by rw [Nat.pow_mul]
    rw [e, Nat.pow_succ, Nat.mul_assoc]
theorem prs_L {N k : Nat} (h1 : 2 * k ≤ dn N + 1) (h2 : dn N ≤ 2 * k) : prs (D N) k = L N := by
  have hv : val 4294967296 (prs (D N) k) = N := by
    rw [val_prs, List.take_of_length_le h2, val_D]
  have hn : Norm (prs (D N) k) := by
    rcases k with _ | k
    · simp [Norm, prs]
    · rw [prs_succ]
      unfold Norm
      rw [List.getLast?_concat]
      intro h3
      have h4 : (D N).getD (2 * k) 0 + 65536 * (D N).getD (2 * k + 1) 0 = 0 := by simpa using h3
      have h5 := dig_norm (b := 65536) (by omega) N
      unfold Norm at h5
      rw [List.getLast?_eq_getElem?] at h5
      have h6 : dn N = (dig 65536 N).length := rfl
      rcases Nat.lt_or_ge (2 * k + 1) (dn N) with h7 | h7
      · have h8 : (D N).getD (2 * k + 1) 0 = 0 := by omega
        have h9 : (dig 65536 N).length - 1 = 2 * k + 1 := by omega
        rw [h9] at h5
        apply h5
        rw [getD_lt (by exact h7)] at h8
        rw [List.getElem?_eq_getElem (by omega)]
        exact congrArg some h8
      · have h8 : (D N).getD (2 * k) 0 = 0 := by omega
        have h9 : (dig 65536 N).length - 1 = 2 * k := by omega
        rw [h9] at h5
        apply h5
        rw [getD_lt (by show 2 * k < dn N; omega)] at h8
        rw [List.getElem?_eq_getElem (by omega)]
        exact congrArg some h8
  rw [← L_of (prs_lt (D_lt N) k) hn, hv]

theorem limbs_r {A : Option Addr} {c : Nat} {z : Int} {w : World} (hz : RIn w A c z) (hn : dl z ≤ 1000000) :
    Calls Try.prog 49 #[.agg #[.bool (neg z), .slice A (dl z) c]] w fun e w' => ∃ A' c', e = .returned (.slice A' (zl z) c') ∧ ZIn w' A' c' z ∧ Below w.heap.size w w' := by
  go_enter Try.func49, Try.ntmps49
  go_wp2
  go_loopw [3, 4] (fun o i wr => ∃ k : Nat, 2 * k ≤ dl z + 1 ∧ i = .int .i64 ((2 * k : Nat) : Int) ∧ Hid (Own (w.heap.size + 1) 74 wr o (prs (D z.natAbs) k)) ∧ Hid (Below (w.heap.size + 1) (w.alloc (.cells #[.bool (neg z), .slice A (dl z) c] 30)) wr)) (fun _ i _ => dl z + 2 - (intOf i).toNat)
  case atStart => exact ⟨0, by omega, rfl, Own.nil _ _ _, Below.refl _ _⟩
  case round =>
    obtain ⟨k, hk, rfl, HO, HW⟩ := hrel
    have q := (Box2.new w 30 (.bool (neg z)) (.slice A (dl z) c)).below HW.out (Nat.lt_succ_self _)
    have a1 := q.c1
    clear q
    obtain ⟨i, hi⟩ : ∃ i, i = 2 * k := ⟨_, rfl⟩
    rw [← hi]
    have HI := Lib.hid hi
    by_cases hlt : i < dl z
    · obtain ⟨b1, off, rfl, hwb, hcs⟩ := hz.cells (by omega)
      have hcx := ((HW.out.cell (p := ⟨b1, off + i, none⟩) (by show b1 < _; omega)).trans (World.cell?_alloc_lt w _ ⟨b1, off + i, none⟩ hwb)).trans (hcs i hlt)
      have hxlt := (D_lt z.natAbs).get (by omega) i
      by_cases hlt2 : i + 1 < dl z
      · have hcy := ((HW.out.cell (p := ⟨b1, off + (i + 1), none⟩) (by show b1 < _; omega)).trans (World.cell?_alloc_lt w _ ⟨b1, off + (i + 1), none⟩ hwb)).trans (hcs (i + 1) hlt2)
        have hylt := (D_lt z.natAbs).get (by omega) (i + 1)
        generalize hx : (D z.natAbs).getD i 0 = x at hcx hxlt
        generalize hy : (D z.natAbs).getD (i + 1) 0 = y at hcy hylt
        have HX := Lib.hid hx
        have HY := Lib.hid hy
        clear hx hy hcs hi
        go_wp2_with (at_builtin; refine wpList_append_new _ rfl (.tmp 25) (.tmp 34) 22 rfl 74 4 Try.underlying22 info_u32 (w.heap.size + 1) _ (prs (D z.natAbs) k) HO.out 1 _ [x + 65536 * y] (by simp [nums]) rfl rfl rfl (by rw [prs_len]; simp only [maxLen]; omega) (by rw [prs_len]; omega) (by have := HW.out.size; simp at this; omega) ?_; intro v1 w1 hO1 hs1 hB1; have HO1 := Lib.hid hO1; have HB1 := Lib.hid (hB1 _ _ (Nat.le_refl _) HW.out); clear hO1 hB1)
        go_roundw
        case rel => exact ⟨k + 1, by have := HI.out; omega, by have := HI.out; go_num, by rw [prs_succ, ← HI.out, HX.out, HY.out]; exact HO1.out, HB1.out⟩
        case measure => simp [intOf]; omega
      · have hy : (D z.natAbs).getD (i + 1) 0 = 0 := getD_ge (by show dl z ≤ _; omega)
        generalize hx : (D z.natAbs).getD i 0 = x at hcx hxlt
        have HX := Lib.hid hx
        have HY := Lib.hid hy
        clear hx hy hcs hi
        go_wp2_with (at_builtin; refine wpList_append_new _ rfl (.tmp 25) (.tmp 34) 22 rfl 74 4 Try.underlying22 info_u32 (w.heap.size + 1) _ (prs (D z.natAbs) k) HO.out 1 _ [x] (by simp [nums]) rfl rfl rfl (by rw [prs_len]; simp only [maxLen]; omega) (by rw [prs_len]; omega) (by have := HW.out.size; simp at this; omega) ?_; intro v1 w1 hO1 hs1 hB1; have HO1 := Lib.hid hO1; have HB1 := Lib.hid (hB1 _ _ (Nat.le_refl _) HW.out); clear hO1 hB1)
        go_roundw
        case rel => exact ⟨k + 1, by have := HI.out; omega, by have := HI.out; go_num, by rw [prs_succ, ← HI.out, HX.out, HY.out]; exact HO1.out, HB1.out⟩
        case measure => simp [intOf]; omega
    · clear hi
      go_wp2
      go_ret
      have e := prs_L (N := z.natAbs) (k := k) (by show 2 * k ≤ dl z + 1; omega) (by show dl z ≤ 2 * k; have := HI.out; omega)
      have hO := HO.out
      rw [e] at hO
      obtain ⟨A', c', rfl, hU, _⟩ := hO.u32 (L_lt _)
      exact ⟨A', c', rfl, hU, (below1 w _).trans (HW.out.mono (Nat.le_succ _))⟩

end Go.Proofs.Ytnldopjbiacbfaa
