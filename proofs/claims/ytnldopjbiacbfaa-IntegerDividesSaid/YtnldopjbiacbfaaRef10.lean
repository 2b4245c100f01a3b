/- The reference: small numbers, products. No condition. -/
import Derived.Test.YtnldopjbiacbfaaRef9
namespace Go.Proofs.Ytnldopjbiacbfaa
open Go.RowKit Anv

theorem D_pos {N : Nat} (h : 0 < N) : D N = (N % 65536) :: D (N / 65536) := dig_pos (by omega) h
theorem dn_le_of_lt {N k : Nat} (h : N < 65536 ^ k) : dn N ≤ k := dig_len_of_lt (by omega) h

theorem of_r {n : Int} {w : World} (h1 : -9223372036854775808 ≤ n) (h2 : n ≤ 9223372036854775807) :
    Calls Try.prog 27 #[.int .i64 n] w fun e w' => ∃ v, e = .returned v ∧ RAt w' v n ∧ Below w.heap.size w w' := by
  obtain ⟨N, hN⟩ : ∃ N, N = n.natAbs := ⟨_, rfl⟩
  have hNN : N < 18446744073709551616 := by omega
  have hdn : dn N ≤ 4 := dn_le_of_lt (by omega)
  have HN := Lib.hid hN
  have key : ∀ (b : Bool), b = decide (n < 0) → sg b N = n := by
    intro b hb
    subst hb hN
    by_cases h : n < 0 <;> simp [sg, h] <;> omega
  by_cases hn : n < 0
  · have hw : IntKind.u64.wrap (-IntKind.u64.wrap n) = (N : Int) := by rw [IntKind.wrap_u64, IntKind.wrap_u64]; omega
    have HK := Lib.hid (key true (by simp [hn]))
    clear key hN
    go_enter Try.func27, Try.ntmps27
    go_wp2
    go_loopw [3, 4] (fun u o wr => ∃ (m : Nat) (os : List Nat), m ≤ N ∧ u = .int .u64 m ∧ Hid (D N = os ++ D m) ∧ Hid (Own (w.heap.size + 1) 74 wr o os) ∧ Hid (Below (w.heap.size + 1) (w.alloc (.cells #[.bool false, .slice none 0 0] 30)) wr)) (fun u _ _ => (intOf u).toNat)
    case atStart => exact ⟨N, [], Nat.le_refl _, rfl, by show D N = [] ++ D N; rfl, Own.nil _ _ _, Below.refl _ _⟩
    case round =>
      obtain ⟨m, os, hm, rfl, HD, HO, HW⟩ := hrel
      have hol : os.length ≤ 4 := by
        have h5 : (D N).length ≤ 4 := hdn
        rw [HD.out, List.length_append] at h5; omega
      by_cases hpos : 0 < m
      · go_wp2_with (at_builtin; refine wpList_append_new _ rfl (.tmp 13) (.tmp 17) 22 rfl 74 4 Try.underlying22 info_u32 (w.heap.size + 1) _ os HO.out 1 _ [m % 65536] (by simp [nums]; try omega) rfl rfl rfl (by simp only [maxLen]; omega) (by omega) (by have := HW.out.size; simp at this; omega) ?_; intro v1 w1 hO1 hs1 hB1; have HO1 := Lib.hid hO1; have HB1 := Lib.hid (hB1 _ _ (Nat.le_refl _) HW.out); clear hO1 hB1)
        go_roundw
        case rel => exact ⟨m / 65536, os ++ [m % 65536], by omega, int_eq (by omega), by show D N = _; rw [HD.out, D_pos hpos]; simp, HO1.out, HB1.out⟩
        case measure => simp [intOf]; omega
      · have hm0 : m = 0 := by omega
        have e : os = D N := by rw [HD.out, hm0, D_zero, List.append_nil]
        subst e
        clear HD
        obtain ⟨A1, c1, rfl, hU, hf⟩ := HO.out.u32 (wide (D_lt N))
        have q := (Box2.new w 30 (.bool false) (.slice none 0 0)).below HW.out (Nat.lt_succ_self _)
        go_wp2_with fail
        refine (norm_num' hU).mono ?_
        rintro e w2 ⟨rfl, hz, hb⟩
        have q2 := q.below hb q.lt
        have hc0 := q2.c0
        have hc1 := q2.c1
        have hf0 := q2.f 0
        have hf1 := q2.f 1
        have hs := q2.lt
        rw [HK.out] at hz ⊢
        go_wp2
        exact bodyPost_ret (v := .agg #[.bool (neg n), .slice A1 (dl n) c1]) (by simp [results, Try.results27, go_sem, hc0, hc1]) rfl
          ⟨_, rfl, ⟨_, _, rfl, U32.store2 hz hc0 hc1 _ _⟩, below_store2 (thru (w := w) (W := wr) ((below1 w _).trans (HW.out.mono (Nat.le_succ _))) hb) (Nat.le_refl _) _ _⟩
  · obtain ⟨N', rfl⟩ : ∃ N' : Nat, n = (N' : Int) := ⟨n.natAbs, by omega⟩
    obtain rfl : N = N' := by omega
    have HK := Lib.hid (key false (by simp))
    clear key hN
    go_enter Try.func27, Try.ntmps27
    go_wp2
    go_loopw [3, 4] (fun u o wr => ∃ (m : Nat) (os : List Nat), m ≤ N ∧ u = .int .u64 m ∧ Hid (D N = os ++ D m) ∧ Hid (Own (w.heap.size + 1) 74 wr o os) ∧ Hid (Below (w.heap.size + 1) (w.alloc (.cells #[.bool false, .slice none 0 0] 30)) wr)) (fun u _ _ => (intOf u).toNat)
    case atStart => exact ⟨N, [], Nat.le_refl _, rfl, by show D N = [] ++ D N; rfl, Own.nil _ _ _, Below.refl _ _⟩
    case round =>
      obtain ⟨m, os, hm, rfl, HD, HO, HW⟩ := hrel
      have hol : os.length ≤ 4 := by
        have h5 : (D N).length ≤ 4 := hdn
        rw [HD.out, List.length_append] at h5; omega
      by_cases hpos : 0 < m
      · go_wp2_with (at_builtin; refine wpList_append_new _ rfl (.tmp 13) (.tmp 17) 22 rfl 74 4 Try.underlying22 info_u32 (w.heap.size + 1) _ os HO.out 1 _ [m % 65536] (by simp [nums]; try omega) rfl rfl rfl (by simp only [maxLen]; omega) (by omega) (by have := HW.out.size; simp at this; omega) ?_; intro v1 w1 hO1 hs1 hB1; have HO1 := Lib.hid hO1; have HB1 := Lib.hid (hB1 _ _ (Nat.le_refl _) HW.out); clear hO1 hB1)
        go_roundw
        case rel => exact ⟨m / 65536, os ++ [m % 65536], by omega, int_eq (by omega), by show D N = _; rw [HD.out, D_pos hpos]; simp, HO1.out, HB1.out⟩
        case measure => simp [intOf]; omega
      · have hm0 : m = 0 := by omega
        have e : os = D N := by rw [HD.out, hm0, D_zero, List.append_nil]
        subst e
        clear HD
        obtain ⟨A1, c1, rfl, hU, hf⟩ := HO.out.u32 (wide (D_lt N))
        have q := (Box2.new w 30 (.bool false) (.slice none 0 0)).below HW.out (Nat.lt_succ_self _)
        go_wp2_with fail
        rw [show decide ((N : Int) < 0) = false from by simp]
        refine (norm_num' hU).mono ?_
        rintro e w2 ⟨rfl, hz, hb⟩
        have q2 := q.below hb q.lt
        have hc0 := q2.c0
        have hc1 := q2.c1
        have hf0 := q2.f 0
        have hf1 := q2.f 1
        have hs := q2.lt
        rw [HK.out] at hz ⊢
        go_wp2
        exact bodyPost_ret (v := .agg #[.bool (neg (N : Int)), .slice A1 (dl (N : Int)) c1]) (by simp [results, Try.results27, go_sem, hc0, hc1]) rfl
          ⟨_, rfl, ⟨_, _, rfl, U32.store2 hz hc0 hc1 _ _⟩, below_store2 (thru (w := w) (W := wr) ((below1 w _).trans (HW.out.mono (Nat.le_succ _))) hb) (Nat.le_refl _) _ _⟩

end Go.Proofs.Ytnldopjbiacbfaa
