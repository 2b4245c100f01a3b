/- integer.Times, Small. No condition. -/
import Derived.Test.YtnldopjbiacbfaaInt5
namespace Go.Proofs.Ytnldopjbiacbfaa
open Go.RowKit Anv

theorem zl_small {n : Int} (h1 : -9223372036854775808 ≤ n) (h2 : n ≤ 9223372036854775807) : zl n ≤ 2 := nl_le_of_lt (by omega)

theorem times_z {A : Option Addr} {c : Nat} {x n : Int} {w : World} (hx : ZIn w A c x) (hn : zl x ≤ 1000000) (h1 : -9223372036854775808 ≤ n) (h2 : n ≤ 9223372036854775807) :
    Calls Try.prog 26 #[.agg #[.bool (neg x), .slice A (zl x) c], .int .i64 n] w fun e w' => ∃ v, e = .returned v ∧ ZAt w' v (x * n) ∧ Below w.heap.size w w' := by
  have hm : zl n ≤ 1000000 := by have := zl_small h1 h2; omega
  go_enter Try.func26, Try.ntmps26
  go_wp2_with fail
  go_region_held3 (fun w' => w'.cell? ⟨w.heap.size, 0, none⟩ = some (.bool (neg x)) ∧ w'.cell? ⟨w.heap.size, 1, none⟩ = some (.slice A (zl x) c)) (first | exact ⟨q0.c0, q0.c1⟩ | exact ⟨r0.c0, r0.c1⟩ | exact ⟨(r0.far2 (by omega) _ _).c0, (r0.far2 (by omega) _ _).c1⟩ | go_keep)
    (first | (go_at_call 31; refine (of_z h1 h2).mono ?_; rintro e w1 ⟨v, rfl, ⟨A1, c1, rfl, hz1⟩, hb⟩; obtain ⟨q0, q1, hbw, hs⟩ := boxes2 (undrew hb)) | (go_at_call 24; refine (mul_z (ZIn.below hx hbw) hz1 hn hm).mono ?_; rintro e w2 ⟨v2, rfl, ⟨A2, c2, rfl, hz2⟩, hb2⟩; have r0 := q0.below hb2 q0.lt; have r1 := q1.below hb2 q1.lt; have hc0 := r1.c0; have hc1 := r1.c1; have hf0 := r1.f 0; have hf1 := r1.f 1; have hs2 : w.heap.size + 1 < w2.heap.size := by have := hb2.size; omega))
  go_wp2
  exact bodyPost_ret (v := .agg #[.bool (neg (x * n)), .slice A2 (zl (x * n)) c2]) (by simp [results, Try.results26, go_sem, hc0, hc1]) rfl ⟨_, rfl, ⟨_, _, rfl, U32.store2 hz2 hc0 hc1 _ _⟩, below_store2 (thru hbw hb2) (by omega) _ _⟩

theorem or_lo (x : Nat) (hx : x < 18446744073709551616) : bits .or .u64 0 (x : Int) = (x : Int) := by
  have := u64_or_nat 0 x (by omega) hx
  rw [Nat.zero_or] at this
  exact this
theorem or_hi (m x : Nat) (hm : m < 4294967296) (hx : x < 4294967296) : bits .or .u64 (m : Int) ((x : Int) * 4294967296) = ((m + 4294967296 * x : Nat) : Int) := by
  have h := u64_or_nat m (x * 4294967296) (by omega) (by omega)
  rw [Int.natCast_mul] at h
  rw [show ((4294967296 : Nat) : Int) = 4294967296 from rfl] at h
  rw [h]
  have h2 := Nat.two_pow_add_eq_or_of_lt (i := 32) (b := m) (by omega) x
  rw [show (2 : Nat) ^ 32 = 4294967296 from rfl] at h2
  rw [Nat.or_comm, Nat.mul_comm x, ← h2, Nat.add_comm]

/-- What Small answers. -/
def smallV (z : Int) : Value := if -9223372036854775808 ≤ z ∧ z ≤ 9223372036854775807 then .tuple #[.int .i64 z, .bool true] else .tuple #[.int .i64 0, .bool false]
theorem smallV_yes {z : Int} (h1 : -9223372036854775808 ≤ z) (h2 : z ≤ 9223372036854775807) : smallV z = .tuple #[.int .i64 z, .bool true] := if_pos ⟨h1, h2⟩
theorem smallV_no {z : Int} (h : z < -9223372036854775808 ∨ 9223372036854775807 < z) : smallV z = .tuple #[.int .i64 0, .bool false] := if_neg (by omega)
theorem neg_true {z : Int} (h : neg z = true) : z < 0 := by unfold neg at h; simpa using h
theorem neg_false {z : Int} (h : neg z = false) : 0 ≤ z := by unfold neg at h; simpa using h
theorem back_neg (m : Nat) (h : m ≤ 9223372036854775808) : wrap64 (IntKind.u64.wrap (-(m : Int))) = -(m : Int) := by
  unfold wrap64; rw [IntKind.wrap_u64]; omega

set_option maxRecDepth 100000 in
theorem small_neg {A : Option Addr} {c : Nat} {z : Int} {w : World} (hz : ZIn w A c z) (hneg : z < 0) :
    Calls Try.prog 46 #[.agg #[.bool (neg z), .slice A (zl z) c]] w fun e w' => e = .returned (smallV z) ∧ Below w.heap.size w w' := by
  have hbig := hz.big
  have hcap := hz.cap
  unfold maxLen at hbig
  by_cases h2 : 2 < zl z
  · have hne : smallV z = .tuple #[.int .i64 0, .bool false] := smallV_no (by
      rcases Int.lt_or_le z (-9223372036854775808) with h | h
      · exact .inl h
      · rcases Int.lt_or_le 9223372036854775807 z with h' | h'
        · exact .inr h'
        · have := zl_small h h'; omega)
    rw [hne]
    clear hne
    go_enter Try.func46, Try.ntmps46
    go_wp2
    go_ret2
    exact ⟨rfl, below1 _ _⟩
  · have hbx : neg z = true := by unfold neg; simpa using hneg
    rw [hbx]
    clear hbx
    go_enter Try.func46, Try.ntmps46
    go_wp2
    go_loop [4, 14] (fun u i => ∃ (k m : Nat), k ≤ zl z ∧ i = .int .i64 k ∧ u = .int .u64 m ∧ m < 18446744073709551616 ∧ Hid (m = val 4294967296 ((L z.natAbs).take k))) (fun _ i => zl z - (intOf i).toNat)
    case atStart => exact ⟨0, 0, Nat.zero_le _, rfl, rfl, by omega, by show _ = _; simp⟩
    case round =>
      obtain ⟨k, m, hk, rfl, rfl, hm, HM⟩ := hrel
      by_cases hlt : k < zl z
      · obtain ⟨b, off, rfl, hbw, hcs⟩ := hz.cells (by omega)
        have hcx := hcs k hlt
        have hxlt := (L_lt z.natAbs).get (by omega) k
        generalize hx : (L z.natAbs).getD k 0 = x at hcx hxlt
        have HV := Lib.hid hx
        clear hx hcs
        rcases k with _ | k
        · have hm0 : m = 0 := by have := HM.out; simpa using this
          subst hm0
          rw [Nat.add_zero] at hcx
          have ho := or_lo x (by omega)
          have HO := Lib.hid ho
          clear ho
          go_wp2
          go_round
          case rel =>
            refine ⟨1, x, hlt, rfl, int_eq HO.out, by omega, ?_⟩
            show x = _
            rw [val_take_step, HV.out]; simp
          case measure => simp [intOf]; omega
        · obtain rfl : k = 0 := by omega
          have hm32 : m < 4294967296 := by
            have h5 := HM.out
            have h6 := (L_lt z.natAbs).get (b := 4294967296) (by omega) 0
            rw [val_take_step] at h5
            simp at h5; simp at h6; omega
          have ho := or_hi m x hm32 hxlt
          have HO := Lib.hid ho
          clear ho
          go_wp2
          go_round
          case rel =>
            refine ⟨2, m + 4294967296 * x, hlt, rfl, int_eq HO.out, by omega, ?_⟩
            show m + 4294967296 * x = _
            rw [val_take_step _ _ (0 + 1), HV.out, ← HM.out]
          case measure => simp [intOf]; omega
      · have hfull : m = z.natAbs := by
          have h5 := HM.out
          rw [List.take_of_length_le (by show zl z ≤ k; omega), val_L] at h5
          exact h5
        have HF := Lib.hid hfull
        have HM2 := Lib.hid hm
        clear hfull hm
        by_cases hc : m ≤ 9223372036854775808
        · go_wp2
          go_ret2
          refine ⟨?_, below1 _ _⟩
          have e : z = -(m : Int) := by rw [HF.out]; omega
          rw [smallV_yes (by omega) (by omega)]
          show Ending.returned (.tuple #[.int .i64 (wrap64 (IntKind.u64.wrap (-(m : Int)))), .bool true]) = _
          rw [back_neg m hc, ← e]
        · go_wp2
          go_ret2
          refine ⟨?_, below1 _ _⟩
          have e : z = -(m : Int) := by rw [HF.out]; omega
          rw [smallV_no (by omega)]
          rfl

end Go.Proofs.Ytnldopjbiacbfaa
