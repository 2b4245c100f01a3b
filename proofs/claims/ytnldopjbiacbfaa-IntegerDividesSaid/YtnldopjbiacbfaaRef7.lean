/- The reference: comparisons; digits out of limbs and back. No condition. -/
import Derived.Test.YtnldopjbiacbfaaRef6
namespace Go.Proofs.Ytnldopjbiacbfaa
open Go.RowKit Anv

theorem sign_bd (z : Int) : -1 ≤ z.sign ∧ z.sign ≤ 1 := by
  rcases Int.lt_trichotomy z 0 with h | h | h
  · rw [Int.sign_eq_neg_one_of_neg h]; omega
  · subst h; simp
  · rw [Int.sign_eq_one_of_pos h]; omega

/-- The reference's comparison, as it is reckoned. -/
theorem cmp_sign' (x y : Int) : (if x.sign ≠ y.sign then (if x.sign < y.sign then -1 else 1) else if x.sign < 0 then cmpI y.natAbs x.natAbs else cmpI x.natAbs y.natAbs) = (x - y).sign := by
  rw [← cmp_sign x y]
  unfold neg
  rcases Int.lt_trichotomy x 0 with h | h | h <;> rcases Int.lt_trichotomy y 0 with h' | h' | h'
  all_goals (try subst h); (try subst h')
  all_goals simp_all [Int.sign_eq_neg_one_of_neg, Int.sign_eq_one_of_pos, cmpI]
  all_goals (repeat' split) <;> omega

set_option maxHeartbeats 400000 in
theorem cmp_r {A B : Option Addr} {c d : Nat} {x y : Int} {w : World} (hx : RIn w A c x) (hy : RIn w B d y) :
    Calls Try.prog 14 #[.agg #[.bool (neg x), .slice A (dl x) c], .agg #[.bool (neg y), .slice B (dl y) d]] w fun e w' => e = .returned (.int .i64 (x - y).sign) ∧ Below w.heap.size w w' := by
  have hb1 := cmpI_bd x.natAbs y.natAbs
  have hb2 := cmpI_bd y.natAbs x.natAbs
  have hs1 := sign_bd x
  have hs2 := sign_bd y
  go_enter Try.func14, Try.ntmps14
  go_upto_region 1 with fail
  go_cut [5, 6] (fun s5 s6 wx => s5 = .int .i64 x.sign ∧ s6 = .int .i64 y.sign ∧ Box2 30 wx w.heap.size (.bool (neg x)) (.slice A (dl x) c) ∧ Box2 30 wx (w.heap.size + 1) (.bool (neg y)) (.slice B (dl y) d) ∧ Below w.heap.size w wx)
  case first =>
    go_region_held3 (fun w' => w'.cell? ⟨w.heap.size, 0, none⟩ = some (.bool (neg x)) ∧ w'.cell? ⟨w.heap.size, 1, none⟩ = some (.slice A (dl x) c) ∧ w'.cell? ⟨w.heap.size + 1, 0, none⟩ = some (.bool (neg y)) ∧ w'.cell? ⟨w.heap.size + 1, 1, none⟩ = some (.slice B (dl y) d)) (first | exact ⟨r0.c0, r0.c1, r1.c0, r1.c1⟩ | exact ⟨q0.c0, q0.c1, q1.c0, q1.c1⟩ | go_keep)
      (first | (go_at_call_of 12 (Value.agg #[Value.bool (neg x), Value.slice A (dl x) c]); refine (sign_r (z := x)).mono ?_; rintro e w1 ⟨rfl, hb⟩; obtain ⟨q0, q1, hbw, hsz⟩ := boxes2 (undrew hb)) | (go_at_call_of 12 (Value.agg #[Value.bool (neg y), Value.slice B (dl y) d]); refine (sign_r (z := y)).mono ?_; rintro e w2 ⟨rfl, hb2⟩; have r0 := q0.below hb2 q0.lt; have r1 := q1.below hb2 q1.lt; have hbw2 := thru hbw hb2))
    go_wp2_with fail
    go_meet
    case rel => exact ⟨rfl, rfl, r0, r1, hbw2⟩
  case rest =>
    obtain ⟨rfl, rfl, q0, q1, hbw⟩ := hcut
    have a0 := q0.c0
    have a1 := q0.c1
    have a2 := q1.c0
    have a3 := q1.c1
    by_cases hne : x.sign = y.sign
    · have hbt : (x.sign != y.sign) = false := by simp [hne]
      by_cases hlt : x.sign < 0
      · have e := cmp_sign' x y
        rw [if_neg (by simp [hne]), if_pos hlt] at e
        have HE := Lib.hid e
        clear e hne
        go_wp2_with fail
        refine (size_ref' (U32.below hy hbw) (U32.below hx hbw)).mono ?_
        rintro e w1 ⟨rfl, hb⟩
        go_wp2
        go_ret
        exact ⟨by rw [← HE.out]; rfl, thru hbw hb⟩
      · have e := cmp_sign' x y
        rw [if_neg (by simp [hne]), if_neg hlt] at e
        have HE := Lib.hid e
        clear e hne
        go_wp2_with fail
        refine (size_ref' (U32.below hx hbw) (U32.below hy hbw)).mono ?_
        rintro e w1 ⟨rfl, hb⟩
        go_wp2
        go_ret
        exact ⟨by rw [← HE.out]; rfl, thru hbw hb⟩
    · have hbt : (x.sign != y.sign) = true := by simp [hne]
      by_cases hlt : x.sign < y.sign
      · have e := cmp_sign' x y
        rw [if_pos hne, if_pos hlt] at e
        have HE := Lib.hid e
        clear e hne
        go_wp2
        go_ret
        exact ⟨by rw [← HE.out]; rfl, hbw⟩
      · have e := cmp_sign' x y
        rw [if_pos hne, if_neg hlt] at e
        have HE := Lib.hid e
        clear e hne
        go_wp2
        go_ret
        exact ⟨by rw [← HE.out]; rfl, hbw⟩

theorem same_r {A B : Option Addr} {c d : Nat} {x y : Int} {w : World} (hx : RIn w A c x) (hy : RIn w B d y) :
    Calls Try.prog 45 #[.agg #[.bool (neg x), .slice A (dl x) c], .agg #[.bool (neg y), .slice B (dl y) d]] w fun e w' => e = .returned (.bool ((x - y).sign == 0)) ∧ Below w.heap.size w w' := by
  go_enter Try.func45, Try.ntmps45
  go_wp2_with fail
  refine (cmp_r (hx.below (by exact below2 _ _ _)) (hy.below (by exact below2 _ _ _))).mono ?_
  rintro e w1 ⟨rfl, hb⟩
  go_wp2
  go_ret
  exact ⟨rfl, thru (below2 _ _ _) hb⟩

end Go.Proofs.Ytnldopjbiacbfaa
