/- The walk of IntegerPowers: whatever number and whatever exponent, the answer is true and nothing that was there is written. No condition. Printed by tools/gen_powers.py. -/
import Derived.Test.YtnldopjbiacbfaaPow2
import Derived.Test.YtnldopjbiacbfaaPowLaw
import Derived.Deep.RegionHeld3
namespace Go.Proofs.Ytnldopjbiacbfaa
open Go.RowKit Anv

theorem Z0 (w : World) : ZIn w none 0 0 := ⟨by show (L 0).length = zl 0; rw [L_zero, zl_zero]; rfl, by rw [zl_zero]; exact Nat.le_refl _, by simp [maxLen], L_lt _, fun hp => by rw [zl_zero] at hp; omega⟩

theorem is_same {A B : Option Addr} {c d : Nat} {z y : Int} {w : World} (hx : ZIn w A c z) (hy : RIn w B d y) (h : y = z) (hn : zl z ≤ 1000000) (hm : dl z ≤ 1000000) :
    Calls Try.prog 15 #[.agg #[.bool (neg z), .slice A (zl z) c], .agg #[.bool (neg y), .slice B (dl y) d]] w fun e w' => e = .returned (.bool true) ∧ Below w.heap.size w w' := by
  subst h; exact is_true hx hy hn hm

theorem pow_rI {A : Option Addr} {c n : Nat} {x e : Int} {w : World} (h : RIn w A c x) (hn : n ≤ 100) (hx : dl x ≤ 1000) (he : e = n) :
    Calls Try.prog 35 #[.agg #[.bool (neg x), .slice A (dl x) c], .int .i64 e] w fun e w' => ∃ v, e = .returned v ∧ RAt w' v (x ^ n) ∧ Below w.heap.size w w' := by
  subst he; exact pow_r h hn hx

theorem pow_tiny {A : Option Addr} {c n : Nat} {x : Int} {w : World} (hx : ZIn w A c x) (hN : zl x ≤ 1000) (hn : n ≤ 9223372036854775807) (hb : blen x.natAbs ≤ 1) (hl : blen x.natAbs = 1 → n ≤ 65536) :
    Calls Try.prog 32 #[.agg #[.bool (neg x), .slice A (zl x) c], .int .i64 n] w fun r w' => ∃ v, r = .returned (.tuple #[v, .int .i64 0]) ∧ ZAt w' v (x ^ n) ∧ Below w.heap.size w w' := by
  rcases tiny hb with rfl | rfl | rfl
  · by_cases h0 : n = 0
    · exact pow_zero_a hx hN hn blen_zero rfl (by simp [h0]) (by rw [h0]; rfl)
    · exact pow_zero_d hx hN hn blen_zero rfl (by simp [h0]) (by decide) (zero_pow h0)
  · by_cases h0 : n = 0
    · exact pow_one_a hx hN (hl (by decide)) (by decide) rfl (by simp [h0]) (one_pow n)
    · exact pow_one_d hx hN (hl (by decide)) (by decide) rfl (by simp [h0]) (by decide) (one_pow n)
  · by_cases h0 : n = 0
    · exact pow_one_a hx hN (hl (by decide)) (by decide) rfl (by simp [h0]) (by rw [h0]; rfl)
    · by_cases h2 : n % 2 = 0
      · exact pow_one_b hx hN (hl (by decide)) (by decide) rfl (by simp [h0]) (by decide) (by simp; omega) (by rw [mone_pow, if_pos h2])
      · exact pow_one_c hx hN (hl (by decide)) (by decide) rfl (by simp [h0]) (by decide) (by simp; omega) (by rw [mone_pow, if_neg h2])

theorem tiny_len {x : Int} (h : blen x.natAbs ≤ 1) (n : Nat) : zl (x ^ n) ≤ 1000000 ∧ dl (x ^ n) ≤ 1000000 := by
  have : x ^ n = 0 ∨ x ^ n = 1 ∨ x ^ n = -1 := by
    rcases tiny h with rfl | rfl | rfl
    · by_cases h0 : n = 0
      · subst h0; exact .inr (.inl rfl)
      · exact .inl (zero_pow h0)
    · exact .inr (.inl (one_pow n))
    · rw [mone_pow]
      by_cases h2 : n % 2 = 0
      · rw [if_pos h2]; exact .inr (.inl rfl)
      · rw [if_neg h2]; exact .inr (.inr rfl)
  rcases this with e | e | e
  · rw [e, zl_zero, dl_zero]; omega
  · rw [e, zl_one, dl_one]; omega
  · rw [e, zl_neg, dl_neg, zl_one, dl_one]; omega

set_option maxRecDepth 100000 in
set_option maxHeartbeats 8000000 in
theorem powers_short {b0 : Bool} {A0 : Option Addr} {n0 c0 : Nat} {xs0 : List Nat} {i0 : Int} {w : World} (h0 : U32 w A0 n0 c0 xs0) (hs0 : n0 ≤ 60) (hi0 : -9223372036854775808 ≤ i0) (hj0 : i0 ≤ 9223372036854775807) :
    Calls Try.prog 5 #[.agg #[.bool b0, .slice A0 n0 c0], .int .i64 i0] w fun e w' => e = .returned (.bool true) ∧ Below w.heap.size w w' := by
  go_enter Try.func5, Try.ntmps5
  go_wp2_with fail
  refine (live_true _).mono ?_
  rintro e w1 ⟨rfl, hb⟩
  obtain ⟨q0, bw, hs⟩ := boxes1 hb
  clear hb hs
  have a0 := q0.c0
  have a1 := q0.c1
  go_wp2_with fail
  refine (long1 (Nat.le_trans h0.cap h0.big) false (by simp; omega)).mono ?_
  rintro e w2 ⟨rfl, hb⟩
  replace q0 := q0.below hb q0.lt
  replace bw := thru bw hb
  clear a0 a1 hb
  have a0 := q0.c0
  have a1 := q0.c1
  go_wp2_with fail
  refine (of_some (h0.below bw) hs0).mono ?_
  rintro e w3 ⟨x, A5, A6, c5, c6, rfl, zx, zp, lx, lp, hb⟩
  replace bw := thru bw hb
  clear a0 a1 hb q0
  have k := boxes2 (Below.refl _ ((w3.alloc (.cells #[.bool (neg x), .slice A5 (zl x) c5] 28)).alloc (.cells #[.bool (neg x), .slice A6 (dl x) c6] 30)))
  have k5 := k.1
  have k6 := k.2.1
  replace zx := zx.below k.2.2.1
  replace zp := zp.below k.2.2.1
  replace bw := thru bw k.2.2.1
  clear k
  go_upto_region 6 with fail
  generalize (w3.alloc (.cells #[.bool (neg x), .slice A5 (zl x) c5] 28)).alloc (.cells #[.bool (neg x), .slice A6 (dl x) c6] 30) = w5 at *
  have K6 := Lib.hid k6
  have ZP := Lib.hid zp
  clear k6 zp
  have a0 := k5.c0
  have a1 := k5.c1

  by_cases hneg : i0 < 0
  · go_wp2_with fail
    refine (pow_neg hi0 hneg).mono ?_
    rintro e w6 ⟨rfl, hb⟩
    go_wp2_with fail
    refine (zero_true (Z0 _)).mono ?_
    rintro e w7 ⟨rfl, hb7⟩
    go_wp2
    go_ret
    exact ⟨rfl, thru (thru bw hb) (thru (below1 _ _) hb7)⟩
  · obtain ⟨n, rfl⟩ : ∃ n : Nat, i0 = n := ⟨i0.toNat, by omega⟩
    clear hneg hi0
    obtain ⟨b, hb⟩ : ∃ b, b = blen x.natAbs := ⟨_, rfl⟩
    have HB := Lib.hid hb
    clear hb
    by_cases hl : 0 < b ∧ (65536 : Int) / b < n
    · obtain ⟨hl1, hl2⟩ := hl
      go_wp2_with fail
      refine (pow_long zx (by omega) (by omega) hj0 HB.out.symm hl1 hl2).mono ?_
      rintro e w6 ⟨rfl, hb⟩
      have k6 := (K6.out.below hb K6.out.lt).alloc (.cells #[.bool false, .slice none 0 0] 28)
      have zp := (ZP.out.below hb).below (below1 _ (.cells #[.bool false, .slice none 0 0] 28))
      have k7 := Box2.new w6 28 (.bool false) (.slice none 0 0)
      replace bw := (thru bw hb).alloc (thru bw hb).size (.cells #[.bool false, .slice none 0 0] 28)
      clear a0 a1 hb
      have a0 := k6.c0
      have a1 := k6.c1
      go_wp2_with fail
      refine (bits_r zp (by omega)).mono ?_
      rintro e w8 ⟨rfl, hb⟩
      rw [← HB.out]
      replace k7 := k7.below hb k7.lt
      replace bw := thru bw hb
      clear a0 a1 hb
      have a0 := k7.c0
      have a1 := k7.c1
      have hbi : (0 : Int) < b := by omega
      go_wp2_with fail
      refine (zero_true (Z0 _)).mono ?_
      rintro e w9 ⟨rfl, hb⟩
      go_wp2
      go_ret
      exact ⟨rfl, thru bw hb⟩

    · by_cases hb2 : 2 ≤ b
      · have hbi : (0 : Int) < b := by omega
        have hle : (n : Int) ≤ 65536 / b := by omega
        have hmul : n * b ≤ 65536 := by
          have := (Int.le_ediv_iff_mul_le hbi).1 hle
          rw [← Int.natCast_mul] at this
          generalize n * b = q at this ⊢
          omega
        have hn : n ≤ 65536 := Nat.le_trans (Nat.le_mul_of_pos_right n (by omega)) hmul
        clear hl hj0
        go_wp2_with fail
        refine (pow_big zx (by omega) hn HB.out.symm hb2 hle (fun j hj => Nat.le_trans (zl_pow_big HB.out.symm hmul hj) (by omega))).mono ?_
        rintro e w6 ⟨v, rfl, ⟨A7, c7, rfl, zo⟩, hb⟩
        have k6 := (K6.out.below hb K6.out.lt).alloc (.cells #[.bool (neg (x ^ n)), .slice A7 (zl (x ^ n)) c7] 28)
        have zp := (ZP.out.below hb).below (below1 _ (.cells #[.bool (neg (x ^ n)), .slice A7 (zl (x ^ n)) c7] 28))
        have k7 := Box2.new w6 28 (.bool (neg (x ^ n))) (.slice A7 (zl (x ^ n)) c7)
        replace bw := (thru bw hb).alloc (thru bw hb).size (.cells #[.bool (neg (x ^ n)), .slice A7 (zl (x ^ n)) c7] 28)
        replace zo := zo.below (below1 w6 (.cells #[.bool (neg (x ^ n)), .slice A7 (zl (x ^ n)) c7] 28))
        clear a0 a1 hb
        have a0 := k6.c0
        have a1 := k6.c1
        go_wp2_with fail
        refine (bits_r zp (by omega)).mono ?_
        rintro e w8 ⟨rfl, hb⟩
        rw [← HB.out]
        replace k6 := k6.below hb k6.lt
        replace k7 := k7.below hb k7.lt
        replace zp := zp.below hb
        replace zo := zo.below hb
        replace bw := thru bw hb
        clear a0 a1 hb
        by_cases h60 : 60 < n
        · have h60' : (60 : Int) < n := by omega
          have hb2' : (1 : Int) < b := by omega
          clear h60 hn hmul hb2
          have hd60 : decide ((60 : Int) < n) = true := decide_eq_true h60'
          clear h60'
          go_wp2
          go_ret
          exact ⟨rfl, bw⟩
        · have HL := Lib.hid (show zl (x ^ n) ≤ 1000000 ∧ dl (x ^ n) ≤ 1000000 from ⟨Nat.le_trans (zl_pow_big HB.out.symm hmul (Nat.le_refl n)) (by omega), by have := dl_pow x n; have := Nat.mul_le_mul (show n ≤ 60 by omega) lp; omega⟩)
          clear hmul
          go_upto_region 16 with fail
          all_goals
            replace k6 : Box2 30 w8.drew (w3.heap.size + 1) (.bool (neg x)) (.slice A6 (dl x) c6) := k6
            replace k7 : Box2 28 w8.drew w6.heap.size (.bool (neg (x ^ n))) (.slice A7 (zl (x ^ n)) c7) := k7
            replace zo : ZIn w8.drew A7 c7 (x ^ n) := zo.below (Below.refl _ _).drew
            replace zp : RIn w8.drew A6 c6 x := U32.below zp (Below.refl _ _).drew
            replace bw : Below w.heap.size w w8.drew := bw.drew
            go_region_held3 (fun w' => w'.cell? ⟨w6.heap.size, 0, none⟩ = some (.bool (neg (x ^ n))) ∧ w'.cell? ⟨w6.heap.size, 1, none⟩ = some (.slice A7 (zl (x ^ n)) c7) ∧ w'.cell? ⟨w3.heap.size + 1, 0, none⟩ = some (.bool (neg x)) ∧ w'.cell? ⟨w3.heap.size + 1, 1, none⟩ = some (.slice A6 (dl x) c6)) (first | (with_reducible exact ⟨k7.c0, k7.c1, k6.c0, k6.c1⟩) | go_keep) (first | (go_at_call 35; (with_reducible refine (pow_rI (n := n) zp (by omega) (by omega) rfl).mono ?_); rintro e wn ⟨v, rfl, ⟨A9, c9, rfl, zr⟩, hb⟩; replace k6 := k6.below hb k6.lt; replace k7 := k7.below hb k7.lt; replace zo := zo.below hb; replace bw := thru bw hb; clear hb) | (go_at_call 15; (with_reducible refine (is_same zo zr rfl HL.out.1 HL.out.2).mono ?_); rintro e wn ⟨rfl, hb⟩; replace k6 := k6.below hb k6.lt; replace k7 := k7.below hb k7.lt; replace zo := zo.below hb; replace bw := thru bw hb; clear hb))
          all_goals (go_wp2; go_ret; exact ⟨rfl, bw⟩)
      · have hb1 : b ≤ 1 := by omega
        have HT := Lib.hid (show blen x.natAbs ≤ 1 by rw [← HB.out]; exact hb1)
        go_wp2_with fail
        refine (pow_tiny zx (by omega) (by omega) HT.out (by rw [← HB.out]; intro h; subst h; omega)).mono ?_
        rintro e w6 ⟨v, rfl, ⟨A7, c7, rfl, zo⟩, hb⟩
        have k6 := (K6.out.below hb K6.out.lt).alloc (.cells #[.bool (neg (x ^ n)), .slice A7 (zl (x ^ n)) c7] 28)
        have zp := (ZP.out.below hb).below (below1 _ (.cells #[.bool (neg (x ^ n)), .slice A7 (zl (x ^ n)) c7] 28))
        have k7 := Box2.new w6 28 (.bool (neg (x ^ n))) (.slice A7 (zl (x ^ n)) c7)
        replace bw := (thru bw hb).alloc (thru bw hb).size (.cells #[.bool (neg (x ^ n)), .slice A7 (zl (x ^ n)) c7] 28)
        replace zo := zo.below (below1 w6 (.cells #[.bool (neg (x ^ n)), .slice A7 (zl (x ^ n)) c7] 28))
        clear a0 a1 hb
        have a0 := k6.c0
        have a1 := k6.c1
        go_wp2_with fail
        refine (bits_r zp (by omega)).mono ?_
        rintro e w8 ⟨rfl, hb⟩
        rw [← HB.out]
        replace k6 := k6.below hb k6.lt
        replace k7 := k7.below hb k7.lt
        replace zp := zp.below hb
        replace zo := zo.below hb
        replace bw := thru bw hb
        clear a0 a1 hb
        have HL := Lib.hid (tiny_len HT.out n)
        by_cases h2 : 2 < n
        · have HP := Lib.hid (tiny_pow HT.out h2)
          go_upto_region 16 with fail
          all_goals
            replace k6 : Box2 30 w8.drew (w3.heap.size + 1) (.bool (neg x)) (.slice A6 (dl x) c6) := k6
            replace k7 : Box2 28 w8.drew w6.heap.size (.bool (neg (x ^ n))) (.slice A7 (zl (x ^ n)) c7) := k7
            replace zo : ZIn w8.drew A7 c7 (x ^ n) := zo.below (Below.refl _ _).drew
            replace zp : RIn w8.drew A6 c6 x := U32.below zp (Below.refl _ _).drew
            replace bw : Below w.heap.size w w8.drew := bw.drew
            go_region_held3 (fun w' => w'.cell? ⟨w6.heap.size, 0, none⟩ = some (.bool (neg (x ^ n))) ∧ w'.cell? ⟨w6.heap.size, 1, none⟩ = some (.slice A7 (zl (x ^ n)) c7) ∧ w'.cell? ⟨w3.heap.size + 1, 0, none⟩ = some (.bool (neg x)) ∧ w'.cell? ⟨w3.heap.size + 1, 1, none⟩ = some (.slice A6 (dl x) c6)) (first | (with_reducible exact ⟨k7.c0, k7.c1, k6.c0, k6.c1⟩) | go_keep) (first | (go_at_call 35; (with_reducible refine (pow_rI (n := 2 + n % 2) zp (by omega) (by omega) (by omega)).mono ?_); rintro e wn ⟨v, rfl, ⟨A9, c9, rfl, zr⟩, hb⟩; replace k6 := k6.below hb k6.lt; replace k7 := k7.below hb k7.lt; replace zo := zo.below hb; replace bw := thru bw hb; clear hb) | (go_at_call 15; (with_reducible refine (is_same zo zr HP.out HL.out.1 HL.out.2).mono ?_); rintro e wn ⟨rfl, hb⟩; replace k6 := k6.below hb k6.lt; replace k7 := k7.below hb k7.lt; replace zo := zo.below hb; replace bw := thru bw hb; clear hb))
          all_goals (go_wp2; go_ret; exact ⟨rfl, bw⟩)
        · skip
          go_upto_region 16 with fail
          all_goals
            replace k6 : Box2 30 w8.drew (w3.heap.size + 1) (.bool (neg x)) (.slice A6 (dl x) c6) := k6
            replace k7 : Box2 28 w8.drew w6.heap.size (.bool (neg (x ^ n))) (.slice A7 (zl (x ^ n)) c7) := k7
            replace zo : ZIn w8.drew A7 c7 (x ^ n) := zo.below (Below.refl _ _).drew
            replace zp : RIn w8.drew A6 c6 x := U32.below zp (Below.refl _ _).drew
            replace bw : Below w.heap.size w w8.drew := bw.drew
            go_region_held3 (fun w' => w'.cell? ⟨w6.heap.size, 0, none⟩ = some (.bool (neg (x ^ n))) ∧ w'.cell? ⟨w6.heap.size, 1, none⟩ = some (.slice A7 (zl (x ^ n)) c7) ∧ w'.cell? ⟨w3.heap.size + 1, 0, none⟩ = some (.bool (neg x)) ∧ w'.cell? ⟨w3.heap.size + 1, 1, none⟩ = some (.slice A6 (dl x) c6)) (first | (with_reducible exact ⟨k7.c0, k7.c1, k6.c0, k6.c1⟩) | go_keep) (first | (go_at_call 35; (with_reducible refine (pow_rI (n := n) zp (by omega) (by omega) rfl).mono ?_); rintro e wn ⟨v, rfl, ⟨A9, c9, rfl, zr⟩, hb⟩; replace k6 := k6.below hb k6.lt; replace k7 := k7.below hb k7.lt; replace zo := zo.below hb; replace bw := thru bw hb; clear hb) | (go_at_call 15; (with_reducible refine (is_same zo zr rfl HL.out.1 HL.out.2).mono ?_); rintro e wn ⟨rfl, hb⟩; replace k6 := k6.below hb k6.lt; replace k7 := k7.below hb k7.lt; replace zo := zo.below hb; replace bw := thru bw hb; clear hb))
          all_goals (go_wp2; go_ret; exact ⟨rfl, bw⟩)

end Go.Proofs.Ytnldopjbiacbfaa
