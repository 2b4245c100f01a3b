/- Powers: anvilref02.Pow. No condition. -/
import Derived.Test.YtnldopjbiacbfaaBits
import Derived.Test.YtnldopjbiacbfaaZl
namespace Go.Proofs.Ytnldopjbiacbfaa
open Go.RowKit Anv

theorem dl_one : dl 1 = 1 := by
  unfold dl dn D
  rw [show (1 : Int).natAbs = 1 from rfl, dig_pos (by omega) (by omega)]
  rw [show (1 : Nat) / 65536 = 0 from by omega, dig_zero]
  rfl

theorem pow_r {A : Option Addr} {c n : Nat} {x : Int} {w : World} (h : RIn w A c x) (hn : n ≤ 100) (hx : dl x ≤ 1000) :
    Calls Try.prog 35 #[.agg #[.bool (neg x), .slice A (dl x) c], .int .i64 n] w fun e w' => ∃ v, e = .returned v ∧ RAt w' v (x ^ n) ∧ Below w.heap.size w w' := by
  go_enter Try.func35, Try.ntmps35
  go_wp2_with fail
  refine (of_r (n := 1) (by omega) (by omega)).mono ?_
  rintro e w0 ⟨v, rfl, ⟨A0, c0, rfl, hz0⟩, hb0⟩
  obtain ⟨q0, q1, bw0, hs0⟩ := boxes2 hb0
  clear hb0
  go_wp2
  have t0 := q0.alloc (.cells #[.bool (neg 1), .slice A0 (dl 1) c0] 30)
  have t1 := q1.alloc (.cells #[.bool (neg 1), .slice A0 (dl 1) c0] 30)
  have t2 := Box2.new w0 30 (.bool (neg 1)) (.slice A0 (dl 1) c0)
  have bw1 := bw0.alloc bw0.size (.cells #[.bool (neg 1), .slice A0 (dl 1) c0] 30)
  have hz1 := hz0.below (below1 w0 (.cells #[.bool (neg 1), .slice A0 (dl 1) c0] 30))
  have hx1 := h.below bw1
  have K0 := Lib.hid (And.intro hz1 (And.intro t0 (And.intro t1 (And.intro t2 (And.intro hx1 bw1)))))
  clear t0 t1 t2 bw1 hz1 q0 q1 bw0 hz0 hx1
  go_loopw [6] (fun i wr => ∃ (j : Nat) (s : Int) (B : Option Addr) (d : Nat), j ≤ n ∧ i = .int .i64 j ∧ Hid (s = x ^ j ∧ dl s ≤ j * 1001 + 1) ∧ Hid (RIn wr B d s) ∧
      Hid (Box2 30 wr w.heap.size (.bool (neg x)) (.slice A (dl x) c) ∧ Box2 30 wr (w.heap.size + 1) (.bool false) (.slice none 0 0) ∧ Box2 30 wr w0.heap.size (.bool (neg s)) (.slice B (dl s) d) ∧ RIn wr A c x ∧ Below w.heap.size w wr)) (fun i _ => n - (intOf i).toNat)
  case atStart => exact ⟨0, 1, A0, c0, Nat.zero_le _, rfl, ⟨by simp, by rw [dl_one]; omega⟩, K0.out.1, K0.out.2.1, K0.out.2.2.1, K0.out.2.2.2.1, K0.out.2.2.2.2.1, K0.out.2.2.2.2.2⟩
  case round =>
    clear K0
    obtain ⟨j, s, B, d, hj, rfl, HI, HZ, HQ⟩ := hrel
    by_cases hlt : j < n
    · have a0 := HQ.out.1.c0
      have a1 := HQ.out.1.c1
      have b0 := HQ.out.2.2.1.c0
      have b1 := HQ.out.2.2.1.c1
      have hs : dl s ≤ 1000000 := by have := HI.out.2; have := Nat.mul_le_mul_right 1001 (Nat.le_trans hj hn); omega
      go_wp2_with fail
      refine (mul_r HZ.out HQ.out.2.2.2.1 hs (by omega)).mono ?_
      rintro e w1 ⟨v, rfl, ⟨A2, c2, rfl, hz2⟩, hb1⟩
      have t0 := HQ.out.1.below hb1 HQ.out.1.lt
      have t1 := HQ.out.2.1.below hb1 HQ.out.2.1.lt
      have t2 := HQ.out.2.2.1.below hb1 HQ.out.2.2.1.lt
      have hx2 := HQ.out.2.2.2.1.below hb1
      have bw := thru HQ.out.2.2.2.2 hb1
      clear hb1 a0 a1 b0 b1
      have a0 := t2.c0
      have a1 := t2.c1
      have a2 := t2.f 0
      have a3 := t2.f 1
      have T0 := Lib.hid t0
      have T1 := Lib.hid t1
      have T2 := Lib.hid t2
      have HZ2 := Lib.hid hz2
      have HX2 := Lib.hid hx2
      have BW := Lib.hid bw
      clear t0 t1 t2 hz2 hx2 bw
      go_wp2
      go_roundw
      case rel =>
        have h3 := HI.out
        refine ⟨j + 1, s * x, A2, c2, by omega, by go_num, ⟨by rw [Int.pow_succ, h3.1], by have := dl_mul s x; omega⟩, ?_, T0.out.far2 (by omega) _ _, T1.out.far2 (by omega) _ _, T2.out.put _ _, ?_, below_store2 BW.out (by omega) _ _⟩
        · exact (HZ2.out.store (by rw [a0]; intro q hq; cases hq) _).store (by rw [World.cell?_setCell_other _ _ _ _ (by simp)]; rw [a1]; intro q hq; cases hq) _
        · exact (HX2.out.store (by rw [a0]; intro q hq; cases hq) _).store (by rw [World.cell?_setCell_other _ _ _ _ (by simp)]; rw [a1]; intro q hq; cases hq) _
      case measure => simp [intOf]; omega
    · have a0 := HQ.out.2.1.c0
      have a1 := HQ.out.2.1.c1
      have f0 := HQ.out.2.1.f 0
      have f1 := HQ.out.2.1.f 1
      have b0 := HQ.out.2.2.1.c0
      have b1 := HQ.out.2.2.1.c1
      have e : s = x ^ n := by rw [HI.out.1, show j = n by omega]
      subst e
      go_wp2
      exact bodyPost_ret (v := .agg #[.bool (neg (x ^ n)), .slice B (dl (x ^ n)) d]) (by simp [results, Try.results35, go_sem, a0, a1]) rfl ⟨_, rfl, ⟨_, _, rfl, U32.store2 HZ.out a0 a1 _ _⟩, below_store2 HQ.out.2.2.2.2 (by omega) _ _⟩

theorem pow_neg {A : Option Addr} {c : Nat} {x e : Int} {w : World} (_h1 : -9223372036854775808 ≤ e) (h : e < 0) :
    Calls Try.prog 32 #[.agg #[.bool (neg x), .slice A (zl x) c], .int .i64 e] w fun r w' => r = .returned (.tuple #[.agg #[.bool false, .slice none 0 0], .int .i64 2]) ∧ Below w.heap.size w w' := by
  go_enter Try.func32, Try.ntmps32
  go_wp2
  have q := Box2.new (w.alloc (.cells #[.bool (neg x), .slice A (zl x) c] 28)) 28 (.bool false) (.slice none 0 0)
  have e1 : (w.alloc (.cells #[.bool (neg x), .slice A (zl x) c] 28)).heap.size = w.heap.size + 1 := by simp
  rw [e1] at q
  have a0 := q.c0
  have a1 := q.c1
  exact bodyPost_ret (v := .tuple #[.agg #[.bool false, .slice none 0 0], .int .i64 2]) (by simp [results, Try.results32, go_sem, a0, a1]) rfl ⟨rfl, below2 _ _ _⟩

theorem pow_long {A : Option Addr} {c b : Nat} {x e : Int} {w : World} (hx : ZIn w A c x) (hN : zl x ≤ 1000) (h0 : 0 ≤ e) (h1 : e ≤ 9223372036854775807) (hb : blen x.natAbs = b) (hb0 : 0 < b) (he : (65536 : Int) / b < e) :
    Calls Try.prog 32 #[.agg #[.bool (neg x), .slice A (zl x) c], .int .i64 e] w fun r w' => r = .returned (.tuple #[.agg #[.bool false, .slice none 0 0], .int .i64 3]) ∧ Below w.heap.size w w' := by
  go_enter Try.func32, Try.ntmps32
  have HB := Lib.hid hb
  clear hb
  go_wp2_with fail
  refine (bits_z (hx.below (below2 _ _ _)) (by omega)).mono ?_
  rintro r w1 ⟨rfl, hb1⟩
  rw [HB.out]
  obtain ⟨q0, q1, bw, hs⟩ := boxes2 hb1
  clear hb1 hs
  have hx1 := Lib.hid (hx.below bw)
  have a0 := q0.c0
  have a1 := q0.c1
  have hbi : (0 : Int) < b := by omega
  go_wp2_with fail
  refine (bits_z hx1.out (by omega)).mono ?_
  rintro r w2 ⟨rfl, hb2⟩
  rw [HB.out]
  replace q1 := q1.below hb2 q1.lt
  replace bw := thru bw hb2
  clear hb2 a0 a1 q0
  have e0 := q1.c0
  have e1 := q1.c1
  have e2 := q1.f 0
  have e3 := q1.f 1
  go_wp2
  exact bodyPost_ret (v := .tuple #[.agg #[.bool false, .slice none 0 0], .int .i64 3]) (by simp [results, Try.results32, go_sem, e0, e1]) rfl ⟨rfl, below_store2 bw (by omega) _ _⟩

set_option maxRecDepth 100000 in
theorem pow_big {A : Option Addr} {c b n : Nat} {x : Int} {w : World} (hx : ZIn w A c x) (hN : zl x ≤ 1000) (hn : n ≤ 65536) (hb : blen x.natAbs = b) (hb0 : 2 ≤ b) (he : (n : Int) ≤ (65536 : Int) / b) (hz : ∀ j, j ≤ n → zl (x ^ j) ≤ 1000000) :
    Calls Try.prog 32 #[.agg #[.bool (neg x), .slice A (zl x) c], .int .i64 n] w fun r w' => ∃ v, r = .returned (.tuple #[v, .int .i64 0]) ∧ ZAt w' v (x ^ n) ∧ Below w.heap.size w w' := by
  go_enter Try.func32, Try.ntmps32
  have HB := Lib.hid hb
  have hs0 : x.sign ≠ 0 := by
    intro h
    have := Int.sign_eq_zero_iff_zero.1 h
    subst this
    rw [show (0 : Int).natAbs = 0 from rfl, blen_zero] at hb; omega
  have hs1 : (x.sign == 0) = false := by simpa using hs0
  have hb1 : ((b : Int) == 1) = false := by simp; omega
  have hbi : (0 : Int) < b := by omega
  have HN := Lib.hid hz
  clear hb hz hs0
  go_wp2_with fail
  refine (bits_z (hx.below (below2 _ _ _)) (by omega)).mono ?_
  rintro r w1 ⟨rfl, hb1⟩
  rw [HB.out]
  obtain ⟨q0, q1, bw, hs⟩ := boxes2 hb1
  clear hb1 hs
  have a0 := q0.c0
  have a1 := q0.c1
  go_wp2_with fail
  refine (bits_z (hx.below bw) (by omega)).mono ?_
  rintro r w2 ⟨rfl, hb2⟩
  rw [HB.out]
  replace q0 := q0.below hb2 q0.lt
  replace q1 := q1.below hb2 q1.lt
  replace bw := thru bw hb2
  clear hb2 a0 a1
  go_wp2_with fail
  refine (of_z (n := 1) (by omega) (by omega)).mono ?_
  rintro r w3 ⟨v, rfl, ⟨A0, c0, rfl, hz0⟩, hb3⟩
  have hs3 := (q1.below hb3 q1.lt).lt
  replace q0 := (q0.below hb3 q0.lt).alloc (.cells #[.bool (neg 1), .slice A0 (zl 1) c0] 28)
  replace q1 := (q1.below hb3 q1.lt).alloc (.cells #[.bool (neg 1), .slice A0 (zl 1) c0] 28)
  have q2 := Box2.new w3 28 (.bool (neg 1)) (.slice A0 (zl 1) c0)
  replace bw := (thru bw hb3).alloc (thru bw hb3).size (.cells #[.bool (neg 1), .slice A0 (zl 1) c0] 28)
  replace hz0 := hz0.below (below1 w3 (.cells #[.bool (neg 1), .slice A0 (zl 1) c0] 28))
  clear hb3
  have a0 := q0.c0
  have a1 := q0.c1
  go_wp2_with fail
  refine (sign_z (z := x)).mono ?_
  rintro r w4 ⟨rfl, hb4⟩
  replace q0 := q0.below hb4 q0.lt
  replace q1 := q1.below hb4 q1.lt
  replace q2 := q2.below hb4 q2.lt
  replace bw := thru bw hb4
  replace hz0 := hz0.below hb4
  clear hb4 a0 a1
  have a0 := q0.c0
  have a1 := q0.c1
  go_wp2_with fail
  refine (bits_z (hx.below bw) (by omega)).mono ?_
  rintro r w5 ⟨rfl, hb5⟩
  rw [HB.out]
  replace q0 := q0.below hb5 q0.lt
  replace q1 := q1.below hb5 q1.lt
  replace q2 := q2.below hb5 q2.lt
  replace bw := thru bw hb5
  replace hz0 := hz0.below hb5
  have hx5 := hx.below bw
  clear hb5 a0 a1
  go_wp2
  have K0 := Lib.hid (And.intro hz0 (And.intro q0 (And.intro q1 (And.intro q2 (And.intro hx5 bw)))))
  clear hz0 q0 q1 q2 hx5 bw hs1 hb1 hbi
  go_loopw [1] (fun i wr => ∃ (m j : Nat) (s : Int) (B : Option Addr) (d : Nat), m ≤ n ∧ i = .int .i64 m ∧ Hid (m + j = n ∧ s = x ^ j) ∧ Hid (ZIn wr B d s) ∧
      Hid (Box2 28 wr w.heap.size (.bool (neg x)) (.slice A (zl x) c) ∧ Box2 28 wr (w.heap.size + 1) (.bool false) (.slice none 0 0) ∧ Box2 28 wr w3.heap.size (.bool (neg s)) (.slice B (zl s) d) ∧ ZIn wr A c x ∧ Below w.heap.size w wr)) (fun i _ => (intOf i).toNat)
  case atStart => exact ⟨n, 0, 1, A0, c0, Nat.le_refl _, rfl, ⟨by omega, by simp⟩, K0.out.1, K0.out.2.1, K0.out.2.2.1, K0.out.2.2.2.1, K0.out.2.2.2.2.1, K0.out.2.2.2.2.2⟩
  case round =>
    clear K0
    obtain ⟨m, j, s, B, d, hm, rfl, HI, HZ, HQ⟩ := hrel
    rcases m with _ | m
    · have a0 := HQ.out.2.1.c0
      have a1 := HQ.out.2.1.c1
      have f0 := HQ.out.2.1.f 0
      have f1 := HQ.out.2.1.f 1
      have b0 := HQ.out.2.2.1.c0
      have b1 := HQ.out.2.2.1.c1
      have e : s = x ^ n := by rw [HI.out.2, show j = n by have := HI.out.1; omega]
      subst e
      go_wp2
      exact bodyPost_ret (v := .tuple #[.agg #[.bool (neg (x ^ n)), .slice B (zl (x ^ n)) d], .int .i64 0]) (by simp [results, Try.results32, go_sem, a0, a1]) rfl ⟨_, rfl, ⟨_, _, rfl, U32.store2 HZ.out a0 a1 _ _⟩, below_store2 HQ.out.2.2.2.2 (by omega) _ _⟩
    · have a0 := HQ.out.1.c0
      have a1 := HQ.out.1.c1
      have b0 := HQ.out.2.2.1.c0
      have b1 := HQ.out.2.2.1.c1
      have hs : zl s ≤ 1000000 := by rw [HI.out.2]; exact HN.out j (by have := HI.out.1; omega)
      go_wp2_with fail
      refine (mul_z HZ.out HQ.out.2.2.2.1 hs (by omega)).mono ?_
      rintro e w6 ⟨v, rfl, ⟨A2, c2, rfl, hz2⟩, hb1⟩
      have t0 := HQ.out.1.below hb1 HQ.out.1.lt
      have t1 := HQ.out.2.1.below hb1 HQ.out.2.1.lt
      have t2 := HQ.out.2.2.1.below hb1 HQ.out.2.2.1.lt
      have hx2 := HQ.out.2.2.2.1.below hb1
      have bw := thru HQ.out.2.2.2.2 hb1
      have hne : w.heap.size + 1 < w3.heap.size := hs3
      clear hb1 a0 a1 b0 b1
      have a0 := t2.c0
      have a1 := t2.c1
      have a2 := t2.f 0
      have a3 := t2.f 1
      have T0 := Lib.hid t0
      have T1 := Lib.hid t1
      have T2 := Lib.hid t2
      have HZ2 := Lib.hid hz2
      have HX2 := Lib.hid hx2
      have BW := Lib.hid bw
      clear t0 t1 t2 hz2 hx2 bw
      go_wp2
      go_roundw
      case rel =>
        have h3 := HI.out
        refine ⟨m, j + 1, s * x, A2, c2, by omega, by go_num, ⟨by omega, by rw [Int.pow_succ, h3.2]⟩, ?_, T0.out.far2 (by omega) _ _, T1.out.far2 (by omega) _ _, T2.out.put _ _, ?_, below_store2 BW.out (by omega) _ _⟩
        · exact (HZ2.out.store (by rw [a0]; intro q hq; cases hq) _).store (by rw [World.cell?_setCell_other _ _ _ _ (by simp)]; rw [a1]; intro q hq; cases hq) _
        · exact (HX2.out.store (by rw [a0]; intro q hq; cases hq) _).store (by rw [World.cell?_setCell_other _ _ _ _ (by simp)]; rw [a1]; intro q hq; cases hq) _
      case measure => simp [intOf]

end Go.Proofs.Ytnldopjbiacbfaa
