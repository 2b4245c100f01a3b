/- integer.Over. No condition. -/
import Derived.Test.YtnldopjbiacbfaaDmz
namespace Go.Proofs.Ytnldopjbiacbfaa
open Go.RowKit Anv

theorem over_zero {A : Option Addr} {c : Nat} {x : Int} {w : World} :
    Calls Try.prog 38 #[.agg #[.bool (neg x), .slice A (zl x) c], .int .i64 0] w fun e w' => e = .returned (.tuple #[.agg #[.bool false, .slice none 0 0], .int .i64 2]) ∧ Below w.heap.size w w' := by
  go_enter Try.func38, Try.ntmps38
  go_wp2_with fail
  refine (of_z (n := 0) (by omega) (by omega)).mono ?_
  rintro e w1 ⟨v, rfl, ⟨A1, c1, rfl, z1⟩, hb⟩
  obtain ⟨q0, q1, hbw, hs⟩ := boxes2 hb
  replace q0 := q0.alloc (.cells #[.bool (neg 0), .slice A1 (zl 0) c1] 28)
  replace q1 := q1.alloc (.cells #[.bool (neg 0), .slice A1 (zl 0) c1] 28)
  have q2 := Box2.new w1 28 (.bool (neg 0)) (.slice A1 (zl 0) c1)
  replace z1 := z1.below (below1 w1 (.cells #[.bool (neg 0), .slice A1 (zl 0) c1] 28))
  replace hbw := hbw.alloc hbw.size (.cells #[.bool (neg 0), .slice A1 (zl 0) c1] 28)
  have a0 := q0.c0
  have a1 := q0.c1
  have b0 := q2.c0
  have b1 := q2.c1
  clear hb
  go_wp2_with fail
  refine (dm_zero (ZIn.num z1)).mono ?_
  rintro e w2 ⟨rfl, hb2⟩
  have r1 := q1.below hb2 q1.lt
  have hb3 := thru hbw hb2
  have d0 := r1.c0
  have d1 := r1.c1
  have d2 := r1.f 0
  have d3 := r1.f 1
  clear a0 a1 b0 b1
  go_wp2
  exact bodyPost_ret (v := .tuple #[.agg #[.bool false, .slice none 0 0], .int .i64 2]) (by simp [results, Try.results38, go_sem, d0, d1]) rfl ⟨rfl, below_store2 hb3 (by omega) _ _⟩

theorem over_exact {A : Option Addr} {c : Nat} {x n : Int} {w : World} (hx : ZIn w A c x) (hn : zl x ≤ 1000) (h1 : -9223372036854775808 ≤ n) (h2 : n ≤ 9223372036854775807) (h0 : n ≠ 0) (hd : ¬ x % n = 0) :
    Calls Try.prog 38 #[.agg #[.bool (neg x), .slice A (zl x) c], .int .i64 n] w fun e w' => e = .returned (.tuple #[.agg #[.bool false, .slice none 0 0], .int .i64 20]) ∧ Below w.heap.size w w' := by
  have hr : 0 < nl (x.natAbs % n.natAbs) := nl_pos (by
    rcases Nat.eq_zero_or_pos (x.natAbs % n.natAbs) with h | h
    · exfalso
      apply hd
      have := ed_plain (x := x) (y := n) h0 (by rw [h]; unfold neg sg; simp)
      rw [this.2, h]; unfold sg; simp
    · exact h)
  clear hd
  go_enter Try.func38, Try.ntmps38
  have H0 := Lib.hid h0
  clear h0
  go_wp2_with fail
  refine (of_z (n := n) h1 h2).mono ?_
  rintro e w1 ⟨v, rfl, ⟨A1, c1, rfl, z1⟩, hb⟩
  obtain ⟨q0, q1, hbw, hs⟩ := boxes2 hb
  replace q0 := q0.alloc (.cells #[.bool (neg n), .slice A1 (zl n) c1] 28)
  replace q1 := q1.alloc (.cells #[.bool (neg n), .slice A1 (zl n) c1] 28)
  have q2 := Box2.new w1 28 (.bool (neg n)) (.slice A1 (zl n) c1)
  replace z1 := z1.below (below1 w1 (.cells #[.bool (neg n), .slice A1 (zl n) c1] 28))
  replace hbw := hbw.alloc hbw.size (.cells #[.bool (neg n), .slice A1 (zl n) c1] 28)
  have hx1 := hx.below hbw
  have a0 := q0.c0
  have a1 := q0.c1
  have b0 := q2.c0
  have b1 := q2.c1
  clear hb hx
  go_wp2_with fail
  refine (dm_num (ZIn.num hx1) (ZIn.num z1) (by omega) (by have := H0.out; omega)).mono ?_
  rintro e w2 ⟨v, u, rfl, ⟨A3, c3, rfl, hU3, hf3⟩, ⟨A4, c4, rfl, hU4, hf4⟩, hb2⟩
  have r1 := q1.below hb2 q1.lt
  have hb3 := thru hbw hb2
  have d0 := r1.c0
  have d1 := r1.c1
  have d2 := r1.f 0
  have d3 := r1.f 1
  have hr2 : 0 < (L (x.natAbs % n.natAbs)).length := hr
  clear a0 a1 b0 b1 hU3 hU4 hf3 hf4
  go_wp2
  exact bodyPost_ret (v := .tuple #[.agg #[.bool false, .slice none 0 0], .int .i64 20]) (by simp [results, Try.results38, go_sem, d0, d1]) rfl ⟨rfl, below_store2 hb3 (by omega) _ _⟩

theorem over_z {A : Option Addr} {c : Nat} {x n : Int} {w : World} (hx : ZIn w A c x) (hn : zl x ≤ 1000) (h1 : -9223372036854775808 ≤ n) (h2 : n ≤ 9223372036854775807) (h0 : n ≠ 0) (hd : x % n = 0) :
    Calls Try.prog 38 #[.agg #[.bool (neg x), .slice A (zl x) c], .int .i64 n] w fun e w' => ∃ v, e = .returned (.tuple #[v, .int .i64 0]) ∧ ZAt w' v (x / n) ∧ Below w.heap.size w w' := by
  have hr0 : x.natAbs % n.natAbs = 0 := by
    have h3 : n ∣ x := Int.dvd_of_emod_eq_zero hd
    exact Nat.mod_eq_zero_of_dvd (Int.natAbs_dvd_natAbs.2 h3)
  have hE := ed_plain (x := x) (y := n) h0 (by rw [hr0]; unfold neg sg; simp)
  have HE := Lib.hid hE.1
  have HR := Lib.hid hr0
  have hr : (L (x.natAbs % n.natAbs)).length = 0 := by rw [hr0]; exact nl_zero
  clear hd hE hr0
  go_enter Try.func38, Try.ntmps38
  have H0 := Lib.hid h0
  clear h0
  go_wp2_with fail
  refine (of_z (n := n) h1 h2).mono ?_
  rintro e w1 ⟨v, rfl, ⟨A1, c1, rfl, z1⟩, hb⟩
  obtain ⟨q0, q1, hbw, hs⟩ := boxes2 hb
  replace q0 := q0.alloc (.cells #[.bool (neg n), .slice A1 (zl n) c1] 28)
  replace q1 := q1.alloc (.cells #[.bool (neg n), .slice A1 (zl n) c1] 28)
  have q2 := Box2.new w1 28 (.bool (neg n)) (.slice A1 (zl n) c1)
  replace z1 := z1.below (below1 w1 (.cells #[.bool (neg n), .slice A1 (zl n) c1] 28))
  replace hbw := hbw.alloc hbw.size (.cells #[.bool (neg n), .slice A1 (zl n) c1] 28)
  have hx1 := hx.below hbw
  have a0 := q0.c0
  have a1 := q0.c1
  have b0 := q2.c0
  have b1 := q2.c1
  clear hb hx
  go_wp2_with fail
  refine (dm_num (ZIn.num hx1) (ZIn.num z1) (by omega) (by have := H0.out; omega)).mono ?_
  rintro e w2 ⟨v, u, rfl, ⟨A3, c3, rfl, hU3, hf3⟩, ⟨A4, c4, rfl, hU4, hf4⟩, hb2⟩
  have r0 := q0.below hb2 q0.lt
  have r1 := q1.below hb2 q1.lt
  have r2 := q2.below hb2 q2.lt
  have hb3 := thru hbw hb2
  rw [hr]
  have HU3 := Lib.hid hU3
  clear a0 a1 b0 b1 hU3 hU4 hf3 hf4
  have a0 := r0.c0
  have b0 := r2.c0
  generalize hbx : neg x = bx at *
  generalize hby : neg n = bY at *
  have HB := Lib.hid (And.intro hbx hby)
  clear hbx hby
  go_wp2_with fail
  refine (made_num (b := !bx == bY) (N := x.natAbs / n.natAbs) HU3.out).mono ?_
  rintro e w3 ⟨rfl, z3, hb4⟩
  rw [← HE.out] at z3 ⊢
  have s1 := r1.below hb4 r1.lt
  have hb5 := thru hb3 hb4
  have d0 := s1.c0
  have d1 := s1.c1
  have d2 := s1.f 0
  have d3 := s1.f 1
  clear a0 b0
  go_wp2
  exact bodyPost_ret (v := .tuple #[.agg #[.bool (neg (x / n)), .slice A3 (zl (x / n)) c3], .int .i64 0]) (by simp [results, Try.results38, go_sem, d0, d1]) rfl ⟨_, rfl, ⟨_, _, rfl, U32.store2 z3 d0 d1 _ _⟩, below_store2 hb5 (by omega) _ _⟩

end Go.Proofs.Ytnldopjbiacbfaa
