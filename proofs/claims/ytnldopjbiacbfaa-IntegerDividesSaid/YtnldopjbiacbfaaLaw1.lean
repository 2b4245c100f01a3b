/- The statements' own small functions: is, zero, live, long, of. No condition. -/
import Derived.Test.YtnldopjbiacbfaaRef11
namespace Go.Proofs.Ytnldopjbiacbfaa
open Go.RowKit Anv

set_option maxHeartbeats 400000 in
theorem is_true {A B : Option Addr} {c d : Nat} {z : Int} {w : World} (hx : ZIn w A c z) (hy : RIn w B d z) (hn : zl z ≤ 1000000) (hm : dl z ≤ 1000000) :
    Calls Try.prog 15 #[.agg #[.bool (neg z), .slice A (zl z) c], .agg #[.bool (neg z), .slice B (dl z) d]] w fun e w' => e = .returned (.bool true) ∧ Below w.heap.size w w' := by
  have hnn : (neg z != neg z) = false := by simp
  have hln : ((zl z : Int) != (zl z : Int)) = false := by simp
  go_enter Try.func15, Try.ntmps15
  go_wp2_with fail
  refine (limbs_z (hx.below (below2 _ _ _)) hn).mono ?_
  rintro e w1 ⟨A1, c1, rfl, h1, hf1, hb1⟩
  obtain ⟨q0, q1, hbw, hs⟩ := boxes2 hb1
  have a2 := q1.c0
  have a3 := q1.c1
  clear hf1 hb1 q0
  go_wp2_with fail
  refine (limbs_r (hy.below hbw) hm).mono ?_
  rintro e w2 ⟨A2, c2, rfl, h2, hb2⟩
  have r1 := q1.below hb2 q1.lt
  have h1' := h1.below hb2
  have hbw2 := thru hbw hb2
  have b2 := r1.c0
  have b3 := r1.c1
  clear a2 a3 q1 hb2 h1 hbw hs
  go_wp2
  go_loopw [8] (fun i wr => ∃ k : Nat, k ≤ zl z ∧ i = .int .i64 k ∧ Hid (∃ q, wr = w2.drewN q)) (fun i _ => zl z - (intOf i).toNat)
  case atStart => exact ⟨0, Nat.zero_le _, rfl, 0, rfl⟩
  case round =>
    obtain ⟨k, hk, rfl, HQ⟩ := hrel
    obtain ⟨q, rfl⟩ := HQ.out
    clear HQ
    by_cases hlt : k < zl z
    · obtain ⟨o1, f1, rfl, hw1, hcs1⟩ := h1'.cells (by omega)
      have hcx := hcs1 k hlt
      obtain ⟨o2, f2, rfl, hw2, hcs2⟩ := h2.cells (by omega)
      have hcy := hcs2 k hlt
      clear hcs1 hcs2
      generalize hx : (L z.natAbs).getD k 0 = x at hcx hcy
      clear hx
      have hk0 : (0 : Int) ≤ (k : Int) := by omega
      have hk1 : (k : Int) < (zl z : Int) := by omega
      have hkt : ((k : Int)).toNat = k := by omega
      have hxx : ((x : Int) != (x : Int)) = false := by simp
      go_wp2_with fail
      go_quiet (fail)
      go_wp2_with fail
      go_roundw
      case rel => exact ⟨k + 1, by omega, by go_num, by show ∃ q, _ = _; exact ⟨_, rfl⟩⟩
      case measure => simp [intOf]; omega
    · go_wp2
      go_ret
      exact ⟨rfl, bdrewN hbw2 q⟩

theorem zl_zero : zl 0 = 0 := nl_zero
theorem dl_zero : dl 0 = 0 := dn_zero
theorem neg_zero : neg 0 = false := by unfold neg; simp
theorem R0 (w : World) : RIn w none 0 0 := ⟨by show (D 0).length = dl 0; rw [D_zero, dl_zero]; rfl, by rw [dl_zero]; exact Nat.le_refl _, by simp [maxLen], wide (D_lt _), fun hp => by rw [dl_zero] at hp; omega⟩

theorem zero_true {A : Option Addr} {c : Nat} {w : World} (hx : ZIn w A c 0) :
    Calls Try.prog 33 #[.agg #[.bool false, .slice A 0 c]] w fun e w' => e = .returned (.bool true) ∧ Below w.heap.size w w' := by
  have hi := fun (w1 : World) (hb : Below w.heap.size w w1) => is_true (z := 0) (B := none) (d := 0) (hx.below hb) (R0 w1) (by rw [zl_zero]; omega) (by rw [dl_zero]; omega)
  have hs := fun (w1 : World) => sign_z (A := A) (c := c) (z := 0) (w := w1)
  rw [neg_zero, zl_zero] at hs
  rw [neg_zero, zl_zero, dl_zero] at hi
  have HI := Lib.hid hi
  have HS := Lib.hid hs
  clear hi hs
  go_enter Try.func33, Try.ntmps33
  go_wp2_with fail
  refine (HI.out _ (below1 _ _)).mono ?_
  rintro e w1 ⟨rfl, hb⟩
  obtain ⟨q0, hbw, hsz⟩ := boxes1 hb
  have a0 := q0.c0
  have a1 := q0.c1
  go_wp2_with fail
  refine (HS.out _).mono ?_
  rintro e w2 ⟨rfl, hb2⟩
  go_wp2
  go_ret
  exact ⟨rfl, thru hbw hb2⟩

end Go.Proofs.Ytnldopjbiacbfaa
