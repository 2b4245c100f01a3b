/- integer.Sub, Times, Cmp. No condition. -/
import Derived.Test.YtnldopjbiacbfaaInt4
namespace Go.Proofs.Ytnldopjbiacbfaa
open Go.RowKit Anv

theorem zl_neg (z : Int) : zl (-z) = zl z := by unfold zl; rw [Int.natAbs_neg]

theorem sub_z {A B : Option Addr} {c d : Nat} {x y : Int} {w : World} (hx : ZIn w A c x) (hy : ZIn w B d y) (hn : zl x ≤ 1000000) (hm : zl y ≤ 1000000) :
    Calls Try.prog 22 #[.agg #[.bool (neg x), .slice A (zl x) c], .agg #[.bool (neg y), .slice B (zl y) d]] w fun e w' => ∃ v, e = .returned v ∧ ZAt w' v (x - y) ∧ Below w.heap.size w w' := by
  go_enter Try.func22, Try.ntmps22
  go_wp2_with fail
  go_region_held3 (fun w' => w'.cell? ⟨w.heap.size, 0, none⟩ = some (.bool (neg x)) ∧ w'.cell? ⟨w.heap.size, 1, none⟩ = some (.slice A (zl x) c) ∧ w'.cell? ⟨w.heap.size + 1, 0, none⟩ = some (.bool (neg y)) ∧ w'.cell? ⟨w.heap.size + 1, 1, none⟩ = some (.slice B (zl y) d)) (first | exact ⟨q0.c0, q0.c1, q1.c0, q1.c1⟩ | exact ⟨r0.c0, r0.c1, r1.c0, r1.c1⟩ | exact ⟨(r0.far2 (by omega) _ _).c0, (r0.far2 (by omega) _ _).c1, (r1.far2 (by omega) _ _).c0, (r1.far2 (by omega) _ _).c1⟩ | go_keep)
    (first | (go_at_call 16; refine (neg_z (ZIn.below hy (by exact (below3 _ _ _ _).drew))).mono ?_; rintro e w1 ⟨v, rfl, ⟨A1, c1, rfl, hz1⟩, hb⟩; obtain ⟨q0, q1, q2, hbw, hs⟩ := boxes3 (undrew hb)) | (go_at_call 20; refine (add_z (ZIn.below hx hbw) hz1 hn (by rw [zl_neg]; exact hm)).mono ?_; rintro e w2 ⟨v2, rfl, ⟨A2, c2, rfl, hz2⟩, hb2⟩; have r0 := q0.below hb2 q0.lt; have r1 := q1.below hb2 q1.lt; have r2 := q2.below hb2 q2.lt; have hc0 := r2.c0; have hc1 := r2.c1; have hf0 := r2.f 0; have hf1 := r2.f 1; have hs2 : w.heap.size + 1 + 1 < w2.heap.size := by have := hb2.size; omega))
  go_wp2
  rw [← Int.sub_eq_add_neg] at hz2 ⊢
  exact bodyPost_ret (v := .agg #[.bool (neg (x - y)), .slice A2 (zl (x - y)) c2]) (by simp [results, Try.results22, go_sem, hc0, hc1]) rfl ⟨_, rfl, ⟨_, _, rfl, U32.store2 hz2 hc0 hc1 _ _⟩, below_store2 (thru hbw hb2) (by omega) _ _⟩

theorem cmp_z {A B : Option Addr} {c d : Nat} {x y : Int} {w : World} (hx : ZIn w A c x) (hy : ZIn w B d y) :
    Calls Try.prog 13 #[.agg #[.bool (neg x), .slice A (zl x) c], .agg #[.bool (neg y), .slice B (zl y) d]] w fun e w' => e = .returned (.int .i64 (x - y).sign) ∧ Below w.heap.size w w' := by
  have e := cmp_sign x y
  rw [← e]
  have hb1 := cmpI_bd x.natAbs y.natAbs
  have hb2 := cmpI_bd y.natAbs x.natAbs
  clear e
  cases neg x <;> cases neg y
  · go_enter Try.func13, Try.ntmps13
    go_wp2_with fail
    refine (cmp_num' (NumIn.below (ZIn.num hx) (by exact below2 _ _ _)) (NumIn.below (ZIn.num hy) (by exact below2 _ _ _))).mono ?_
    rintro e w1 ⟨rfl, hb⟩
    go_wp2
    go_ret
    exact ⟨rfl, thru (below2 _ _ _) hb⟩
  · go_enter Try.func13, Try.ntmps13
    go_wp2
    go_ret
    exact ⟨rfl, below2 _ _ _⟩
  · go_enter Try.func13, Try.ntmps13
    go_wp2
    go_ret
    exact ⟨rfl, below2 _ _ _⟩
  · go_enter Try.func13, Try.ntmps13
    go_wp2_with fail
    refine (cmp_num' (NumIn.below (ZIn.num hy) (by exact below2 _ _ _)) (NumIn.below (ZIn.num hx) (by exact below2 _ _ _))).mono ?_
    rintro e w1 ⟨rfl, hb⟩
    go_wp2
    go_ret
    exact ⟨rfl, thru (below2 _ _ _) hb⟩

end Go.Proofs.Ytnldopjbiacbfaa
