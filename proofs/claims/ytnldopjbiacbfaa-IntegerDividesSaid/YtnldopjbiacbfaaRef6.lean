/- The reference: sums. No condition. -/
import Derived.Test.YtnldopjbiacbfaaRef5
namespace Go.Proofs.Ytnldopjbiacbfaa
open Go.RowKit Anv

theorem add_same_r {A B : Option Addr} {c d : Nat} {x y : Int} {w : World} (hx : RIn w A c x) (hy : RIn w B d y) (hn : dl x ≤ 1000000) (hm : dl y ≤ 1000000) (bx : Bool) (HE : Hid (sg bx (x.natAbs + y.natAbs) = x + y)) :
    Calls Try.prog 21 #[.agg #[.bool bx, .slice A (dl x) c], .agg #[.bool bx, .slice B (dl y) d]] w fun e w' => ∃ v, e = .returned v ∧ RAt w' v (x + y) ∧ Below w.heap.size w w' := by
  go_enter Try.func21, Try.ntmps21
  go_wp2_with fail
  go_region_held3 (fun w' => w'.cell? ⟨w.heap.size, 0, none⟩ = some (.bool bx) ∧ w'.cell? ⟨w.heap.size, 1, none⟩ = some (.slice A (dl x) c) ∧ w'.cell? ⟨w.heap.size + 1, 0, none⟩ = some (.bool bx) ∧ w'.cell? ⟨w.heap.size + 1, 1, none⟩ = some (.slice B (dl y) d)) (first | exact ⟨t0.c0, t0.c1, t1.c0, t1.c1⟩ | exact ⟨r0.c0, r0.c1, r1.c0, r1.c1⟩ | exact ⟨(r0.far2 (by omega) _ _).c0, (r0.far2 (by omega) _ _).c1, (r1.far2 (by omega) _ _).c0, (r1.far2 (by omega) _ _).c1⟩ | go_keep)
    (first | (go_at_call 54; refine (plus_ref (U32.below hx (by exact (below3 _ _ _ _).drew)) (U32.below hy (by exact (below3 _ _ _ _).drew)) (D_lt _) (D_lt _) hn hm).mono ?_; rintro e w2 ⟨A1, k1, c1, os, rfl, hU, hdo, hk1, hv, hb⟩; clear hk1; obtain ⟨t0, t1, t2, hbw2, hs⟩ := boxes3 (undrew hb); rw [val_D, val_D] at hv) | (go_at_call 51; refine (norm_ref hU hdo).mono ?_; rintro e w3 ⟨rfl, hz, hb3⟩; have r0 := t0.below hb3 t0.lt; have r1 := t1.below hb3 t1.lt; have r2 := t2.below hb3 t2.lt; have hc0 := r2.c0; have hc1 := r2.c1; have hf0 := r2.f 0; have hf1 := r2.f 1; have hs2 := r2.lt))
  go_wp2
  rw [hv] at hz
  rw [HE.out] at hz ⊢
  exact bodyPost_ret (v := .agg #[.bool (neg (x + y)), .slice A1 (dl (x + y)) c1]) (by simp [results, Try.results21, go_sem, hc0, hc1]) rfl ⟨_, rfl, ⟨_, _, rfl, U32.store2 hz hc0 hc1 _ _⟩, below_store2 (thru hbw2 hb3) (by omega) _ _⟩

theorem add_lt_r {A B : Option Addr} {c d : Nat} {x y : Int} {w : World} (hx : RIn w A c x) (hy : RIn w B d y) (hm : dl y ≤ 1000000) (bx : Bool) (HE : Hid (sg (!bx) (y.natAbs - x.natAbs) = x + y)) (hlt : x.natAbs < y.natAbs) :
    Calls Try.prog 21 #[.agg #[.bool bx, .slice A (dl x) c], .agg #[.bool !bx, .slice B (dl y) d]] w fun e w' => ∃ v, e = .returned v ∧ RAt w' v (x + y) ∧ Below w.heap.size w w' := by
  have hcb : ¬ 0 ≤ cmpI x.natAbs y.natAbs := by have := (cmpI_neg x.natAbs y.natAbs).2 hlt; omega
  have hbd := cmpI_bd x.natAbs y.natAbs
  have ht : (bx == !bx) = false := by cases bx <;> rfl
  go_enter Try.func21, Try.ntmps21
  go_wp2_with fail
  refine (size_ref' (U32.below hx (by exact (below3 _ _ _ _))) (U32.below hy (by exact (below3 _ _ _ _)))).mono ?_
  rintro e w1 ⟨rfl, hb⟩
  obtain ⟨q0, q1, q2, hbw, hs⟩ := boxes3 hb
  have a0 := q0.c0
  have a1 := q0.c1
  have a2 := q1.c0
  have a3 := q1.c1
  clear hb
  go_wp2_with fail
  go_region_held3 (fun w' => w'.cell? ⟨w.heap.size, 0, none⟩ = some (.bool bx) ∧ w'.cell? ⟨w.heap.size, 1, none⟩ = some (.slice A (dl x) c) ∧ w'.cell? ⟨w.heap.size + 1, 0, none⟩ = some (.bool !bx) ∧ w'.cell? ⟨w.heap.size + 1, 1, none⟩ = some (.slice B (dl y) d)) (first | exact ⟨q0.c0, q0.c1, q1.c0, q1.c1⟩ | exact ⟨t0.c0, t0.c1, t1.c0, t1.c1⟩ | exact ⟨r0.c0, r0.c1, r1.c0, r1.c1⟩ | exact ⟨(r0.far2 (by omega) _ _).c0, (r0.far2 (by omega) _ _).c1, (r1.far2 (by omega) _ _).c0, (r1.far2 (by omega) _ _).c1⟩ | go_keep)
    (first | (go_at_call 55; refine (minus_ref (U32.below hy (by exact hbw.drew)) (U32.below hx (by exact hbw.drew)) (D_lt _) (D_lt _) hm (by rw [val_D, val_D]; omega)).mono ?_; rintro e w2 ⟨A1, c1, os, rfl, hU, hdo, hv, _, hb⟩; have t0 := q0.below (undrew hb) q0.lt; have t1 := q1.below (undrew hb) q1.lt; have t2 := q2.below (undrew hb) q2.lt; have hbw2 := thru hbw (undrew hb); rw [val_D, val_D] at hv) | (go_at_call 51; refine (norm_ref hU hdo).mono ?_; rintro e w3 ⟨rfl, hz, hb3⟩; have r0 := t0.below hb3 t0.lt; have r1 := t1.below hb3 t1.lt; have r2 := t2.below hb3 t2.lt; have hc0 := r2.c0; have hc1 := r2.c1; have hf0 := r2.f 0; have hf1 := r2.f 1; have hs2 := r2.lt))
  go_wp2
  rw [hv] at hz
  rw [HE.out] at hz ⊢
  exact bodyPost_ret (v := .agg #[.bool (neg (x + y)), .slice A1 (dl (x + y)) c1]) (by simp [results, Try.results21, go_sem, hc0, hc1]) rfl ⟨_, rfl, ⟨_, _, rfl, U32.store2 hz hc0 hc1 _ _⟩, below_store2 (thru hbw2 hb3) (by omega) _ _⟩

theorem add_ge_r {A B : Option Addr} {c d : Nat} {x y : Int} {w : World} (hx : RIn w A c x) (hy : RIn w B d y) (hn : dl x ≤ 1000000) (bx : Bool) (HE : Hid (sg bx (x.natAbs - y.natAbs) = x + y)) (hlt : ¬ x.natAbs < y.natAbs) :
    Calls Try.prog 21 #[.agg #[.bool bx, .slice A (dl x) c], .agg #[.bool !bx, .slice B (dl y) d]] w fun e w' => ∃ v, e = .returned v ∧ RAt w' v (x + y) ∧ Below w.heap.size w w' := by
  have hcb : 0 ≤ cmpI x.natAbs y.natAbs := by
    rcases Int.lt_or_le (cmpI x.natAbs y.natAbs) 0 with h | h
    · exact absurd ((cmpI_neg x.natAbs y.natAbs).1 h) hlt
    · exact h
  have hbd := cmpI_bd x.natAbs y.natAbs
  have ht : (bx == !bx) = false := by cases bx <;> rfl
  go_enter Try.func21, Try.ntmps21
  go_wp2_with fail
  refine (size_ref' (U32.below hx (by exact (below3 _ _ _ _))) (U32.below hy (by exact (below3 _ _ _ _)))).mono ?_
  rintro e w1 ⟨rfl, hb⟩
  obtain ⟨q0, q1, q2, hbw, hs⟩ := boxes3 hb
  have a0 := q0.c0
  have a1 := q0.c1
  have a2 := q1.c0
  have a3 := q1.c1
  clear hb
  go_wp2_with fail
  go_region_held3 (fun w' => w'.cell? ⟨w.heap.size, 0, none⟩ = some (.bool bx) ∧ w'.cell? ⟨w.heap.size, 1, none⟩ = some (.slice A (dl x) c) ∧ w'.cell? ⟨w.heap.size + 1, 0, none⟩ = some (.bool !bx) ∧ w'.cell? ⟨w.heap.size + 1, 1, none⟩ = some (.slice B (dl y) d)) (first | exact ⟨q0.c0, q0.c1, q1.c0, q1.c1⟩ | exact ⟨t0.c0, t0.c1, t1.c0, t1.c1⟩ | exact ⟨r0.c0, r0.c1, r1.c0, r1.c1⟩ | exact ⟨(r0.far2 (by omega) _ _).c0, (r0.far2 (by omega) _ _).c1, (r1.far2 (by omega) _ _).c0, (r1.far2 (by omega) _ _).c1⟩ | go_keep)
    (first | (go_at_call 55; refine (minus_ref (U32.below hx (by exact hbw.drew)) (U32.below hy (by exact hbw.drew)) (D_lt _) (D_lt _) hn (by rw [val_D, val_D]; omega)).mono ?_; rintro e w2 ⟨A1, c1, os, rfl, hU, hdo, hv, _, hb⟩; have t0 := q0.below (undrew hb) q0.lt; have t1 := q1.below (undrew hb) q1.lt; have t2 := q2.below (undrew hb) q2.lt; have hbw2 := thru hbw (undrew hb); rw [val_D, val_D] at hv) | (go_at_call 51; refine (norm_ref hU hdo).mono ?_; rintro e w3 ⟨rfl, hz, hb3⟩; have r0 := t0.below hb3 t0.lt; have r1 := t1.below hb3 t1.lt; have r2 := t2.below hb3 t2.lt; have hc0 := r2.c0; have hc1 := r2.c1; have hf0 := r2.f 0; have hf1 := r2.f 1; have hs2 := r2.lt))
  go_wp2
  rw [hv] at hz
  rw [HE.out] at hz ⊢
  exact bodyPost_ret (v := .agg #[.bool (neg (x + y)), .slice A1 (dl (x + y)) c1]) (by simp [results, Try.results21, go_sem, hc0, hc1]) rfl ⟨_, rfl, ⟨_, _, rfl, U32.store2 hz hc0 hc1 _ _⟩, below_store2 (thru hbw2 hb3) (by omega) _ _⟩

theorem add_r {A B : Option Addr} {c d : Nat} {x y : Int} {w : World} (hx : RIn w A c x) (hy : RIn w B d y) (hn : dl x ≤ 1000000) (hm : dl y ≤ 1000000) :
    Calls Try.prog 21 #[.agg #[.bool (neg x), .slice A (dl x) c], .agg #[.bool (neg y), .slice B (dl y) d]] w fun e w' => ∃ v, e = .returned v ∧ RAt w' v (x + y) ∧ Below w.heap.size w w' := by
  by_cases h : neg x = neg y
  · rw [← h]
    exact add_same_r hx hy hn hm (neg x) (sg_add x y h)
  · have h2 : neg y = !neg x := by cases h3 : neg x <;> cases h4 : neg y <;> simp_all
    rw [h2]
    by_cases hlt : x.natAbs < y.natAbs
    · refine add_lt_r hx hy hm (neg x) ?_ hlt
      rw [← h2, sg_sub y x (fun h3 => h h3.symm) (by omega), Int.add_comm]
      exact rfl
    · exact add_ge_r hx hy hn (neg x) (sg_sub x y h (by omega)) hlt

theorem sub_r {A B : Option Addr} {c d : Nat} {x y : Int} {w : World} (hx : RIn w A c x) (hy : RIn w B d y) (hn : dl x ≤ 1000000) (hm : dl y ≤ 1000000) :
    Calls Try.prog 23 #[.agg #[.bool (neg x), .slice A (dl x) c], .agg #[.bool (neg y), .slice B (dl y) d]] w fun e w' => ∃ v, e = .returned v ∧ RAt w' v (x - y) ∧ Below w.heap.size w w' := by
  go_enter Try.func23, Try.ntmps23
  go_wp2_with fail
  go_region_held3 (fun w' => w'.cell? ⟨w.heap.size, 0, none⟩ = some (.bool (neg x)) ∧ w'.cell? ⟨w.heap.size, 1, none⟩ = some (.slice A (dl x) c) ∧ w'.cell? ⟨w.heap.size + 1, 0, none⟩ = some (.bool (neg y)) ∧ w'.cell? ⟨w.heap.size + 1, 1, none⟩ = some (.slice B (dl y) d)) (first | exact ⟨q0.c0, q0.c1, q1.c0, q1.c1⟩ | exact ⟨r0.c0, r0.c1, r1.c0, r1.c1⟩ | exact ⟨(r0.far2 (by omega) _ _).c0, (r0.far2 (by omega) _ _).c1, (r1.far2 (by omega) _ _).c0, (r1.far2 (by omega) _ _).c1⟩ | go_keep)
    (first | (go_at_call 17; refine (neg_r (RIn.below hy (by exact (below3 _ _ _ _).drew))).mono ?_; rintro e w1 ⟨v, rfl, ⟨A1, c1, rfl, hz1⟩, hb⟩; obtain ⟨q0, q1, q2, hbw, hs⟩ := boxes3 (undrew hb)) | (go_at_call 21; refine (add_r (RIn.below hx hbw) hz1 hn (by rw [dl_neg]; exact hm)).mono ?_; rintro e w2 ⟨v2, rfl, ⟨A2, c2, rfl, hz2⟩, hb2⟩; have r0 := q0.below hb2 q0.lt; have r1 := q1.below hb2 q1.lt; have r2 := q2.below hb2 q2.lt; have hc0 := r2.c0; have hc1 := r2.c1; have hf0 := r2.f 0; have hf1 := r2.f 1; have hs2 : w.heap.size + 1 + 1 < w2.heap.size := by have := hb2.size; omega))
  go_wp2
  rw [← Int.sub_eq_add_neg] at hz2 ⊢
  exact bodyPost_ret (v := .agg #[.bool (neg (x - y)), .slice A2 (dl (x - y)) c2]) (by simp [results, Try.results23, go_sem, hc0, hc1]) rfl ⟨_, rfl, ⟨_, _, rfl, U32.store2 hz2 hc0 hc1 _ _⟩, below_store2 (thru hbw hb2) (by omega) _ _⟩

end Go.Proofs.Ytnldopjbiacbfaa
