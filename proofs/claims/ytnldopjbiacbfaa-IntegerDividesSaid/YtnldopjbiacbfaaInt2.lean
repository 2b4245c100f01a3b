/- Sums and products of layer 2. No condition. -/
import Derived.Test.YtnldopjbiacbfaaInt1
namespace Go.Proofs.Ytnldopjbiacbfaa
open Go.RowKit Anv

theorem sg_mul (x y : Int) : sg (!neg x == neg y) (x.natAbs * y.natAbs) = x * y := by
  unfold sg neg
  rw [Int.natCast_mul]
  rcases Int.lt_or_le x 0 with h1 | h1 <;> rcases Int.lt_or_le y 0 with h2 | h2
  · rw [show (x.natAbs : Int) = -x from by omega, show (y.natAbs : Int) = -y from by omega]; simp [h1, h2, Int.neg_mul_neg]
  · rw [show (x.natAbs : Int) = -x from by omega, show (y.natAbs : Int) = y from by omega]; simp [h1, show ¬ y < 0 from by omega, Int.neg_mul]
  · rw [show (x.natAbs : Int) = x from by omega, show (y.natAbs : Int) = -y from by omega]; simp [h2, show ¬ x < 0 from by omega, Int.mul_neg]
  · rw [show (x.natAbs : Int) = x from by omega, show (y.natAbs : Int) = y from by omega]; simp [show ¬ y < 0 from by omega, show ¬ x < 0 from by omega]
theorem sg_add (x y : Int) (h : neg x = neg y) : sg (neg x) (x.natAbs + y.natAbs) = x + y := by
  unfold sg
  unfold neg at h ⊢
  rw [decide_eq_decide] at h
  by_cases h1 : x < 0
  · have h2 := h.1 h1
    simp [h1]; omega
  · have h2 : ¬ y < 0 := fun h3 => h1 (h.2 h3)
    simp [h1]; omega
theorem sg_sub (x y : Int) (h : neg x ≠ neg y) (hle : y.natAbs ≤ x.natAbs) : sg (neg x) (x.natAbs - y.natAbs) = x + y := by
  unfold sg
  unfold neg at h ⊢
  rw [Ne, decide_eq_decide] at h
  by_cases h1 : x < 0
  · have h2 : ¬ y < 0 := fun h3 => h ⟨fun _ => h3, fun _ => h1⟩
    simp [h1]; omega
  · have h2 : y < 0 := by
      rcases Int.lt_or_le y 0 with h3 | h3
      · exact h3
      · exact absurd ⟨fun h4 => absurd h4 h1, fun h4 => by omega⟩ h
    simp [h1]; omega

theorem mul_z {A B : Option Addr} {c d : Nat} {x y : Int} {w : World} (hx : ZIn w A c x) (hy : ZIn w B d y) (hn : zl x ≤ 1000000) (hm : zl y ≤ 1000000) :
    Calls Try.prog 24 #[.agg #[.bool (neg x), .slice A (zl x) c], .agg #[.bool (neg y), .slice B (zl y) d]] w fun e w' => ∃ v, e = .returned v ∧ ZAt w' v (x * y) ∧ Below w.heap.size w w' := by
  go_enter Try.func24, Try.ntmps24
  go_wp2_with fail
  go_region_held3 (fun w' => w'.cell? ⟨w.heap.size, 0, none⟩ = some (.bool (neg x)) ∧ w'.cell? ⟨w.heap.size, 1, none⟩ = some (.slice A (zl x) c) ∧ w'.cell? ⟨w.heap.size + 1, 0, none⟩ = some (.bool (neg y)) ∧ w'.cell? ⟨w.heap.size + 1, 1, none⟩ = some (.slice B (zl y) d)) (first | exact ⟨q0.c0, q0.c1, q1.c0, q1.c1⟩ | exact ⟨r0.c0, r0.c1, r1.c0, r1.c1⟩ | exact ⟨(r0.far2 (by omega) _ _).c0, (r0.far2 (by omega) _ _).c1, (r1.far2 (by omega) _ _).c0, (r1.far2 (by omega) _ _).c1⟩ | go_keep)
    (first | (go_at_call 56; refine (mul_num (NumIn.below (ZIn.num hx) (by exact (below3 _ _ _ _).drew)) (NumIn.below (ZIn.num hy) (by exact (below3 _ _ _ _).drew)) hn hm).mono ?_; rintro e w1 ⟨v, rfl, ⟨A1, c1, rfl, hU, hfr⟩, hb⟩; clear hfr; obtain ⟨q0, q1, q2, hbw, hs⟩ := boxes3 (undrew hb)) | (go_at_call 50; refine (made_num hU).mono ?_; rintro e w2 ⟨rfl, hz, hb2⟩; have r0 := q0.below hb2 q0.lt; have r1 := q1.below hb2 q1.lt; have r2 := q2.below hb2 q2.lt; have hc0 := r2.c0; have hc1 := r2.c1; have hf0 := r2.f 0; have hf1 := r2.f 1; have hs2 : w.heap.size + 1 + 1 < w2.heap.size := by have := hb2.size; omega))
  go_wp2
  have e := sg_mul x y
  rw [e] at hz ⊢
  exact bodyPost_ret (v := .agg #[.bool (neg (x * y)), .slice A1 (zl (x * y)) c1]) (by simp [results, Try.results24, go_sem, hc0, hc1]) rfl
    ⟨_, rfl, ⟨_, _, rfl, U32.store2 hz hc0 hc1 _ _⟩, below_store2 (thru hbw hb2) (by omega) _ _⟩

theorem add_same {A B : Option Addr} {c d : Nat} {x y : Int} {w : World} (hx : ZIn w A c x) (hy : ZIn w B d y) (hn : zl x ≤ 1000000) (hm : zl y ≤ 1000000) (bx : Bool) (HE : Hid (sg bx (x.natAbs + y.natAbs) = x + y)) :
    Calls Try.prog 20 #[.agg #[.bool bx, .slice A (zl x) c], .agg #[.bool bx, .slice B (zl y) d]] w fun e w' => ∃ v, e = .returned v ∧ ZAt w' v (x + y) ∧ Below w.heap.size w w' := by
  go_enter Try.func20, Try.ntmps20
  go_wp2_with fail
  go_region_held3 (fun w' => w'.cell? ⟨w.heap.size, 0, none⟩ = some (.bool bx) ∧ w'.cell? ⟨w.heap.size, 1, none⟩ = some (.slice A (zl x) c) ∧ w'.cell? ⟨w.heap.size + 1, 0, none⟩ = some (.bool bx) ∧ w'.cell? ⟨w.heap.size + 1, 1, none⟩ = some (.slice B (zl y) d)) (first | exact ⟨q0.c0, q0.c1, q1.c0, q1.c1⟩ | exact ⟨r0.c0, r0.c1, r1.c0, r1.c1⟩ | exact ⟨(r0.far2 (by omega) _ _).c0, (r0.far2 (by omega) _ _).c1, (r1.far2 (by omega) _ _).c0, (r1.far2 (by omega) _ _).c1⟩ | go_keep)
    (first | (go_at_call 52; refine (add_num (NumIn.below (ZIn.num hx) (by exact (below3 _ _ _ _).drew)) (NumIn.below (ZIn.num hy) (by exact (below3 _ _ _ _).drew)) hn hm).mono ?_; rintro e w1 ⟨v, rfl, ⟨A1, c1, rfl, hU, hfr⟩, hb⟩; clear hfr; obtain ⟨q0, q1, q2, hbw, hs⟩ := boxes3 (undrew hb)) | (go_at_call 50; refine (made_num hU).mono ?_; rintro e w2 ⟨rfl, hz, hb2⟩; have r0 := q0.below hb2 q0.lt; have r1 := q1.below hb2 q1.lt; have r2 := q2.below hb2 q2.lt; have hc0 := r2.c0; have hc1 := r2.c1; have hf0 := r2.f 0; have hf1 := r2.f 1; have hs2 : w.heap.size + 1 + 1 < w2.heap.size := by have := hb2.size; omega))
  go_wp2
  rw [HE.out] at hz ⊢
  exact bodyPost_ret (v := .agg #[.bool (neg (x + y)), .slice A1 (zl (x + y)) c1]) (by simp [results, Try.results20, go_sem, hc0, hc1]) rfl ⟨_, rfl, ⟨_, _, rfl, U32.store2 hz hc0 hc1 _ _⟩, below_store2 (thru hbw hb2) (by omega) _ _⟩

theorem add_lt {A B : Option Addr} {c d : Nat} {x y : Int} {w : World} (hx : ZIn w A c x) (hy : ZIn w B d y) (hm : zl y ≤ 1000000) (bx : Bool) (HE : Hid (sg (!bx) (y.natAbs - x.natAbs) = x + y)) (hlt : x.natAbs < y.natAbs) :
    Calls Try.prog 20 #[.agg #[.bool bx, .slice A (zl x) c], .agg #[.bool !bx, .slice B (zl y) d]] w fun e w' => ∃ v, e = .returned v ∧ ZAt w' v (x + y) ∧ Below w.heap.size w w' := by
  have hcb : cmpI x.natAbs y.natAbs < 0 := (cmpI_neg x.natAbs y.natAbs).2 hlt
  have hbd := cmpI_bd x.natAbs y.natAbs
  have ht : (bx == !bx) = false := by cases bx <;> rfl
  go_enter Try.func20, Try.ntmps20
  go_wp2_with fail
  refine (cmp_num' (NumIn.below (ZIn.num hx) (by exact (below3 _ _ _ _))) (NumIn.below (ZIn.num hy) (by exact (below3 _ _ _ _)))).mono ?_
  rintro e w1 ⟨rfl, hb⟩
  obtain ⟨q0, q1, q2, hbw, hs⟩ := boxes3 hb
  have a0 := q0.c0
  have a1 := q0.c1
  have a2 := q1.c0
  have a3 := q1.c1
  have a4 := q0.f 0
  have a5 := q0.f 1
  have a6 := q1.f 0
  have a7 := q1.f 1
  clear hb
  go_wp2_with fail
  have p0 := (q0.put (.bool !bx) (.slice B (zl y) d)).far2 (k := w.heap.size + 1) (by omega) (.bool bx) (.slice A (zl x) c)
  have p2 := (q2.far2 (k := w.heap.size) (by omega) (.bool !bx) (.slice B (zl y) d)).far2 (k := w.heap.size + 1) (by omega) (.bool bx) (.slice A (zl x) c)
  have hbW := below_store2 (below_store2 hbw (Nat.le_refl _) (.bool !bx) (.slice B (zl y) d)) (Nat.le_succ _) (.bool bx) (.slice A (zl x) c)
  refine (sub_num (NumIn.below (ZIn.num hy) (by exact hbW)) (NumIn.below (ZIn.num hx) (by exact hbW)) hm (Nat.le_of_lt hlt)).mono ?_
  rintro e w2 ⟨v, rfl, ⟨A1, c1, rfl, hU, hfr⟩, hb2⟩
  clear hfr
  have p2 := p2.below hb2 p2.lt
  have p0 := p0.below hb2 p0.lt
  have hc0 := p0.c0
  have hc1 := p0.c1
  have hd0 := p2.c0
  have hd1 := p2.c1
  have hf0 := p2.f 0
  have hf1 := p2.f 1
  have hs2 : w.heap.size + 1 + 1 < w2.heap.size := p2.lt
  clear p0 a0 a1 a2 a3 a4 a5 a6 a7
  go_wp2_with fail
  refine (made_num hU).mono ?_
  rintro e w3 ⟨rfl, hz, hb3⟩
  rw [HE.out] at hz ⊢
  have p3 := p2.below hb3 p2.lt
  have hd0 := p3.c0
  have hd1 := p3.c1
  have hf0 := p3.f 0
  have hf1 := p3.f 1
  have hs3 : w.heap.size + 1 + 1 < w3.heap.size := p3.lt
  go_wp2
  exact bodyPost_ret (v := .agg #[.bool (neg (x + y)), .slice A1 (zl (x + y)) c1]) (by simp [results, Try.results20, go_sem, hd0, hd1]) rfl ⟨_, rfl, ⟨_, _, rfl, U32.store2 hz hd0 hd1 _ _⟩, below_store2 (thru (thru hbW hb2) hb3) (by omega) _ _⟩

theorem add_ge {A B : Option Addr} {c d : Nat} {x y : Int} {w : World} (hx : ZIn w A c x) (hy : ZIn w B d y) (hn : zl x ≤ 1000000) (bx : Bool) (HE : Hid (sg bx (x.natAbs - y.natAbs) = x + y)) (hlt : ¬ x.natAbs < y.natAbs) :
    Calls Try.prog 20 #[.agg #[.bool bx, .slice A (zl x) c], .agg #[.bool !bx, .slice B (zl y) d]] w fun e w' => ∃ v, e = .returned v ∧ ZAt w' v (x + y) ∧ Below w.heap.size w w' := by
  have hcb : ¬ cmpI x.natAbs y.natAbs < 0 := fun h => hlt ((cmpI_neg x.natAbs y.natAbs).1 h)
  have hbd := cmpI_bd x.natAbs y.natAbs
  have ht : (bx == !bx) = false := by cases bx <;> rfl
  go_enter Try.func20, Try.ntmps20
  go_wp2_with fail
  refine (cmp_num' (NumIn.below (ZIn.num hx) (by exact (below3 _ _ _ _))) (NumIn.below (ZIn.num hy) (by exact (below3 _ _ _ _)))).mono ?_
  rintro e w1 ⟨rfl, hb⟩
  obtain ⟨q0, q1, q2, hbw, hs⟩ := boxes3 hb
  have a0 := q0.c0
  have a1 := q0.c1
  have a2 := q1.c0
  have a3 := q1.c1
  have a4 := q0.f 0
  have a5 := q0.f 1
  have a6 := q1.f 0
  have a7 := q1.f 1
  clear hb
  go_wp2_with fail
  have p0 := q0
  have p2 := q2
  have hbW := hbw
  refine (sub_num (NumIn.below (ZIn.num hx) (by exact hbW)) (NumIn.below (ZIn.num hy) (by exact hbW)) hn (by omega)).mono ?_
  rintro e w2 ⟨v, rfl, ⟨A1, c1, rfl, hU, hfr⟩, hb2⟩
  clear hfr
  have p2 := p2.below hb2 p2.lt
  have p0 := p0.below hb2 p0.lt
  have hc0 := p0.c0
  have hc1 := p0.c1
  have hd0 := p2.c0
  have hd1 := p2.c1
  have hf0 := p2.f 0
  have hf1 := p2.f 1
  have hs2 : w.heap.size + 1 + 1 < w2.heap.size := p2.lt
  clear p0 a0 a1 a2 a3 a4 a5 a6 a7
  go_wp2_with fail
  refine (made_num hU).mono ?_
  rintro e w3 ⟨rfl, hz, hb3⟩
  rw [HE.out] at hz ⊢
  have p3 := p2.below hb3 p2.lt
  have hd0 := p3.c0
  have hd1 := p3.c1
  have hf0 := p3.f 0
  have hf1 := p3.f 1
  have hs3 : w.heap.size + 1 + 1 < w3.heap.size := p3.lt
  go_wp2
  exact bodyPost_ret (v := .agg #[.bool (neg (x + y)), .slice A1 (zl (x + y)) c1]) (by simp [results, Try.results20, go_sem, hd0, hd1]) rfl ⟨_, rfl, ⟨_, _, rfl, U32.store2 hz hd0 hd1 _ _⟩, below_store2 (thru (thru hbW hb2) hb3) (by omega) _ _⟩

theorem add_z {A B : Option Addr} {c d : Nat} {x y : Int} {w : World} (hx : ZIn w A c x) (hy : ZIn w B d y) (hn : zl x ≤ 1000000) (hm : zl y ≤ 1000000) :
    Calls Try.prog 20 #[.agg #[.bool (neg x), .slice A (zl x) c], .agg #[.bool (neg y), .slice B (zl y) d]] w fun e w' => ∃ v, e = .returned v ∧ ZAt w' v (x + y) ∧ Below w.heap.size w w' := by
  by_cases h : neg x = neg y
  · rw [← h]
    exact add_same hx hy hn hm (neg x) (sg_add x y h)
  · have h2 : neg y = !neg x := by cases h3 : neg x <;> cases h4 : neg y <;> simp_all
    rw [h2]
    by_cases hlt : x.natAbs < y.natAbs
    · refine add_lt hx hy hm (neg x) ?_ hlt
      rw [← h2, sg_sub y x (fun h3 => h h3.symm) (by omega), Int.add_comm]
      exact rfl
    · exact add_ge hx hy hn (neg x) (sg_sub x y h (by omega)) hlt

end Go.Proofs.Ytnldopjbiacbfaa
