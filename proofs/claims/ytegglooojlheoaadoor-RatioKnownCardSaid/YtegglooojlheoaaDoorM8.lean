/- The small functions of layer 2. No condition. -/
import Derived.Test.YtegglooojlheoaaDoorM7
import Derived.Deep.RegionHeld3
import Derived.Test.YtegglooojlheoaaDoorM1

namespace Go.Proofs.YtegglooojlheoaaDoor
open Go.RowKit Anv
def neg (z : Int) : Bool := decide (z < 0)
def zl (z : Int) : Nat := nl z.natAbs
def ZIn (w : World) (A : Option Addr) (c : Nat) (z : Int) : Prop := U32 w A (zl z) c (L z.natAbs)
def ZAt (w : World) (v : Value) (z : Int) : Prop := ∃ A c, v = .agg #[.bool (neg z), .slice A (zl z) c] ∧ ZIn w A c z
def sg (b : Bool) (N : Nat) : Int := if b then -(N : Int) else (N : Int)
theorem nl_zero : nl 0 = 0 := by unfold nl; rw [L_zero]; rfl
theorem nl_pos {N : Nat} (h : 0 < N) : 0 < nl N := by
  unfold nl L; rw [dig_pos (by omega) h]; simp
theorem nl_dpos (N : Nat) : decide (0 < nl N) = decide (0 < N) := by
  rcases Nat.eq_zero_or_pos N with h | h
  · subst h; rw [nl_zero]
  · have := nl_pos h; simp [h, this]
theorem sg_abs (b : Bool) (N : Nat) : (sg b N).natAbs = N := by unfold sg; split <;> omega
theorem sg_neg (b : Bool) (N : Nat) : neg (sg b N) = (b && decide (0 < N)) := by
  unfold sg neg; cases b <;> simp <;> omega
theorem sg_zl (b : Bool) (N : Nat) : zl (sg b N) = nl N := by unfold zl; rw [sg_abs]
theorem sg_self (z : Int) : sg (neg z) z.natAbs = z := by
  unfold sg neg; by_cases h : z < 0 <;> simp [h] <;> omega
theorem ZIn.num {w : World} {A : Option Addr} {c : Nat} {z : Int} (h : ZIn w A c z) : NumIn w A (zl z) c z.natAbs := ⟨_, h, val_L _⟩
theorem ZIn.below {w w' : World} {A : Option Addr} {c : Nat} {z : Int} (h : ZIn w A c z) (hb : Below w.heap.size w w') : ZIn w' A c z := U32.below h hb
theorem ZAt.below {w w' : World} {v : Value} {z : Int} (h : ZAt w v z) (hb : Below w.heap.size w w') : ZAt w' v z := by
  obtain ⟨A, c, rfl, hz⟩ := h
  exact ⟨A, c, rfl, hz.below hb⟩
theorem bcell {W w1 : World} (hb : Below W.heap.size W w1) : (∀ b o, b < W.heap.size → w1.cell? ⟨b, o, none⟩ = W.cell? ⟨b, o, none⟩) ∧ (∀ b o, b < W.heap.size → w1.frozen? ⟨b, o, none⟩ = W.frozen? ⟨b, o, none⟩) :=
  ⟨fun b o h => hb.cell (p := ⟨b, o, none⟩) h, fun b o h => hb.frozen (p := ⟨b, o, none⟩) h⟩
theorem undrew {B : Nat} {w w1 : World} (h : Below B w.drew w1) : Below B w w1 := ⟨h.os, h.tape, h.output, h.size, h.block⟩
def Box2 (t : TypeId) (w : World) (g : Nat) (a b : Value) : Prop := w.heap[g]? = some (.cells #[a, b] t (0, 0))
section
variable {t : TypeId} {w w' : World} {g : Nat} {a b : Value}
theorem Box2.lt (h : Box2 t w g a b) : g < w.heap.size := by
  rcases Nat.lt_or_ge g w.heap.size with hlt | hge
  · exact hlt
  · unfold Box2 at h; rw [Array.getElem?_eq_none hge] at h; cases h
theorem Box2.c0 (h : Box2 t w g a b) : w.cell? ⟨g, 0, none⟩ = some a := by rw [cell_of_row w g 0 _ t (0, 0) h]; rfl
theorem Box2.c1 (h : Box2 t w g a b) : w.cell? ⟨g, 1, none⟩ = some b := by rw [cell_of_row w g 1 _ t (0, 0) h]; rfl
theorem Box2.f (h : Box2 t w g a b) (i : Nat) : w.frozen? ⟨g, i, none⟩ = false := by unfold Box2 at h; simp [World.frozen?, h]
theorem Box2.below {B : Nat} (h : Box2 t w g a b) (hb : Below B w w') (hg : g < B) : Box2 t w' g a b := (hb.block g hg).trans h
theorem Box2.alloc (h : Box2 t w g a b) (o : Obj) : Box2 t (w.alloc o) g a b := (Below.heap_alloc w o g h.lt).trans h
theorem Box2.far (h : Box2 t w g a b) {p : Addr} (hp : g ≠ p.block) (u : Value) : Box2 t (w.setCell p u) g a b := (Below.heap_setCell w p u g hp).trans h
theorem Box2.far2 (h : Box2 t w g a b) {k : Nat} (hp : g ≠ k) (u u' : Value) : Box2 t ((w.setCell ⟨k, 0, none⟩ u).setCell ⟨k, 1, none⟩ u') g a b := (h.far (p := ⟨k, 0, none⟩) hp u).far (p := ⟨k, 1, none⟩) hp u'
theorem Box2.put (h : Box2 t w g a b) (u u' : Value) : Box2 t ((w.setCell ⟨g, 0, none⟩ u).setCell ⟨g, 1, none⟩ u') g u u' := by
  unfold Box2 at h ⊢
  simp [World.setCell, Array.getElem?_modify, h]
theorem Box2.new (w : World) (t : TypeId) (a b : Value) : Box2 t (w.alloc (.cells #[a, b] t)) w.heap.size a b := heap_alloc_new w _
end
theorem size3 (w : World) (o o' o'' : Obj) : (((w.alloc o).alloc o').alloc o'').heap.size = w.heap.size + 1 + 1 + 1 := by simp
theorem boxes3 {t t' t'' : TypeId} {w w1 : World} {a0 a1 b0 b1 z0 z1 : Value}
    (hb : Below (((w.alloc (.cells #[a0, a1] t)).alloc (.cells #[b0, b1] t')).alloc (.cells #[z0, z1] t'')).heap.size (((w.alloc (.cells #[a0, a1] t)).alloc (.cells #[b0, b1] t')).alloc (.cells #[z0, z1] t'')) w1) :
    Box2 t w1 w.heap.size a0 a1 ∧ Box2 t' w1 (w.heap.size + 1) b0 b1 ∧ Box2 t'' w1 (w.heap.size + 1 + 1) z0 z1 ∧ Below w.heap.size w w1 ∧ w.heap.size + 1 + 1 < w1.heap.size := by
  have e1 : (w.alloc (.cells #[a0, a1] t)).heap.size = w.heap.size + 1 := by simp
  have e2 : ((w.alloc (.cells #[a0, a1] t)).alloc (.cells #[b0, b1] t')).heap.size = w.heap.size + 1 + 1 := by simp
  have e3 : (((w.alloc (.cells #[a0, a1] t)).alloc (.cells #[b0, b1] t')).alloc (.cells #[z0, z1] t'')).heap.size = w.heap.size + 1 + 1 + 1 := by simp
  have h1 := ((Box2.new w t a0 a1).alloc (.cells #[b0, b1] t')).alloc (.cells #[z0, z1] t'')
  have h2 := (Box2.new (w.alloc (.cells #[a0, a1] t)) t' b0 b1).alloc (.cells #[z0, z1] t'')
  have h3 := Box2.new ((w.alloc (.cells #[a0, a1] t)).alloc (.cells #[b0, b1] t')) t'' z0 z1
  rw [e1] at h2
  rw [e2] at h3
  refine ⟨h1.below hb (by omega), h2.below hb (by omega), h3.below hb (by omega), thru (below3 _ _ _ _) hb, ?_⟩
  have := hb.size
  omega
theorem sg_not (z : Int) : sg (!neg z) z.natAbs = -z := by
  unfold sg neg; by_cases h : z < 0 <;> simp [h] <;> omega
theorem sg_false (z : Int) : sg false z.natAbs = (z.natAbs : Int) := rfl
theorem made_any (b : Bool) (A : Option Addr) (n c : Nat) (w : World) :
    Calls Tryd.prog 95 #[.bool b, .slice A n c] w fun e w' => e = .returned (.agg #[.bool (b && decide (0 < n)), .slice A n c]) ∧ Below w.heap.size w w' := by
  cases b
  all_goals
    go_enter Tryd.func95, Tryd.ntmps95
    go_wp2
  · exact bodyPost_ret (v := .agg #[.bool (false && decide (0 < n)), .slice A n c]) (by simp [results, Tryd.results95, go_sem]) rfl ⟨rfl, (Below.refl _ _).alloc (Nat.le_refl _) _⟩
  · exact bodyPost_ret (v := .agg #[.bool (true && decide (0 < n)), .slice A n c]) (by simp [results, Tryd.results95, go_sem]) rfl ⟨rfl, (Below.refl _ _).alloc (Nat.le_refl _) _⟩
theorem made_num {b : Bool} {A : Option Addr} {c N : Nat} {w : World} (h : U32 w A (nl N) c (L N)) :
    Calls Tryd.prog 95 #[.bool b, .slice A (nl N) c] w fun e w' => e = .returned (.agg #[.bool (neg (sg b N)), .slice A (zl (sg b N)) c]) ∧ ZIn w' A c (sg b N) ∧ Below w.heap.size w w' := by
  refine (made_any b A (nl N) c w).mono ?_
  rintro e w' ⟨rfl, hb⟩
  refine ⟨?_, ?_, hb⟩
  · rw [sg_neg, sg_zl, nl_dpos]
  · unfold ZIn; rw [sg_zl, sg_abs]; exact h.below hb
theorem sign_z {A : Option Addr} {c : Nat} {z : Int} {w : World} :
    Calls Tryd.prog 31 #[.agg #[.bool (neg z), .slice A (zl z) c]] w fun e w' => e = .returned (.int .i64 z.sign) ∧ Below w.heap.size w w' := by
  rcases Int.lt_trichotomy z 0 with h | h | h
  · have h1 : neg z = true := by unfold neg; simp [h]
    have h2 : 0 < zl z := nl_pos (by omega)
    have h3 : ((zl z : Int) == 0) = false := by simp; omega
    have h4 : z.sign = -1 := Int.sign_eq_neg_one_of_neg h
    rw [h1, h4]
    clear h1 h4 h
    go_enter Tryd.func31, Tryd.ntmps31
    go_wp2
    go_ret
    exact ⟨rfl, (Below.refl _ _).alloc (Nat.le_refl _) _⟩
  · subst h
    have h1 : neg 0 = false := by unfold neg; simp
    have h2 : zl 0 = 0 := nl_zero
    rw [h1, h2]
    clear h1 h2
    go_enter Tryd.func31, Tryd.ntmps31
    go_wp2
    go_ret
    exact ⟨rfl, (Below.refl _ _).alloc (Nat.le_refl _) _⟩
  · have h1 : neg z = false := by unfold neg; simp; omega
    have h2 : 0 < zl z := nl_pos (by omega)
    have h3 : ((zl z : Int) == 0) = false := by simp; omega
    have h4 : z.sign = 1 := Int.sign_eq_one_of_pos h
    rw [h1, h4]
    clear h1 h4 h
    go_enter Tryd.func31, Tryd.ntmps31
    go_wp2
    go_ret
    exact ⟨rfl, (Below.refl _ _).alloc (Nat.le_refl _) _⟩
theorem neg_z {A : Option Addr} {c : Nat} {z : Int} {w : World} (h : ZIn w A c z) :
    Calls Tryd.prog 103 #[.agg #[.bool (neg z), .slice A (zl z) c]] w fun e w' => ∃ v, e = .returned v ∧ ZAt w' v (-z) ∧ Below w.heap.size w w' := by
  go_enter Tryd.func103, Tryd.ntmps103
  go_wp2_with fail
  refine (made_num (h.below (below2 _ _ _))).mono ?_
  rintro e w1 ⟨rfl, hz, hb⟩
  rw [sg_not] at hz ⊢
  have HZ := Lib.hid hz
  clear hz
  obtain ⟨hc, hf⟩ := bcell hb
  have hs : w.heap.size + 1 < w1.heap.size := by have := hb.size; simp at this; omega
  go_wp2
  exact bodyPost_ret (v := .agg #[.bool (neg (-z)), .slice A (zl (-z)) c]) (by simp [results, Tryd.results103, go_sem, hc]) rfl
    ⟨_, rfl, ⟨_, _, rfl, U32.store2 HZ.out (by simp [hc]) (by simp [hc]) _ _⟩, below_store2 (thru (below2 _ _ _) hb) (by omega) _ _⟩
theorem abs_z {A : Option Addr} {c : Nat} {z : Int} {w : World} (h : ZIn w A c z) :
    Calls Tryd.prog 86 #[.agg #[.bool (neg z), .slice A (zl z) c]] w fun e w' => ∃ v, e = .returned v ∧ ZAt w' v (z.natAbs : Int) ∧ Below w.heap.size w w' := by
  go_enter Tryd.func86, Tryd.ntmps86
  go_wp2_with fail
  refine (made_num (h.below (below2 _ _ _))).mono ?_
  rintro e w1 ⟨rfl, hz, hb⟩
  rw [sg_false] at hz ⊢
  have HZ := Lib.hid hz
  clear hz
  obtain ⟨hc, hf⟩ := bcell hb
  have hs : w.heap.size + 1 < w1.heap.size := by have := hb.size; simp at this; omega
  go_wp2
  exact bodyPost_ret (v := .agg #[.bool (neg (z.natAbs : Int)), .slice A (zl (z.natAbs : Int)) c]) (by simp [results, Tryd.results86, go_sem, hc]) rfl
    ⟨_, rfl, ⟨_, _, rfl, U32.store2 HZ.out (by simp [hc]) (by simp [hc]) _ _⟩, below_store2 (thru (below2 _ _ _) hb) (by omega) _ _⟩
theorem make_z {b : Bool} {A : Option Addr} {n c N : Nat} {w : World} (h : NumIn w A n c N) (hN : nl N ≤ 1000000) :
    Calls Tryd.prog 19 #[.bool b, .slice A n c] w fun e w' => ∃ v, e = .returned v ∧ ZAt w' v (sg b N) ∧ Below w.heap.size w w' := by
  go_enter Tryd.func19, Tryd.ntmps19
  go_wp2_with fail
  refine (norm_num (h.below (below1 _ _)) hN).mono ?_
  rintro e w1 ⟨v, rfl, ⟨A1, c1, rfl, hU, hfr⟩, hb⟩
  clear hfr
  go_wp2_with fail
  refine (made_num hU).mono ?_
  rintro e w2 ⟨rfl, hz, hb2⟩
  have HZ := Lib.hid hz
  clear hz hU
  have hb4 := thru hb hb2
  obtain ⟨hc, hf⟩ := bcell hb4
  have hs : w.heap.size < w2.heap.size := by have := hb4.size; simp at this; omega
  go_wp2
  exact bodyPost_ret (v := .agg #[.bool (neg (sg b N)), .slice A1 (zl (sg b N)) c1]) (by simp [results, Tryd.results19, go_sem, hc]) rfl
    ⟨_, rfl, ⟨_, _, rfl, U32.store2 HZ.out (by simp [hc]) (by simp [hc]) _ _⟩, below_store2 (thru (below1 _ _) hb4) (by omega) _ _⟩
end Go.Proofs.YtegglooojlheoaaDoor

/- Sums and products of layer 2. No condition. -/
namespace Go.Proofs.YtegglooojlheoaaDoor
open Go.RowKit Anv
theorem sg_mul (x y : Int) : sg (!neg x == neg y) (x.natAbs * y.natAbs) = x * y := by
  unfold sg neg
  rw [Int.natCast_mul]
  rcases Int.lt_or_le x 0 with h1 | h1 <;> rcases Int.lt_or_le y 0 with h2 | h2
  · rw [show (x.natAbs : Int) = -x from by omega, show (y.natAbs : Int) = -y from by omega]; simp [h1, h2, Int.neg_mul_neg]
  · rw [show (x.natAbs : Int) = -x from by omega, show (y.natAbs : Int) = y from by omega]; simp [h1, show ¬ y < 0 from by omega, Int.neg_mul]
  · rw [show (x.natAbs : Int) = x from by omega, show (y.natAbs : Int) = -y from by omega]; simp [h2, show ¬ x < 0 from by omega, Int.mul_neg]
  · rw [show (x.natAbs : Int) = x from by omega, show (y.natAbs : Int) = y from by omega]; simp [show ¬ y < 0 from by omega, show ¬ x < 0 from by omega]
theorem sg_add (x y : Int) (h : neg x = neg y) : sg (neg x) (x.natAbs + y.natAbs) = x + y := by
  unfold sg
  unfold neg at h ⊢
  rw [decide_eq_decide] at h
  by_cases h1 : x < 0
  · have h2 := h.1 h1
    simp [h1]; omega
  · have h2 : ¬ y < 0 := fun h3 => h1 (h.2 h3)
    simp [h1]; omega
theorem sg_sub (x y : Int) (h : neg x ≠ neg y) (hle : y.natAbs ≤ x.natAbs) : sg (neg x) (x.natAbs - y.natAbs) = x + y := by
  unfold sg
  unfold neg at h ⊢
  rw [Ne, decide_eq_decide] at h
  by_cases h1 : x < 0
  · have h2 : ¬ y < 0 := fun h3 => h ⟨fun _ => h3, fun _ => h1⟩
    simp [h1]; omega
  · have h2 : y < 0 := by
      rcases Int.lt_or_le y 0 with h3 | h3
      · exact h3
      · exact absurd ⟨fun h4 => absurd h4 h1, fun h4 => by omega⟩ h
    simp [h1]; omega
theorem mul_z {A B : Option Addr} {c d : Nat} {x y : Int} {w : World} (hx : ZIn w A c x) (hy : ZIn w B d y) (hn : zl x ≤ 1000000) (hm : zl y ≤ 1000000) :
    Calls Tryd.prog 84 #[.agg #[.bool (neg x), .slice A (zl x) c], .agg #[.bool (neg y), .slice B (zl y) d]] w fun e w' => ∃ v, e = .returned v ∧ ZAt w' v (x * y) ∧ Below w.heap.size w w' := by
  go_enter Tryd.func84, Tryd.ntmps84
  go_wp2_with fail
  go_region_held3 (fun w' => w'.cell? ⟨w.heap.size, 0, none⟩ = some (.bool (neg x)) ∧ w'.cell? ⟨w.heap.size, 1, none⟩ = some (.slice A (zl x) c) ∧ w'.cell? ⟨w.heap.size + 1, 0, none⟩ = some (.bool (neg y)) ∧ w'.cell? ⟨w.heap.size + 1, 1, none⟩ = some (.slice B (zl y) d)) (first | exact ⟨q0.c0, q0.c1, q1.c0, q1.c1⟩ | exact ⟨r0.c0, r0.c1, r1.c0, r1.c1⟩ | exact ⟨(r0.far2 (by omega) _ _).c0, (r0.far2 (by omega) _ _).c1, (r1.far2 (by omega) _ _).c0, (r1.far2 (by omega) _ _).c1⟩ | go_keep)
    (first | (go_at_call 131; refine (mul_num (NumIn.below (ZIn.num hx) (by exact (below3 _ _ _ _).drew)) (NumIn.below (ZIn.num hy) (by exact (below3 _ _ _ _).drew)) hn hm).mono ?_; rintro e w1 ⟨v, rfl, ⟨A1, c1, rfl, hU, hfr⟩, hb⟩; clear hfr; obtain ⟨q0, q1, q2, hbw, hs⟩ := boxes3 (undrew hb)) | (go_at_call 95; refine (made_num hU).mono ?_; rintro e w2 ⟨rfl, hz, hb2⟩; have r0 := q0.below hb2 q0.lt; have r1 := q1.below hb2 q1.lt; have r2 := q2.below hb2 q2.lt; have hc0 := r2.c0; have hc1 := r2.c1; have hf0 := r2.f 0; have hf1 := r2.f 1; have hs2 : w.heap.size + 1 + 1 < w2.heap.size := by have := hb2.size; omega))
  go_wp2
  have e := sg_mul x y
  rw [e] at hz ⊢
  exact bodyPost_ret (v := .agg #[.bool (neg (x * y)), .slice A1 (zl (x * y)) c1]) (by simp [results, Tryd.results84, go_sem, hc0, hc1]) rfl
    ⟨_, rfl, ⟨_, _, rfl, U32.store2 hz hc0 hc1 _ _⟩, below_store2 (thru hbw hb2) (by omega) _ _⟩
theorem add_same {A B : Option Addr} {c d : Nat} {x y : Int} {w : World} (hx : ZIn w A c x) (hy : ZIn w B d y) (hn : zl x ≤ 1000000) (hm : zl y ≤ 1000000) (bx : Bool) (HE : Hid (sg bx (x.natAbs + y.natAbs) = x + y)) :
    Calls Tryd.prog 85 #[.agg #[.bool bx, .slice A (zl x) c], .agg #[.bool bx, .slice B (zl y) d]] w fun e w' => ∃ v, e = .returned v ∧ ZAt w' v (x + y) ∧ Below w.heap.size w w' := by
  go_enter Tryd.func85, Tryd.ntmps85
  go_wp2_with fail
  go_region_held3 (fun w' => w'.cell? ⟨w.heap.size, 0, none⟩ = some (.bool bx) ∧ w'.cell? ⟨w.heap.size, 1, none⟩ = some (.slice A (zl x) c) ∧ w'.cell? ⟨w.heap.size + 1, 0, none⟩ = some (.bool bx) ∧ w'.cell? ⟨w.heap.size + 1, 1, none⟩ = some (.slice B (zl y) d)) (first | exact ⟨q0.c0, q0.c1, q1.c0, q1.c1⟩ | exact ⟨r0.c0, r0.c1, r1.c0, r1.c1⟩ | exact ⟨(r0.far2 (by omega) _ _).c0, (r0.far2 (by omega) _ _).c1, (r1.far2 (by omega) _ _).c0, (r1.far2 (by omega) _ _).c1⟩ | go_keep)
    (first | (go_at_call 132; refine (add_num (NumIn.below (ZIn.num hx) (by exact (below3 _ _ _ _).drew)) (NumIn.below (ZIn.num hy) (by exact (below3 _ _ _ _).drew)) hn hm).mono ?_; rintro e w1 ⟨v, rfl, ⟨A1, c1, rfl, hU, hfr⟩, hb⟩; clear hfr; obtain ⟨q0, q1, q2, hbw, hs⟩ := boxes3 (undrew hb)) | (go_at_call 95; refine (made_num hU).mono ?_; rintro e w2 ⟨rfl, hz, hb2⟩; have r0 := q0.below hb2 q0.lt; have r1 := q1.below hb2 q1.lt; have r2 := q2.below hb2 q2.lt; have hc0 := r2.c0; have hc1 := r2.c1; have hf0 := r2.f 0; have hf1 := r2.f 1; have hs2 : w.heap.size + 1 + 1 < w2.heap.size := by have := hb2.size; omega))
  go_wp2
  rw [HE.out] at hz ⊢
  exact bodyPost_ret (v := .agg #[.bool (neg (x + y)), .slice A1 (zl (x + y)) c1]) (by simp [results, Tryd.results85, go_sem, hc0, hc1]) rfl ⟨_, rfl, ⟨_, _, rfl, U32.store2 hz hc0 hc1 _ _⟩, below_store2 (thru hbw hb2) (by omega) _ _⟩
theorem add_lt {A B : Option Addr} {c d : Nat} {x y : Int} {w : World} (hx : ZIn w A c x) (hy : ZIn w B d y) (hm : zl y ≤ 1000000) (bx : Bool) (HE : Hid (sg (!bx) (y.natAbs - x.natAbs) = x + y)) (hlt : x.natAbs < y.natAbs) :
    Calls Tryd.prog 85 #[.agg #[.bool bx, .slice A (zl x) c], .agg #[.bool !bx, .slice B (zl y) d]] w fun e w' => ∃ v, e = .returned v ∧ ZAt w' v (x + y) ∧ Below w.heap.size w w' := by
  have hcb : cmpI x.natAbs y.natAbs < 0 := (cmpI_neg x.natAbs y.natAbs).2 hlt
  have hbd := cmpI_bd x.natAbs y.natAbs
  have ht : (bx == !bx) = false := by cases bx <;> rfl
  go_enter Tryd.func85, Tryd.ntmps85
  go_wp2_with fail
  refine (cmp_num' (NumIn.below (ZIn.num hx) (by exact (below3 _ _ _ _))) (NumIn.below (ZIn.num hy) (by exact (below3 _ _ _ _)))).mono ?_
  rintro e w1 ⟨rfl, hb⟩
  obtain ⟨q0, q1, q2, hbw, hs⟩ := boxes3 hb
  have a0 := q0.c0
  have a1 := q0.c1
  have a2 := q1.c0
  have a3 := q1.c1
  have a4 := q0.f 0
  have a5 := q0.f 1
  have a6 := q1.f 0
  have a7 := q1.f 1
  clear hb
  go_wp2_with fail
  have p0 := (q0.put (.bool !bx) (.slice B (zl y) d)).far2 (k := w.heap.size + 1) (by omega) (.bool bx) (.slice A (zl x) c)
  have p2 := (q2.far2 (k := w.heap.size) (by omega) (.bool !bx) (.slice B (zl y) d)).far2 (k := w.heap.size + 1) (by omega) (.bool bx) (.slice A (zl x) c)
  have hbW := below_store2 (below_store2 hbw (Nat.le_refl _) (.bool !bx) (.slice B (zl y) d)) (Nat.le_succ _) (.bool bx) (.slice A (zl x) c)
  refine (sub_num (NumIn.below (ZIn.num hy) (by exact hbW)) (NumIn.below (ZIn.num hx) (by exact hbW)) hm (Nat.le_of_lt hlt)).mono ?_
  rintro e w2 ⟨v, rfl, ⟨A1, c1, rfl, hU, hfr⟩, hb2⟩
  clear hfr
  have p2 := p2.below hb2 p2.lt
  have p0 := p0.below hb2 p0.lt
  have hc0 := p0.c0
  have hc1 := p0.c1
  have hd0 := p2.c0
  have hd1 := p2.c1
  have hf0 := p2.f 0
  have hf1 := p2.f 1
  have hs2 : w.heap.size + 1 + 1 < w2.heap.size := p2.lt
  clear p0 a0 a1 a2 a3 a4 a5 a6 a7
  go_wp2_with fail
  refine (made_num hU).mono ?_
  rintro e w3 ⟨rfl, hz, hb3⟩
  rw [HE.out] at hz ⊢
  have p3 := p2.below hb3 p2.lt
  have hd0 := p3.c0
  have hd1 := p3.c1
  have hf0 := p3.f 0
  have hf1 := p3.f 1
  have hs3 : w.heap.size + 1 + 1 < w3.heap.size := p3.lt
  go_wp2
  exact bodyPost_ret (v := .agg #[.bool (neg (x + y)), .slice A1 (zl (x + y)) c1]) (by simp [results, Tryd.results85, go_sem, hd0, hd1]) rfl ⟨_, rfl, ⟨_, _, rfl, U32.store2 hz hd0 hd1 _ _⟩, below_store2 (thru (thru hbW hb2) hb3) (by omega) _ _⟩
theorem add_ge {A B : Option Addr} {c d : Nat} {x y : Int} {w : World} (hx : ZIn w A c x) (hy : ZIn w B d y) (hn : zl x ≤ 1000000) (bx : Bool) (HE : Hid (sg bx (x.natAbs - y.natAbs) = x + y)) (hlt : ¬ x.natAbs < y.natAbs) :
    Calls Tryd.prog 85 #[.agg #[.bool bx, .slice A (zl x) c], .agg #[.bool !bx, .slice B (zl y) d]] w fun e w' => ∃ v, e = .returned v ∧ ZAt w' v (x + y) ∧ Below w.heap.size w w' := by
  have hcb : ¬ cmpI x.natAbs y.natAbs < 0 := fun h => hlt ((cmpI_neg x.natAbs y.natAbs).1 h)
  have hbd := cmpI_bd x.natAbs y.natAbs
  have ht : (bx == !bx) = false := by cases bx <;> rfl
  go_enter Tryd.func85, Tryd.ntmps85
  go_wp2_with fail
  refine (cmp_num' (NumIn.below (ZIn.num hx) (by exact (below3 _ _ _ _))) (NumIn.below (ZIn.num hy) (by exact (below3 _ _ _ _)))).mono ?_
  rintro e w1 ⟨rfl, hb⟩
  obtain ⟨q0, q1, q2, hbw, hs⟩ := boxes3 hb
  have a0 := q0.c0
  have a1 := q0.c1
  have a2 := q1.c0
  have a3 := q1.c1
  have a4 := q0.f 0
  have a5 := q0.f 1
  have a6 := q1.f 0
  have a7 := q1.f 1
  clear hb
  go_wp2_with fail
  have p0 := q0
  have p2 := q2
  have hbW := hbw
  refine (sub_num (NumIn.below (ZIn.num hx) (by exact hbW)) (NumIn.below (ZIn.num hy) (by exact hbW)) hn (by omega)).mono ?_
  rintro e w2 ⟨v, rfl, ⟨A1, c1, rfl, hU, hfr⟩, hb2⟩
  clear hfr
  have p2 := p2.below hb2 p2.lt
  have p0 := p0.below hb2 p0.lt
  have hc0 := p0.c0
  have hc1 := p0.c1
  have hd0 := p2.c0
  have hd1 := p2.c1
  have hf0 := p2.f 0
  have hf1 := p2.f 1
  have hs2 : w.heap.size + 1 + 1 < w2.heap.size := p2.lt
  clear p0 a0 a1 a2 a3 a4 a5 a6 a7
  go_wp2_with fail
  refine (made_num hU).mono ?_
  rintro e w3 ⟨rfl, hz, hb3⟩
  rw [HE.out] at hz ⊢
  have p3 := p2.below hb3 p2.lt
  have hd0 := p3.c0
  have hd1 := p3.c1
  have hf0 := p3.f 0
  have hf1 := p3.f 1
  have hs3 : w.heap.size + 1 + 1 < w3.heap.size := p3.lt
  go_wp2
  exact bodyPost_ret (v := .agg #[.bool (neg (x + y)), .slice A1 (zl (x + y)) c1]) (by simp [results, Tryd.results85, go_sem, hd0, hd1]) rfl ⟨_, rfl, ⟨_, _, rfl, U32.store2 hz hd0 hd1 _ _⟩, below_store2 (thru (thru hbW hb2) hb3) (by omega) _ _⟩
theorem add_z {A B : Option Addr} {c d : Nat} {x y : Int} {w : World} (hx : ZIn w A c x) (hy : ZIn w B d y) (hn : zl x ≤ 1000000) (hm : zl y ≤ 1000000) :
    Calls Tryd.prog 85 #[.agg #[.bool (neg x), .slice A (zl x) c], .agg #[.bool (neg y), .slice B (zl y) d]] w fun e w' => ∃ v, e = .returned v ∧ ZAt w' v (x + y) ∧ Below w.heap.size w w' := by
  by_cases h : neg x = neg y
  · rw [← h]
    exact add_same hx hy hn hm (neg x) (sg_add x y h)
  · have h2 : neg y = !neg x := by cases h3 : neg x <;> cases h4 : neg y <;> simp_all
    rw [h2]
    by_cases hlt : x.natAbs < y.natAbs
    · refine add_lt hx hy hm (neg x) ?_ hlt
      rw [← h2, sg_sub y x (fun h3 => h h3.symm) (by omega), Int.add_comm]
      exact rfl
    · exact add_ge hx hy hn (neg x) (sg_sub x y h (by omega)) hlt
end Go.Proofs.YtegglooojlheoaaDoor

/- limb.Shr. No condition. -/
namespace Go.Proofs.YtegglooojlheoaaDoor
open Go.RowKit Anv
theorem join_val (x y : Nat) (hx : x < 4294967296) (hy : y < 4294967296) : bits .or .u64 (x : Int) ((y : Int) * 4294967296) = ((x + 4294967296 * y : Nat) : Int) := by
  have h := u64_or_nat x (y * 4294967296) (by omega) (by omega)
  rw [Int.natCast_mul] at h
  rw [show ((4294967296 : Nat) : Int) = 4294967296 from rfl] at h
  rw [h]
  have := low_or 32 y x (by omega)
  rw [show (2 : Nat) ^ 32 = 4294967296 from rfl] at this
  rw [this, Nat.mul_comm]
theorem drop_len (N d : Nat) : ((L N).drop d).length = nl N - d := by rw [List.length_drop]; rfl
theorem val_drop_L (N d : Nat) : val 4294967296 ((L N).drop d) = N / 4294967296 ^ d := by
  have h1 : val 4294967296 (L N) = val 4294967296 ((L N).take d) + 4294967296 ^ ((L N).take d).length * val 4294967296 ((L N).drop d) := by
    conv => lhs; rw [← List.take_append_drop d (L N)]
    rw [val_append]
  rw [val_L] at h1
  have h2 := val_lt ((L_lt N).take d)
  rcases Nat.lt_or_ge (L N).length d with h | h
  · rw [List.drop_eq_nil_of_le (by omega)]
    have h3 := val_lt (L_lt N)
    rw [val_L] at h3
    have h4 : (4294967296 : Nat) ^ (L N).length ≤ 4294967296 ^ d := Nat.pow_le_pow_right (by omega) (by omega)
    rw [Nat.div_eq_of_lt (by omega)]; rfl
  · rw [List.length_take, Nat.min_eq_left h] at h1 h2
    conv => rhs; rw [h1]
    rw [Nat.add_mul_div_left _ _ (Nat.pow_pos (by omega)), Nat.div_eq_of_lt h2, Nat.zero_add]
theorem shr_num {A : Option Addr} {n c N s : Nat} {w : World} (h : NumIn w A n c N) (hn : nl N ≤ 1000000) (hs : s ≤ 9223372036854775807) :
    Calls Tryd.prog 163 #[.slice A n c, .int .i64 s] w fun e w' => ∃ v, e = .returned (.tuple #[v, .int .i64 0]) ∧ NumAt w.heap.size w' v (N / 2 ^ s) ∧ Below w.heap.size w w' := by
  obtain ⟨d, hd⟩ : ∃ d, d = s / 32 := ⟨_, rfl⟩
  obtain ⟨r, hr⟩ : ∃ r, r = s % 32 := ⟨_, rfl⟩
  have hd1 : (s : Int) / 32 = d := by omega
  have hr1 : (s : Int) % 32 = r := by omega
  have hr2 : r < 32 := by omega
  have HP := Lib.hid (show N / 2 ^ s = N / 4294967296 ^ d / 2 ^ r by rw [Nat.div_div_eq_div_mul, show (4294967296 : Nat) = 2 ^ 32 from rfl, ← Nat.pow_mul, ← Nat.pow_add]; congr 2; omega)
  clear hd hr
  go_enter Tryd.func163, Tryd.ntmps163
  go_wp2_with fail
  refine (trim_num _ _ _ _ _ h).mono ?_
  rintro e w' ⟨rfl, hU, rfl⟩
  clear h
  by_cases hdl : nl N ≤ d
  · have H0 := Lib.hid (show N / 2 ^ s = 0 by
      rw [HP.out, Nat.div_eq_of_lt (a := N), Nat.zero_div]
      exact Nat.lt_of_lt_of_le (lt_pow_dig (by omega) N) (Nat.pow_le_pow_right (by omega) hdl))
    clear hU
    go_wp2
    go_ret2
    refine ⟨_, rfl, ⟨none, 0, ?_, ?_, fun a ha => by cases ha⟩, Below.refl _ _⟩
    · rw [H0.out, L_zero]; rfl
    · rw [H0.out, L_zero]
      exact ⟨rfl, Nat.le_refl _, by simp [maxLen], AllLt.nil _, fun hp => by simp at hp⟩
  · obtain ⟨b, off, rfl, hbw, hcs⟩ := hU.cells (by omega)
    have HC := Lib.hid hcs
    have hcap := hU.big
    unfold maxLen at hcap
    clear hcs hU
    go_wp2_with (at_make; refine wpList_make_nums _ rfl _ _ 23 rfl 141 .u32 4 Tryd.underlying23 info_u32 _ _ _ _ (nl N - d) rfl rfl (by omega) (by omega) (by omega) (by omega) ?_; intro w1 hA1 hB1 hz1)
    have HA := Lib.hid hA1
    have HB := Lib.hid hB1
    clear hA1 hB1 hz1
    obtain ⟨m, hm⟩ : ∃ m, m = nl N - d := ⟨_, rfl⟩
    rw [← hm] at HA ⊢
    have HM := Lib.hid hm
    have hyl := drop_len N d
    have HY := Lib.hid (And.intro ((L_lt N).drop d) (And.intro (val_drop_L N d) (show ((L N).drop d).length = m by rw [hyl, hm])))
    have HG := Lib.hid (fun i => show ((L N).drop d).getD i 0 = (L N).getD (d + i) 0 by simp [List.getD])
    have hmb : m < 9223372036854775808 ∧ m ≤ 1000000 := by omega
    clear hm hyl
    generalize (L N).drop d = ys at *
    go_loopw [31] (fun i wr => ∃ (k : Nat) (os : List Nat), k ≤ m ∧ i = .int .i64 k ∧
        Hid (os.length = m ∧ AllLt 4294967296 os ∧ val 4294967296 (os.take k) + 4294967296 ^ k * (val 4294967296 (ys.drop k) / 2 ^ r) = val 4294967296 ys / 2 ^ r) ∧
        Hid (Arr .u32 141 wr w.heap.size os) ∧ Hid (Below w.heap.size w wr)) (fun i _ => m - (intOf i).toNat)
    case atStart => exact ⟨0, _, Nat.zero_le _, rfl, ⟨by simp, AllLt.zeros (by omega) _, by simp⟩, HA.out, HB.out⟩
    case round =>
      obtain ⟨k, os, hk, rfl, HI, HR, HW⟩ := hrel
      by_cases hlt : k < m
      · have hcx : wr.cell? ⟨b, off + d + k, none⟩ = some (.int .u32 ((ys.getD k 0 : Nat) : Int)) := by
          rw [HG.out, HW.out.cell (p := ⟨b, off + d + k, none⟩) hbw, Nat.add_assoc]
          exact HC.out (d + k) (by have := HM.out; omega)
        have hco := HR.out.cell k (by rw [HI.out.1]; omega)
        have hxlt := HY.out.1.get (by omega) k
        have hfo := HR.out.frozen k
        have hst := fun T h => shr_next 4294967296 (2 ^ r) (2 ^ (32 - r)) (by rw [← Nat.pow_add, show r + (32 - r) = 32 by omega]) (Nat.two_pow_pos r) (by omega) ys os k T (by rw [HI.out.1]; exact hlt) hxlt h
        have hst2 := hst _ HI.out.2.2
        have HS := Lib.hid hst2
        have hylt := HY.out.1.get (by omega) (k + 1)
        clear hst hst2
        by_cases hlt2 : k + 1 < m
        · have hcy : wr.cell? ⟨b, off + d + (k + 1), none⟩ = some (.int .u32 ((ys.getD (k + 1) 0 : Nat) : Int)) := by
            rw [HG.out, HW.out.cell (p := ⟨b, off + d + (k + 1), none⟩) hbw, Nat.add_assoc]
            exact HC.out (d + (k + 1)) (by have := HM.out; omega)
          generalize ys.getD k 0 = x at *
          generalize ys.getD (k + 1) 0 = y at *
          have HH := Lib.hid (show bits .or .u64 (x : Int) ((y : Int) * 4294967296) / 2 ^ r % 4294967296 = (((x + 4294967296 * y) / 2 ^ r % 4294967296 : Nat) : Int) by
            rw [join_val x y hxlt hylt, Int.natCast_emod, Int.natCast_ediv, Int.natCast_pow]; rfl)
          go_wp2
          go_roundw
          case rel =>
            have h3 := HI.out
            exact ⟨k + 1, _, by omega, by go_num, ⟨by rw [List.length_set]; exact h3.1, h3.2.1.set k (Nat.mod_lt _ (by omega)), HS.out⟩, HR.out.set' k _ _ HH.out, HW.out.setCell (Nat.le_refl _) _⟩
          case measure => simp [intOf]; omega
        · have hy0 : ys.getD (k + 1) 0 = 0 := getD_ge (by rw [HY.out.2.2]; omega)
          rw [hy0, Nat.mul_zero, Nat.add_zero] at HS
          clear hy0 hylt
          generalize ys.getD k 0 = x at *
          have HH := Lib.hid (show (x : Int) / 2 ^ r % 4294967296 = ((x / 2 ^ r % 4294967296 : Nat) : Int) by
            rw [Int.natCast_emod, Int.natCast_ediv, Int.natCast_pow]; rfl)
          go_wp2
          go_roundw
          case rel =>
            have h3 := HI.out
            exact ⟨k + 1, _, by omega, by go_num, ⟨by rw [List.length_set]; exact h3.1, h3.2.1.set k (Nat.mod_lt _ (by omega)), HS.out⟩, HR.out.set' k _ _ HH.out, HW.out.setCell (Nat.le_refl _) _⟩
          case measure => simp [intOf]; omega
      · go_wp2_with fail
        have h3 := HI.out
        obtain rfl : k = m := by omega
        have hU := HR.out.u32 h3.2.1 h3.1 (by simp only [maxLen]; omega)
        have hv : val 4294967296 os = N / 2 ^ s := by
          have h4 := h3.2.2
          rw [List.take_of_length_le (by omega), List.drop_eq_nil_of_le (by rw [HY.out.2.2]; exact Nat.le_refl _), HY.out.2.1, ← HP.out] at h4
          simpa using h4
        have hN : NumIn wr (some ⟨w.heap.size, 0, none⟩) k k (N / 2 ^ s) := ⟨os, hU, hv⟩
        refine (trim_num _ _ _ _ _ hN).mono ?_
        rintro e w' ⟨rfl, hT, rfl⟩
        have HT := Lib.hid hT
        clear hT hv hU h3 hN
        go_wp2
        go_ret2
        exact ⟨_, rfl, ⟨_, _, rfl, HT.out, fun a ha => by cases ha; exact Nat.le_refl _⟩, HW.out⟩
end Go.Proofs.YtegglooojlheoaaDoor
