/- The small functions of layer 2. No condition. -/
import Derived.Test.YtnldopjbiacbfaaAdd
import Derived.Test.YtnldopjbiacbfaaSub
import Derived.Test.YtnldopjbiacbfaaMul
import Derived.Test.YtnldopjbiacbfaaNorm
import Derived.Deep.RegionHeld3
namespace Go.Proofs.Ytnldopjbiacbfaa
open Go.RowKit Anv

/-- Is it below nought? -/
def neg (z : Int) : Bool := decide (z < 0)
/-- How many limbs a whole number has. -/
def zl (z : Int) : Nat := nl z.natAbs
/-- Its limbs lie at A. -/
def ZIn (w : World) (A : Option Addr) (c : Nat) (z : Int) : Prop := U32 w A (zl z) c (L z.natAbs)
/-- The value of a whole number. -/
def ZAt (w : World) (v : Value) (z : Int) : Prop := ∃ A c, v = .agg #[.bool (neg z), .slice A (zl z) c] ∧ ZIn w A c z
/-- A number with a sign. -/
def sg (b : Bool) (N : Nat) : Int := if b then -(N : Int) else (N : Int)

theorem nl_zero : nl 0 = 0 := by unfold nl; rw [L_zero]; rfl
theorem nl_pos {N : Nat} (h : 0 < N) : 0 < nl N := by
  unfold nl L; rw [dig_pos (by omega) h]; simp
theorem nl_eq_zero {N : Nat} : nl N = 0 ↔ N = 0 := by
  constructor
  · intro h
    rcases Nat.eq_zero_or_pos N with h1 | h1
    · exact h1
    · have := nl_pos h1; omega
  · rintro rfl; exact nl_zero
theorem nl_dpos (N : Nat) : decide (0 < nl N) = decide (0 < N) := by
  rcases Nat.eq_zero_or_pos N with h | h
  · subst h; rw [nl_zero]
  · have := nl_pos h; simp [h, this]
theorem sg_abs (b : Bool) (N : Nat) : (sg b N).natAbs = N := by unfold sg; split <;> omega
theorem sg_neg (b : Bool) (N : Nat) : neg (sg b N) = (b && decide (0 < N)) := by
  unfold sg neg; cases b <;> simp <;> omega
theorem sg_zl (b : Bool) (N : Nat) : zl (sg b N) = nl N := by unfold zl; rw [sg_abs]
theorem sg_self (z : Int) : sg (neg z) z.natAbs = z := by
  unfold sg neg; by_cases h : z < 0 <;> simp [h] <;> omega
theorem ZIn.num {w : World} {A : Option Addr} {c : Nat} {z : Int} (h : ZIn w A c z) : NumIn w A (zl z) c z.natAbs := ⟨_, h, val_L _⟩
theorem ZIn.below {w w' : World} {A : Option Addr} {c : Nat} {z : Int} (h : ZIn w A c z) (hb : Below w.heap.size w w') : ZIn w' A c z := U32.below h hb
theorem ZAt.below {w w' : World} {v : Value} {z : Int} (h : ZAt w v z) (hb : Below w.heap.size w w') : ZAt w' v z := by
  obtain ⟨A, c, rfl, hz⟩ := h
  exact ⟨A, c, rfl, hz.below hb⟩

theorem bcell {W w1 : World} (hb : Below W.heap.size W w1) : (∀ b o, b < W.heap.size → w1.cell? ⟨b, o, none⟩ = W.cell? ⟨b, o, none⟩) ∧ (∀ b o, b < W.heap.size → w1.frozen? ⟨b, o, none⟩ = W.frozen? ⟨b, o, none⟩) :=
  ⟨fun b o h => hb.cell (p := ⟨b, o, none⟩) h, fun b o h => hb.frozen (p := ⟨b, o, none⟩) h⟩
theorem bdrewN {B : Nat} {a w : World} (h : Below B a w) (n : Nat) : Below B a (w.drewN n) := ⟨h.os, h.tape, h.output, h.size, h.block⟩
theorem undrew {B : Nat} {w w1 : World} (h : Below B w.drew w1) : Below B w w1 := ⟨h.os, h.tape, h.output, h.size, h.block⟩
theorem undrewN {B n : Nat} {w w1 : World} (h : Below B (w.drewN n) w1) : Below B w w1 := ⟨h.os, h.tape, h.output, h.size, h.block⟩
/-- A block of two cells, none of them frozen. -/
def Box2 (t : TypeId) (w : World) (g : Nat) (a b : Value) : Prop := w.heap[g]? = some (.cells #[a, b] t (0, 0))
section
variable {t : TypeId} {w w' : World} {g : Nat} {a b : Value}
theorem Box2.lt (h : Box2 t w g a b) : g < w.heap.size := by
  rcases Nat.lt_or_ge g w.heap.size with hlt | hge
  · exact hlt
  · unfold Box2 at h; rw [Array.getElem?_eq_none hge] at h; cases h
theorem Box2.c0 (h : Box2 t w g a b) : w.cell? ⟨g, 0, none⟩ = some a := by rw [cell_of_row w g 0 _ t (0, 0) h]; rfl
theorem Box2.c1 (h : Box2 t w g a b) : w.cell? ⟨g, 1, none⟩ = some b := by rw [cell_of_row w g 1 _ t (0, 0) h]; rfl
theorem Box2.f (h : Box2 t w g a b) (i : Nat) : w.frozen? ⟨g, i, none⟩ = false := by unfold Box2 at h; simp [World.frozen?, h]
theorem Box2.below {B : Nat} (h : Box2 t w g a b) (hb : Below B w w') (hg : g < B) : Box2 t w' g a b := (hb.block g hg).trans h
theorem Box2.alloc (h : Box2 t w g a b) (o : Obj) : Box2 t (w.alloc o) g a b := (Below.heap_alloc w o g h.lt).trans h
theorem Box2.far (h : Box2 t w g a b) {p : Addr} (hp : g ≠ p.block) (u : Value) : Box2 t (w.setCell p u) g a b := (Below.heap_setCell w p u g hp).trans h
theorem Box2.far2 (h : Box2 t w g a b) {k : Nat} (hp : g ≠ k) (u u' : Value) : Box2 t ((w.setCell ⟨k, 0, none⟩ u).setCell ⟨k, 1, none⟩ u') g a b := (h.far (p := ⟨k, 0, none⟩) hp u).far (p := ⟨k, 1, none⟩) hp u'
theorem Box2.put (h : Box2 t w g a b) (u u' : Value) : Box2 t ((w.setCell ⟨g, 0, none⟩ u).setCell ⟨g, 1, none⟩ u') g u u' := by
  unfold Box2 at h ⊢
  simp [World.setCell, Array.getElem?_modify, h]
theorem Box2.new (w : World) (t : TypeId) (a b : Value) : Box2 t (w.alloc (.cells #[a, b] t)) w.heap.size a b := heap_alloc_new w _
end
theorem boxes1 {t : TypeId} {w w1 : World} {a0 a1 : Value} (hb : Below (w.alloc (.cells #[a0, a1] t)).heap.size (w.alloc (.cells #[a0, a1] t)) w1) :
    Box2 t w1 w.heap.size a0 a1 ∧ Below w.heap.size w w1 ∧ w.heap.size < w1.heap.size := by
  have e1 : (w.alloc (.cells #[a0, a1] t)).heap.size = w.heap.size + 1 := by simp
  refine ⟨(Box2.new w t a0 a1).below hb (by omega), thru (below1 _ _) hb, ?_⟩
  have := hb.size
  omega
theorem boxes2 {t t' : TypeId} {w w1 : World} {a0 a1 b0 b1 : Value} (hb : Below ((w.alloc (.cells #[a0, a1] t)).alloc (.cells #[b0, b1] t')).heap.size ((w.alloc (.cells #[a0, a1] t)).alloc (.cells #[b0, b1] t')) w1) :
    Box2 t w1 w.heap.size a0 a1 ∧ Box2 t' w1 (w.heap.size + 1) b0 b1 ∧ Below w.heap.size w w1 ∧ w.heap.size + 1 < w1.heap.size := by
  have e1 : (w.alloc (.cells #[a0, a1] t)).heap.size = w.heap.size + 1 := by simp
  have e2 : ((w.alloc (.cells #[a0, a1] t)).alloc (.cells #[b0, b1] t')).heap.size = w.heap.size + 1 + 1 := by simp
  have h1 := (Box2.new w t a0 a1).alloc (.cells #[b0, b1] t')
  have h2 := Box2.new (w.alloc (.cells #[a0, a1] t)) t' b0 b1
  rw [e1] at h2
  refine ⟨h1.below hb (by omega), h2.below hb (by omega), thru (below2 _ _ _) hb, ?_⟩
  have := hb.size
  omega
theorem size3 (w : World) (o o' o'' : Obj) : (((w.alloc o).alloc o').alloc o'').heap.size = w.heap.size + 1 + 1 + 1 := by simp
/-- Three new boxes, behind a call. -/
theorem boxes3 {t t' t'' : TypeId} {w w1 : World} {a0 a1 b0 b1 z0 z1 : Value}
    (hb : Below (((w.alloc (.cells #[a0, a1] t)).alloc (.cells #[b0, b1] t')).alloc (.cells #[z0, z1] t'')).heap.size (((w.alloc (.cells #[a0, a1] t)).alloc (.cells #[b0, b1] t')).alloc (.cells #[z0, z1] t'')) w1) :
    Box2 t w1 w.heap.size a0 a1 ∧ Box2 t' w1 (w.heap.size + 1) b0 b1 ∧ Box2 t'' w1 (w.heap.size + 1 + 1) z0 z1 ∧ Below w.heap.size w w1 ∧ w.heap.size + 1 + 1 < w1.heap.size := by
  have e1 : (w.alloc (.cells #[a0, a1] t)).heap.size = w.heap.size + 1 := by simp
  have e2 : ((w.alloc (.cells #[a0, a1] t)).alloc (.cells #[b0, b1] t')).heap.size = w.heap.size + 1 + 1 := by simp
  have e3 : (((w.alloc (.cells #[a0, a1] t)).alloc (.cells #[b0, b1] t')).alloc (.cells #[z0, z1] t'')).heap.size = w.heap.size + 1 + 1 + 1 := by simp
  have h1 := ((Box2.new w t a0 a1).alloc (.cells #[b0, b1] t')).alloc (.cells #[z0, z1] t'')
  have h2 := (Box2.new (w.alloc (.cells #[a0, a1] t)) t' b0 b1).alloc (.cells #[z0, z1] t'')
  have h3 := Box2.new ((w.alloc (.cells #[a0, a1] t)).alloc (.cells #[b0, b1] t')) t'' z0 z1
  rw [e1] at h2
  rw [e2] at h3
  refine ⟨h1.below hb (by omega), h2.below hb (by omega), h3.below hb (by omega), thru (below3 _ _ _ _) hb, ?_⟩
  have := hb.size
  omega
theorem sg_not (z : Int) : sg (!neg z) z.natAbs = -z := by
  unfold sg neg; by_cases h : z < 0 <;> simp [h] <;> omega
theorem sg_false (z : Int) : sg false z.natAbs = (z.natAbs : Int) := rfl

theorem made_any (b : Bool) (A : Option Addr) (n c : Nat) (w : World) :
    Calls Try.prog 50 #[.bool b, .slice A n c] w fun e w' => e = .returned (.agg #[.bool (b && decide (0 < n)), .slice A n c]) ∧ Below w.heap.size w w' := by
  cases b
  all_goals
    go_enter Try.func50, Try.ntmps50
    go_wp2
  · exact bodyPost_ret (v := .agg #[.bool (false && decide (0 < n)), .slice A n c]) (by simp [results, Try.results50, go_sem]) rfl ⟨rfl, (Below.refl _ _).alloc (Nat.le_refl _) _⟩
  · exact bodyPost_ret (v := .agg #[.bool (true && decide (0 < n)), .slice A n c]) (by simp [results, Try.results50, go_sem]) rfl ⟨rfl, (Below.refl _ _).alloc (Nat.le_refl _) _⟩

theorem made_num {b : Bool} {A : Option Addr} {c N : Nat} {w : World} (h : U32 w A (nl N) c (L N)) :
    Calls Try.prog 50 #[.bool b, .slice A (nl N) c] w fun e w' => e = .returned (.agg #[.bool (neg (sg b N)), .slice A (zl (sg b N)) c]) ∧ ZIn w' A c (sg b N) ∧ Below w.heap.size w w' := by
  refine (made_any b A (nl N) c w).mono ?_
  rintro e w' ⟨rfl, hb⟩
  refine ⟨?_, ?_, hb⟩
  · rw [sg_neg, sg_zl, nl_dpos]
  · unfold ZIn; rw [sg_zl, sg_abs]; exact h.below hb

theorem sign_z {A : Option Addr} {c : Nat} {z : Int} {w : World} :
    Calls Try.prog 11 #[.agg #[.bool (neg z), .slice A (zl z) c]] w fun e w' => e = .returned (.int .i64 z.sign) ∧ Below w.heap.size w w' := by
  rcases Int.lt_trichotomy z 0 with h | h | h
  · have h1 : neg z = true := by unfold neg; simp [h]
    have h2 : 0 < zl z := nl_pos (by omega)
    have h3 : ((zl z : Int) == 0) = false := by simp; omega
    have h4 : z.sign = -1 := Int.sign_eq_neg_one_of_neg h
    rw [h1, h4]
    clear h1 h4 h
    go_enter Try.func11, Try.ntmps11
    go_wp2
    go_ret
    exact ⟨rfl, (Below.refl _ _).alloc (Nat.le_refl _) _⟩
  · subst h
    have h1 : neg 0 = false := by unfold neg; simp
    have h2 : zl 0 = 0 := nl_zero
    rw [h1, h2]
    clear h1 h2
    go_enter Try.func11, Try.ntmps11
    go_wp2
    go_ret
    exact ⟨rfl, (Below.refl _ _).alloc (Nat.le_refl _) _⟩
  · have h1 : neg z = false := by unfold neg; simp; omega
    have h2 : 0 < zl z := nl_pos (by omega)
    have h3 : ((zl z : Int) == 0) = false := by simp; omega
    have h4 : z.sign = 1 := Int.sign_eq_one_of_pos h
    rw [h1, h4]
    clear h1 h4 h
    go_enter Try.func11, Try.ntmps11
    go_wp2
    go_ret
    exact ⟨rfl, (Below.refl _ _).alloc (Nat.le_refl _) _⟩

theorem neg_z {A : Option Addr} {c : Nat} {z : Int} {w : World} (h : ZIn w A c z) :
    Calls Try.prog 16 #[.agg #[.bool (neg z), .slice A (zl z) c]] w fun e w' => ∃ v, e = .returned v ∧ ZAt w' v (-z) ∧ Below w.heap.size w w' := by
  go_enter Try.func16, Try.ntmps16
  go_wp2_with fail
  refine (made_num (h.below (below2 _ _ _))).mono ?_
  rintro e w1 ⟨rfl, hz, hb⟩
  rw [sg_not] at hz ⊢
  have HZ := Lib.hid hz
  clear hz
  obtain ⟨hc, hf⟩ := bcell hb
  have hs : w.heap.size + 1 < w1.heap.size := by have := hb.size; simp at this; omega
  go_wp2
  exact bodyPost_ret (v := .agg #[.bool (neg (-z)), .slice A (zl (-z)) c]) (by simp [results, Try.results16, go_sem, hc]) rfl
    ⟨_, rfl, ⟨_, _, rfl, U32.store2 HZ.out (by simp [hc]) (by simp [hc]) _ _⟩, below_store2 (thru (below2 _ _ _) hb) (by omega) _ _⟩

theorem abs_z {A : Option Addr} {c : Nat} {z : Int} {w : World} (h : ZIn w A c z) :
    Calls Try.prog 18 #[.agg #[.bool (neg z), .slice A (zl z) c]] w fun e w' => ∃ v, e = .returned v ∧ ZAt w' v (z.natAbs : Int) ∧ Below w.heap.size w w' := by
  go_enter Try.func18, Try.ntmps18
  go_wp2_with fail
  refine (made_num (h.below (below2 _ _ _))).mono ?_
  rintro e w1 ⟨rfl, hz, hb⟩
  rw [sg_false] at hz ⊢
  have HZ := Lib.hid hz
  clear hz
  obtain ⟨hc, hf⟩ := bcell hb
  have hs : w.heap.size + 1 < w1.heap.size := by have := hb.size; simp at this; omega
  go_wp2
  exact bodyPost_ret (v := .agg #[.bool (neg (z.natAbs : Int)), .slice A (zl (z.natAbs : Int)) c]) (by simp [results, Try.results18, go_sem, hc]) rfl
    ⟨_, rfl, ⟨_, _, rfl, U32.store2 HZ.out (by simp [hc]) (by simp [hc]) _ _⟩, below_store2 (thru (below2 _ _ _) hb) (by omega) _ _⟩

theorem make_z {b : Bool} {A : Option Addr} {n c N : Nat} {w : World} (h : NumIn w A n c N) (hN : nl N ≤ 1000000) :
    Calls Try.prog 28 #[.bool b, .slice A n c] w fun e w' => ∃ v, e = .returned v ∧ ZAt w' v (sg b N) ∧ Below w.heap.size w w' := by
  go_enter Try.func28, Try.ntmps28
  go_wp2_with fail
  refine (norm_num (h.below (below1 _ _)) hN).mono ?_
  rintro e w1 ⟨v, rfl, ⟨A1, c1, rfl, hU, hfr⟩, hb⟩
  clear hfr
  go_wp2_with fail
  refine (made_num hU).mono ?_
  rintro e w2 ⟨rfl, hz, hb2⟩
  have HZ := Lib.hid hz
  clear hz hU
  have hb4 := thru hb hb2
  obtain ⟨hc, hf⟩ := bcell hb4
  have hs : w.heap.size < w2.heap.size := by have := hb4.size; simp at this; omega
  go_wp2
  exact bodyPost_ret (v := .agg #[.bool (neg (sg b N)), .slice A1 (zl (sg b N)) c1]) (by simp [results, Try.results28, go_sem, hc]) rfl
    ⟨_, rfl, ⟨_, _, rfl, U32.store2 HZ.out (by simp [hc]) (by simp [hc]) _ _⟩, below_store2 (thru (below1 _ _) hb4) (by omega) _ _⟩

end Go.Proofs.Ytnldopjbiacbfaa
