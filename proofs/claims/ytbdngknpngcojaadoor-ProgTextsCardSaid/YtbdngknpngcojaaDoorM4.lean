/- The small functions of layer 2. No condition. -/
import Derived.Test.YtbdngknpngcojaaDoorM3
import Derived.Deep.RegionHeld3
import Derived.Test.YtbdngknpngcojaaDoorM1

namespace Go.Proofs.YtbdngknpngcojaaDoor
open Go.RowKit Anv
def neg (z : Int) : Bool := decide (z < 0)
def zl (z : Int) : Nat := nl z.natAbs
def ZIn (w : World) (A : Option Addr) (c : Nat) (z : Int) : Prop := U32 w A (zl z) c (L z.natAbs)
def ZAt (w : World) (v : Value) (z : Int) : Prop := ∃ A c, v = .agg #[.bool (neg z), .slice A (zl z) c] ∧ ZIn w A c z
def sg (b : Bool) (N : Nat) : Int := if b then -(N : Int) else (N : Int)
theorem sg_abs (b : Bool) (N : Nat) : (sg b N).natAbs = N := by unfold sg; split <;> omega
theorem sg_neg (b : Bool) (N : Nat) : neg (sg b N) = (b && decide (0 < N)) := by
  unfold sg neg; cases b <;> simp <;> omega
theorem ZIn.num {w : World} {A : Option Addr} {c : Nat} {z : Int} (h : ZIn w A c z) : NumIn w A (zl z) c z.natAbs := ⟨_, h, val_L _⟩
theorem ZIn.below {w w' : World} {A : Option Addr} {c : Nat} {z : Int} (h : ZIn w A c z) (hb : Below w.heap.size w w') : ZIn w' A c z := U32.below h hb
theorem ZAt.below {w w' : World} {v : Value} {z : Int} (h : ZAt w v z) (hb : Below w.heap.size w w') : ZAt w' v z := by
  obtain ⟨A, c, rfl, hz⟩ := h
  exact ⟨A, c, rfl, hz.below hb⟩
def Box2 (t : TypeId) (w : World) (g : Nat) (a b : Value) : Prop := w.heap[g]? = some (.cells #[a, b] t (0, 0))
section
variable {t : TypeId} {w w' : World} {g : Nat} {a b : Value}
theorem Box2.lt (h : Box2 t w g a b) : g < w.heap.size := by
  rcases Nat.lt_or_ge g w.heap.size with hlt | hge
  · exact hlt
  · unfold Box2 at h; rw [Array.getElem?_eq_none hge] at h; cases h
theorem Box2.c0 (h : Box2 t w g a b) : w.cell? ⟨g, 0, none⟩ = some a := by rw [cell_of_row w g 0 _ t (0, 0) h]; rfl
theorem Box2.c1 (h : Box2 t w g a b) : w.cell? ⟨g, 1, none⟩ = some b := by rw [cell_of_row w g 1 _ t (0, 0) h]; rfl
theorem Box2.f (h : Box2 t w g a b) (i : Nat) : w.frozen? ⟨g, i, none⟩ = false := by unfold Box2 at h; simp [World.frozen?, h]
theorem Box2.below {B : Nat} (h : Box2 t w g a b) (hb : Below B w w') (hg : g < B) : Box2 t w' g a b := (hb.block g hg).trans h
theorem Box2.alloc (h : Box2 t w g a b) (o : Obj) : Box2 t (w.alloc o) g a b := (Below.heap_alloc w o g h.lt).trans h
theorem Box2.far (h : Box2 t w g a b) {p : Addr} (hp : g ≠ p.block) (u : Value) : Box2 t (w.setCell p u) g a b := (Below.heap_setCell w p u g hp).trans h
theorem Box2.put (h : Box2 t w g a b) (u u' : Value) : Box2 t ((w.setCell ⟨g, 0, none⟩ u).setCell ⟨g, 1, none⟩ u') g u u' := by
  unfold Box2 at h ⊢
  simp [World.setCell, Array.getElem?_modify, h]
theorem Box2.new (w : World) (t : TypeId) (a b : Value) : Box2 t (w.alloc (.cells #[a, b] t)) w.heap.size a b := heap_alloc_new w _
end
end Go.Proofs.YtbdngknpngcojaaDoor

/- Sums and products of layer 2. No condition. -/
namespace Go.Proofs.YtbdngknpngcojaaDoor
open Go.RowKit Anv
end Go.Proofs.YtbdngknpngcojaaDoor

/- limb.Shr. No condition. -/
namespace Go.Proofs.YtbdngknpngcojaaDoor
open Go.RowKit Anv
end Go.Proofs.YtbdngknpngcojaaDoor
