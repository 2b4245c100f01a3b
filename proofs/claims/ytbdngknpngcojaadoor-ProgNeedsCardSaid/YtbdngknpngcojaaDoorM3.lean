/- Blocks of numbers that the call made itself; a make, as a law that leaves a world without a shape. No condition. -/
import Derived.Test.YtbdngknpngcojaaDoorM2
import Derived.Deep.OwnRows
import Derived.Deep.DeepCutAuto
import Derived.Deep.QuietTactic
import Derived.BigQuiet
import Derived.LoopTactic
import Derived.Laws.CopyOwn
import Derived.Test.YtbdngknpngcojaaDoorM1

namespace Go.Proofs.YtbdngknpngcojaaDoor
open Go.RowKit Anv
def nums (k : IntKind) (os : List Nat) : Array Value := (os.map fun n => Value.int k (n : Nat)).toArray
theorem nums_at (k : IntKind) (os : List Nat) (i : Nat) (h : i < os.length) : (nums k os)[i]? = some (.int k (os.getD i 0 : Nat)) := by
  simp [nums, List.getD, h]
theorem nums_set (k : IntKind) (os : List Nat) (i v : Nat) : (nums k os).setIfInBounds i (.int k (v : Nat)) = nums k (os.set i v) := by
  simp [nums, List.map_set]
def Arr (k : IntKind) (t : TypeId) (w : World) (g : Nat) (os : List Nat) : Prop := w.heap[g]? = some (.cells (nums k os) t (0, 0))
section
variable {k : IntKind} {t : TypeId} {w w' : World} {g : Nat} {os : List Nat}
theorem Arr.lt (h : Arr k t w g os) : g < w.heap.size := by
  rcases Nat.lt_or_ge g w.heap.size with hlt | hge
  · exact hlt
  · unfold Arr at h; rw [Array.getElem?_eq_none hge] at h; cases h
theorem Arr.cell (h : Arr k t w g os) (i : Nat) (hi : i < os.length) : w.cell? ⟨g, i, none⟩ = some (.int k (os.getD i 0 : Nat)) := by
  rw [cell_of_row w g i _ t (0, 0) h, nums_at k os i hi]
theorem Arr.alloc (h : Arr k t w g os) (o : Obj) : Arr k t (w.alloc o) g os := (Below.heap_alloc w o g h.lt).trans h
theorem Arr.set (h : Arr k t w g os) (i v : Nat) : Arr k t (w.setCell ⟨g, i, none⟩ (.int k (v : Nat))) g (os.set i v) := by
  unfold Arr at h ⊢
  simp [World.setCell, Array.getElem?_modify, h, nums_set]
theorem Arr.below {B : Nat} (h : Arr k t w g os) (hb : Below B w w') (hg : g < B) : Arr k t w' g os := (hb.block g hg).trans h
end
theorem Arr.u32 {t : TypeId} {w : World} {g : Nat} {os : List Nat} (h : Arr .u32 t w g os) (hl : AllLt 4294967296 os) {n : Nat} (hn : os.length = n) (hm : n ≤ maxLen) : U32 w (some ⟨g, 0, none⟩) n n os :=
  ⟨hn, Nat.le_refl _, hm, hl, fun _ => ⟨g, 0, rfl, h.lt, fun i hi => by rw [Nat.zero_add]; exact h.cell i (by omega)⟩⟩
end Go.Proofs.YtbdngknpngcojaaDoor

/- limb.Add. No condition. -/
namespace Go.Proofs.YtbdngknpngcojaaDoor
open Go.RowKit Anv
end Go.Proofs.YtbdngknpngcojaaDoor

/- limb.Cmp. No condition. -/
namespace Go.Proofs.YtbdngknpngcojaaDoor
open Go.RowKit Anv
end Go.Proofs.YtbdngknpngcojaaDoor

/- limb.Sub. No condition. -/
namespace Go.Proofs.YtbdngknpngcojaaDoor
open Go.RowKit Anv
end Go.Proofs.YtbdngknpngcojaaDoor

/- limb.Mul. No condition. -/
namespace Go.Proofs.YtbdngknpngcojaaDoor
open Go.RowKit Anv
end Go.Proofs.YtbdngknpngcojaaDoor

/- limb.Norm. No condition. -/
namespace Go.Proofs.YtbdngknpngcojaaDoor
open Go.RowKit Anv
end Go.Proofs.YtbdngknpngcojaaDoor

/- limb.DivSmall. No condition. -/
namespace Go.Proofs.YtbdngknpngcojaaDoor
open Go.RowKit Anv
end Go.Proofs.YtbdngknpngcojaaDoor

/- limb.Shl. No condition. -/
namespace Go.Proofs.YtbdngknpngcojaaDoor
open Go.RowKit Anv
end Go.Proofs.YtbdngknpngcojaaDoor
