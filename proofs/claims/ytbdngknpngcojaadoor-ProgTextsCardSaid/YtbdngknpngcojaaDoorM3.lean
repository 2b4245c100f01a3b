/- Blocks of numbers that the call made itself; a make, as a law that leaves a world without a shape. No condition. -/
import Derived.Test.YtbdngknpngcojaaDoorM2
import Derived.Deep.OwnRows
import Derived.Deep.DeepCutAuto
import Derived.Deep.QuietTactic
import Derived.BigQuiet
import Derived.LoopTactic
import Derived.Laws.CopyOwn
import Derived.Test.YtbdngknpngcojaaDoorM1

namespace Go.Proofs.YtbdngknpngcojaaDoor
open Go.RowKit Anv
def nums (k : IntKind) (os : List Nat) : Array Value := (os.map fun n => Value.int k (n : Nat)).toArray
theorem nums_at (k : IntKind) (os : List Nat) (i : Nat) (h : i < os.length) : (nums k os)[i]? = some (.int k (os.getD i 0 : Nat)) := by
  simp [nums, List.getD, h]
theorem nums_set (k : IntKind) (os : List Nat) (i v : Nat) : (nums k os).setIfInBounds i (.int k (v : Nat)) = nums k (os.set i v) := by
  simp [nums, List.map_set]
def Arr (k : IntKind) (t : TypeId) (w : World) (g : Nat) (os : List Nat) : Prop := w.heap[g]? = some (.cells (nums k os) t (0, 0))
section
variable {k : IntKind} {t : TypeId} {w w' : World} {g : Nat} {os : List Nat}
theorem Arr.lt (h : Arr k t w g os) : g < w.heap.size := by
  rcases Nat.lt_or_ge g w.heap.size with hlt | hge
  · exact hlt
  · unfold Arr at h; rw [Array.getElem?_eq_none hge] at h; cases h
theorem Arr.cell (h : Arr k t w g os) (i : Nat) (hi : i < os.length) : w.cell? ⟨g, i, none⟩ = some (.int k (os.getD i 0 : Nat)) := by
  rw [cell_of_row w g i _ t (0, 0) h, nums_at k os i hi]
theorem Arr.frozen (h : Arr k t w g os) (i : Nat) : w.frozen? ⟨g, i, none⟩ = false := by
  unfold Arr at h
  simp [World.frozen?, h]
theorem Arr.alloc (h : Arr k t w g os) (o : Obj) : Arr k t (w.alloc o) g os := (Below.heap_alloc w o g h.lt).trans h
theorem Arr.set (h : Arr k t w g os) (i v : Nat) : Arr k t (w.setCell ⟨g, i, none⟩ (.int k (v : Nat))) g (os.set i v) := by
  unfold Arr at h ⊢
  simp [World.setCell, Array.getElem?_modify, h, nums_set]
theorem Arr.set' (h : Arr k t w g os) (i : Nat) (x : Int) (v : Nat) (hv : x = (v : Nat)) : Arr k t (w.setCell ⟨g, i, none⟩ (.int k x)) g (os.set i v) := by
  rw [hv]; exact h.set i v
theorem Arr.far (h : Arr k t w g os) {p : Addr} (hp : g ≠ p.block) (u : Value) : Arr k t (w.setCell p u) g os := (Below.heap_setCell w p u g hp).trans h
theorem Arr.below {B : Nat} (h : Arr k t w g os) (hb : Below B w w') (hg : g < B) : Arr k t w' g os := (hb.block g hg).trans h
end
theorem Arr.u32 {t : TypeId} {w : World} {g : Nat} {os : List Nat} (h : Arr .u32 t w g os) (hl : AllLt 4294967296 os) {n : Nat} (hn : os.length = n) (hm : n ≤ maxLen) : U32 w (some ⟨g, 0, none⟩) n n os :=
  ⟨hn, Nat.le_refl _, hm, hl, fun _ => ⟨g, 0, rfl, h.lt, fun i hi => by rw [Nat.zero_add]; exact h.cell i (by omega)⟩⟩
theorem made_nums (k : IntKind) (n : Nat) : madeCells #[.int k 0] n = nums k (List.replicate n 0) := by
  apply Array.ext
  · simp [size_madeCells, nums]
  · intro i h1 h2
    simp [madeCells, nums, Nat.mod_one]
theorem wpList_make_nums {P : Program} (w : World) {ops : Array Oper} {rest : List Oper} {o : Oper} {a : Act} {Q : Exit → Act → World → Prop}
    (hg : o.guard = none) (l c : Operand) (t : TypeId) (hop : o.op = Op.makeSlice t l c)
    (e : TypeId) (k : IntKind) (bytes : Nat) (ht : P.underlying t = some (.slice e)) (hi : (P.info? e).map (fun i => (i.zero, i.size, i.bytes)) = some (some (.int k 0), 1, bytes))
    (kl kc : IntKind) (N M : Int) (n : Nat) (hl : a.eval l = .int kl N) (hc : a.eval c = .int kc M) (hN : N = (n : Nat)) (hM : M = (n : Nat)) (hbytes : bytes * n ≤ 281474976710656) (h63 : n ≤ 9223372036854775807)
    (hK : ∀ w1, Arr k e w1 w.heap.size (List.replicate n 0) → Below w.heap.size w w1 → w1.heap.size = w.heap.size + 1 → wpList P ops Q rest (a.put o.dst (.slice (some ⟨w.heap.size, 0, none⟩) n n)) w1) :
    wpList P ops Q (o :: rest) a w := by
  subst hN hM
  obtain ⟨i, hi1, hi2⟩ := Option.map_eq_some_iff.1 hi
  simp only [Prod.mk.injEq] at hi2
  obtain ⟨hz, hs, hb⟩ := hi2
  refine wpList_make_row w hg l c t hop e i _ ht hi1 hz hs rfl kl kc n hl hc (by rw [hb]; exact hbytes) h63 ?_
  refine hK _ ?_ ((Below.refl _ _).alloc (Nat.le_refl _) _) (by simp)
  show (w.alloc _).heap[w.heap.size]? = _
  rw [heap_alloc_new, made_nums]
theorem info_u32 : (Tryd.prog.info? 105).map (fun i => (i.zero, i.size, i.bytes)) = some (some (.int .u32 0), 1, 4) := by kernel_rfl
end Go.Proofs.YtbdngknpngcojaaDoor

/- limb.Add. No condition. -/
namespace Go.Proofs.YtbdngknpngcojaaDoor
open Go.RowKit Anv
end Go.Proofs.YtbdngknpngcojaaDoor

/- limb.Cmp. No condition. -/
namespace Go.Proofs.YtbdngknpngcojaaDoor
open Go.RowKit Anv
end Go.Proofs.YtbdngknpngcojaaDoor

/- limb.Sub. No condition. -/
namespace Go.Proofs.YtbdngknpngcojaaDoor
open Go.RowKit Anv
end Go.Proofs.YtbdngknpngcojaaDoor

/- limb.Mul. No condition. -/
namespace Go.Proofs.YtbdngknpngcojaaDoor
open Go.RowKit Anv
end Go.Proofs.YtbdngknpngcojaaDoor

/- limb.Norm. No condition. -/
namespace Go.Proofs.YtbdngknpngcojaaDoor
open Go.RowKit Anv
end Go.Proofs.YtbdngknpngcojaaDoor

/- limb.DivSmall. No condition. -/
namespace Go.Proofs.YtbdngknpngcojaaDoor
open Go.RowKit Anv
end Go.Proofs.YtbdngknpngcojaaDoor

/- limb.Shl. No condition. -/
namespace Go.Proofs.YtbdngknpngcojaaDoor
open Go.RowKit Anv
end Go.Proofs.YtbdngknpngcojaaDoor
