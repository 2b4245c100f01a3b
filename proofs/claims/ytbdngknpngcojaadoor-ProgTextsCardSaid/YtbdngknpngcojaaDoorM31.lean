/- The reference's product. Printed by pv/gen_ref01b.py. No condition. -/
import Derived.Test.YtbdngknpngcojaaDoorM30
import Derived.Test.YtbdngknpngcojaaDoorM28
import Derived.Test.YtbdngknpngcojaaDoorM17

namespace Go.Proofs.YtbdngknpngcojaaDoor.W
open Go.RowKit Anv
end Go.Proofs.YtbdngknpngcojaaDoor.W

/- Rows with room behind their end; slices of rows; a call of a function's value. No condition. -/
namespace Go.Proofs.YtbdngknpngcojaaDoor.W
open Go.RowKit Anv
theorem U32.pre {w : World} {A : Option Addr} {n m c : Nat} {xs ys : List Nat} (h : U32 w A (n + m) c (xs ++ ys)) (hx : xs.length = n) : U32 w A n c xs :=
  ⟨hx, Nat.le_trans (Nat.le_add_right _ _) h.cap, h.big, fun x hm => h.lt x (List.mem_append_left _ hm), fun hp => by
    obtain ⟨b, off, hA, hb, hc⟩ := h.cells (by omega)
    refine ⟨b, off, hA, hb, fun i hi => ?_⟩
    rw [hc i (by omega)]
    simp [List.getD, List.getElem?_append_left (show i < xs.length by omega)]⟩
section
variable {P : Program} {K : Act → World → Prop} {Q : Exit → Act → World → Prop} {N : Nat} {dq : List Deferred} {a : Act} {l : List (Nat × Value)} {w w0 : World} {own ps : List PF}
variable {d : Nat} {ty : TypeId} {pos : String} {af : Array Edge} {gd : Option (Nat × Bool)}
theorem rn_sliceTo {x y : Operand} {T E n m c z : Nat} {k : IntKind} {A : Option Addr} (h : EnvD dq N a l) (hT : P.underlying T = some (.slice E)) (hE : ∃ j, P.info? E = some j ∧ j.size = z) (hx : evl l x = some (.slice A n c)) (hy : evl l y = some (.int k (m : Nat))) (hm : m ≤ c) :
    (execOp a.eval ⟨some d, .slice T x none (some y) none, ty, pos, af, gd⟩).run P w = .ok (.value (.slice A m c)) w := by
  have hv := h.ev hx
  have hv' := h.ev hy
  have he : P.elem T = E := by simp [Program.elem, hT]
  have hr := run_slice_h (P := P) w T A n c (by rw [he]; exact hT) k (m : Int) (by omega) (by omega)
  rw [he, run_sizeOf hE] at hr
  simp only [execOp, Option.map_none, Option.map_some, hv, hv']
  rw [Sem.run_bind, run_sliceAt_slice _ _ _ _ _ _ (by rw [he]; exact hT), hr]
  have e : Option.map (fun x : Addr => x.add 0) A = A := by
    cases A with
    | none => rfl
    | some ad => simp [Addr.add]
  simp [sliced, Result.andThen, e]
theorem rn_sliceFrom {x y : Operand} {T E n m c b o : Nat} {k : IntKind} (h : EnvD dq N a l) (hT : P.underlying T = some (.slice E)) (hE : ∃ j, P.info? E = some j ∧ j.size = 1) (hx : evl l x = some (.slice (some ⟨b, o, none⟩) n c)) (hy : evl l y = some (.int k (m : Nat))) (hm : m ≤ n) (hc : m < c) :
    (execOp a.eval ⟨some d, .slice T x (some y) none none, ty, pos, af, gd⟩).run P w = .ok (.value (.slice (some ⟨b, o + m, none⟩) (n - m) (c - m))) w := by
  have hv := h.ev hx
  have hv' := h.ev hy
  have he : P.elem T = E := by simp [Program.elem, hT]
  have hr := run_slice_l (P := P) w T (some ⟨b, o, none⟩) n c (by rw [he]; exact hT) k (m : Int) (by omega) (by omega)
  rw [he, run_sizeOf hE] at hr
  simp only [execOp, Option.map_none, Option.map_some, hv, hv']
  rw [Sem.run_bind, run_sliceAt_slice _ _ _ _ _ _ (by rw [he]; exact hT), hr]
  have hne : ¬ (c = m) := by omega
  simp [sliced, Result.andThen, hne, Addr.add_mid]
end
end Go.Proofs.YtbdngknpngcojaaDoor.W

/- Rows with room behind their end: Clone, room, kept. Printed by pv/gen_room.py. No condition. -/
namespace Go.Proofs.YtbdngknpngcojaaDoor.W
open Go.RowKit Anv
end Go.Proofs.YtbdngknpngcojaaDoor.W

/- anvillaw01.long. Printed by pv/gen_long.py. No condition. -/
namespace Go.Proofs.YtbdngknpngcojaaDoor.W
open Go.RowKit Anv
def sls (ls : List (Option Addr × Nat × Nat)) : Array Value := (ls.map fun p => Value.slice p.1 p.2.1 p.2.2).toArray
section
variable {P : Program} {K : Act → World → Prop} {Q : Exit → Act → World → Prop} {N : Nat} {dq : List Deferred} {a : Act} {l : List (Nat × Value)} {w : World}
variable {d : Nat} {ty : TypeId} {pos : String} {af : Array Edge} {gd : Option (Nat × Bool)}
end
end Go.Proofs.YtbdngknpngcojaaDoor.W

/- What the laws of limb ask of the reference, in the walks' form. No condition. -/
namespace Go.Proofs.YtbdngknpngcojaaDoor.W
open Go.RowKit Anv
end Go.Proofs.YtbdngknpngcojaaDoor.W

/- Two rows held against each other from the top: plain laws. No condition. -/
namespace Go.Proofs.YtbdngknpngcojaaDoor.W
open Go.RowKit Anv
end Go.Proofs.YtbdngknpngcojaaDoor.W

/- The reference's Cmp. Printed by pv/gen_ref01c.py. No condition. -/
namespace Go.Proofs.YtbdngknpngcojaaDoor.W
open Go.RowKit Anv
section
variable {P : Program} {N : Nat} {dq : List Deferred} {a : Act} {l : List (Nat × Value)} {w : World} {d : Nat} {ty : TypeId} {pos : String} {af : Array Edge} {gd : Option (Nat × Bool)}
end
end Go.Proofs.YtbdngknpngcojaaDoor.W
