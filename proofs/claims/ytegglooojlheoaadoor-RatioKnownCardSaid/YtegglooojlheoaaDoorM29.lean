/- The reference's product. Printed by pv/gen_ref01b.py. No condition. -/
import Derived.Test.YtegglooojlheoaaDoorM28
import Derived.Test.YtegglooojlheoaaDoorM26
import Derived.Test.YtegglooojlheoaaDoorM13

namespace Go.Proofs.YtegglooojlheoaaDoor.W
open Go.RowKit Anv
end Go.Proofs.YtegglooojlheoaaDoor.W

/- Rows with room behind their end; slices of rows; a call of a function's value. No condition. -/
namespace Go.Proofs.YtegglooojlheoaaDoor.W
open Go.RowKit Anv
theorem U32.pre {w : World} {A : Option Addr} {n m c : Nat} {xs ys : List Nat} (h : U32 w A (n + m) c (xs ++ ys)) (hx : xs.length = n) : U32 w A n c xs :=
  ⟨hx, Nat.le_trans (Nat.le_add_right _ _) h.cap, h.big, fun x hm => h.lt x (List.mem_append_left _ hm), fun hp => by
    obtain ⟨b, off, hA, hb, hc⟩ := h.cells (by omega)
    refine ⟨b, off, hA, hb, fun i hi => ?_⟩
    rw [hc i (by omega)]
    simp [List.getD, List.getElem?_append_left (show i < xs.length by omega)]⟩
section
variable {P : Program} {K : Act → World → Prop} {Q : Exit → Act → World → Prop} {N : Nat} {dq : List Deferred} {a : Act} {l : List (Nat × Value)} {w w0 : World} {own ps : List PF}
variable {d : Nat} {ty : TypeId} {pos : String} {af : Array Edge} {gd : Option (Nat × Bool)}
end
end Go.Proofs.YtegglooojlheoaaDoor.W

/- Rows with room behind their end: Clone, room, kept. Printed by pv/gen_room.py. No condition. -/
namespace Go.Proofs.YtegglooojlheoaaDoor.W
open Go.RowKit Anv
end Go.Proofs.YtegglooojlheoaaDoor.W

/- anvillaw01.long. Printed by pv/gen_long.py. No condition. -/
namespace Go.Proofs.YtegglooojlheoaaDoor.W
open Go.RowKit Anv
def sls (ls : List (Option Addr × Nat × Nat)) : Array Value := (ls.map fun p => Value.slice p.1 p.2.1 p.2.2).toArray
section
variable {P : Program} {K : Act → World → Prop} {Q : Exit → Act → World → Prop} {N : Nat} {dq : List Deferred} {a : Act} {l : List (Nat × Value)} {w : World}
variable {d : Nat} {ty : TypeId} {pos : String} {af : Array Edge} {gd : Option (Nat × Bool)}
end
end Go.Proofs.YtegglooojlheoaaDoor.W

/- What the laws of limb ask of the reference, in the walks' form. No condition. -/
namespace Go.Proofs.YtegglooojlheoaaDoor.W
open Go.RowKit Anv
end Go.Proofs.YtegglooojlheoaaDoor.W

/- Two rows held against each other from the top: plain laws. No condition. -/
namespace Go.Proofs.YtegglooojlheoaaDoor.W
open Go.RowKit Anv
end Go.Proofs.YtegglooojlheoaaDoor.W

/- The reference's Cmp. Printed by pv/gen_ref01c.py. No condition. -/
namespace Go.Proofs.YtegglooojlheoaaDoor.W
open Go.RowKit Anv
section
variable {P : Program} {N : Nat} {dq : List Deferred} {a : Act} {l : List (Nat × Value)} {w : World} {d : Nat} {ty : TypeId} {pos : String} {af : Array Edge} {gd : Option (Nat × Bool)}
end
end Go.Proofs.YtegglooojlheoaaDoor.W
