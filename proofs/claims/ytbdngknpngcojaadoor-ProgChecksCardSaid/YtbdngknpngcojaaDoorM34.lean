/- Ranges over functions: the wide fence in a round and out of one; the statement's rule; how a function that holds one is left. Over any program. No condition. -/
import Derived.Test.YtbdngknpngcojaaDoorM33
import Derived.RangeFuncNested
import Derived.RangeFuncBound
import Derived.RangeFuncCalls
import Derived.RangeFuncLeaves
import Derived.Deep.LoopGhost
import Derived.Test.YtbdngknpngcojaaDoorM12
import Derived.Test.YtbdngknpngcojaaDoorM9
import Derived.Test.YtbdngknpngcojaaDoorM27

namespace Go.Proofs.YtbdngknpngcojaaDoor.W
open Go.RowKit Anv Go.Lib
def WF (ro : Option Nat) : Fence := { Fence.wide with round := ro }
section
variable {P : Program} {ro : Option Nat} {m : Nat} {K : Act → World → Prop} {Q : Exit → Act → World → Prop} {R : Ending → World → Prop} {N : Nat} {dq : List Deferred} {a : Act} {l : List (Nat × Value)} {w w0 : World} {own ps : List PF}
variable {d : Nat} {ty : TypeId} {pos : String} {af : Array Edge} {gd : Option (Nat × Bool)} {ops : Array Oper} {rest : List Oper} {o : Oper} {fn : Func} {c x y : Code}
def CellsF (e : PF) : Prop := ∀ (w : World) (b : Nat), e.P w → e.foot b → ∃ o, w.heap[b]? = some o ∧ o.isCells = true
def CellsFs : List PF → Prop
  | [] => True
  | e :: l => CellsF e ∧ CellsFs l
theorem CellsFs.at : ∀ {l : List PF}, CellsFs l → ∀ e ∈ l, CellsF e
  | e :: l, h, f, hf => by
    rcases List.mem_cons.1 hf with rfl | hf
    · exact h.1
    · exact CellsFs.at h.2 f hf
def koF (W : World) : PF :=
  ⟨fun w => W.heap.size ≤ w.heap.size ∧ ∀ (b : Nat) (o : Obj), W.heap[b]? = some o → o.isCells = false → w.heap[b]? = some o, fun b => ∃ o : Obj, W.heap[b]? = some o ∧ o.isCells = false,
    fun h hb => by
      obtain ⟨o, ho, hc⟩ := hb
      exact lt_of_block (h.2 _ o ho hc),
    fun h hs hk => ⟨Nat.le_trans h.1 hs, fun b o hb ho => (hk b ⟨o, hb, ho⟩).trans (h.2 b o hb ho)⟩⟩
def defF (D : Nat) : PF :=
  ⟨fun w => w.heap[D]? = some (.deferred (some [])), fun b => b = D, fun h e => e ▸ lt_of_block h, fun h _ hk => (hk D rfl).trans h⟩
end
end Go.Proofs.YtbdngknpngcojaaDoor.W

/- Rows that grow, of which also the spare room is known: every cell of the block meets q. Over any program. No condition. -/
namespace Go.Proofs.YtbdngknpngcojaaDoor.W
open Go.RowKit Anv Go.Lib
def SpareQ (q : Value → Bool) (w : World) (E : TypeId) (v : Value) : Prop := ∀ g, v.ownBlock = some g → ∃ cur, w.heap[g]? = some (.cells cur E (0, 0)) ∧ cur.toList.all q = true
def rowG (q : Value → Bool) (E z : Nat) (v : Value) (n : Nat) (vs : List Value) : PF :=
  ⟨fun w => w.ownsRow 0 E z v n vs ∧ SpareQ q w E v, fun b => v.ownBlock = some b, fun h hb => (h.1.lt _ hb).2, fun {w w'} h hs hk => by
    refine ⟨(rowF E z v n vs).keep h.1 hs hk, fun g hg => ?_⟩
    obtain ⟨cur, hc, hq⟩ := h.2 g hg
    exact ⟨cur, (hk g hg).trans hc, hq⟩⟩
section
variable {P : Program} {K : Act → World → Prop} {Q : Exit → Act → World → Prop} {N : Nat} {dq : List Deferred} {a : Act} {l : List (Nat × Value)} {w w0 : World} {own ps : List PF}
variable {d : Nat} {ty : TypeId} {pos : String} {af : Array Edge} {gd : Option (Nat × Bool)}
end
end Go.Proofs.YtbdngknpngcojaaDoor.W

/- limb.Digits's iterator: the digits of a number's text, one by one. No condition. -/
namespace Go.Proofs.YtbdngknpngcojaaDoor.W
open Go.RowKit Anv Go.Lib
def dgt (c : UInt8) : Fin 10 := ⟨(c.toNat - 48) % 10, Nat.mod_lt _ (by decide)⟩
def dgs (s : List UInt8) : List (Fin 10) := s.map dgt
section
variable {P : Program} {K : Act → World → Prop} {Q : Exit → Act → World → Prop} {N : Nat} {dq : List Deferred} {a : Act} {l : List (Nat × Value)} {w : World}
variable {d : Nat} {ty : TypeId} {pos : String} {af : Array Edge} {gd : Option (Nat × Bool)}
end
end Go.Proofs.YtbdngknpngcojaaDoor.W

/- limb.Digits, and a number's text. Printed by pv/gen_itext.py. No condition. -/
namespace Go.Proofs.YtbdngknpngcojaaDoor.W
open Go.RowKit Anv Go.Lib
def textZ (z : Int) : List UInt8 := (if neg z then [45] else []) ++ textN z.natAbs
section
variable {P : Program} {N : Nat} {dq : List Deferred} {a : Act} {l : List (Nat × Value)} {w : World} {d : Nat} {ty : TypeId} {pos : String} {af : Array Edge} {gd : Option (Nat × Bool)}
end
end Go.Proofs.YtbdngknpngcojaaDoor.W
