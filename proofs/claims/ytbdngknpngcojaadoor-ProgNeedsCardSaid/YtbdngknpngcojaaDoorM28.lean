/- Reading a number's text: plain laws; strings' operations. No condition. -/
import Derived.Test.YtbdngknpngcojaaDoorM9
import Derived.Test.YtbdngknpngcojaaDoorM18
import Derived.Test.YtbdngknpngcojaaDoorM27
import Derived.Lib.OthersKept
import Derived.Laws.Strings2
import Derived.Test.YtbdngknpngcojaaDoorM15

namespace Go.Proofs.YtbdngknpngcojaaDoor
open Anv
def BadAt (l : List UInt8) (i : Nat) : Prop := (l.getD i 0).toNat < 48 ∨ 57 < (l.getD i 0).toNat ∨ (0 < i ∧ (l.getD 0 0).toNat = 48)
def numOf (l : List UInt8) : Nat := l.foldl (fun a c => a * 10 + (c.toNat - 48)) 0
end Go.Proofs.YtbdngknpngcojaaDoor
namespace Go.Proofs.YtbdngknpngcojaaDoor.W
open Go.RowKit Anv Go.Lib
section
variable {P : Program} {K : Act → World → Prop} {Q : Exit → Act → World → Prop} {N : Nat} {dq : List Deferred} {a : Act} {l : List (Nat × Value)} {w w0 : World} {own ps : List PF}
variable {d : Nat} {ty : TypeId} {pos : String} {af : Array Edge} {gd : Option (Nat × Bool)}
def iterF (k : Nat) (s : List UInt8) (p : Nat) : PF :=
  ⟨fun w => w.heap[k]? = some (.stringIter ⟨s.toArray⟩ p), fun b => b = k, fun h e => e ▸ lt_of_block h, fun h _ hk => (hk k rfl).trans h⟩
end
end Go.Proofs.YtbdngknpngcojaaDoor.W

/- limb.Read. Printed by pv/gen_read.py. No condition. -/
namespace Go.Proofs.YtbdngknpngcojaaDoor.W
open Go.RowKit Anv Go.Lib
section
variable {P : Program} {N : Nat} {dq : List Deferred} {a : Act} {l : List (Nat × Value)} {w : World} {d : Nat} {ty : TypeId} {pos : String} {af : Array Edge} {gd : Option (Nat × Bool)}
end
end Go.Proofs.YtbdngknpngcojaaDoor.W
