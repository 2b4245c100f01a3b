/- '==' at structs whose fields are all integers. Over any program. No condition. -/
import Derived.Test.YtegglooojlheoaaDoorM32
import Derived.Laws.StructEq

namespace Go.Proofs.YtegglooojlheoaaDoor.W
open Go.RowKit Anv Go.Lib
def ints (l : List Int) : Array Value := (l.map (Value.int .i64)).toArray
def intFB (P : Program) : List Field → Nat → Bool
 | [], _ => true
 | f :: fs, o => f.name != "_" && f.offset == o && (match P.underlying f.type with | some (.int .i64) => true | _ => false) && ((P.info? f.type).map (·.size) == some 1) && intFB P fs (o + 1)
section
variable {P : Program} {N : Nat} {dq : List Deferred} {a : Act} {l : List (Nat × Value)} {w : World} {d : Nat} {ty : TypeId} {pos : String} {af : Array Edge} {gd : Option (Nat × Bool)}
structure IntS (P : Program) (T n : Nat) : Prop where
 hg : P.eqGuardType P.depth T = false
 hT : P.underlying T = some (.struct (P.fieldsOf T))
 hp : P.stoodInHeld T = false
 hF : intFB P (P.fieldsOf T).toList 0 = true
 hn : (P.fieldsOf T).toList.length = n
end
end Go.Proofs.YtegglooojlheoaaDoor.W
