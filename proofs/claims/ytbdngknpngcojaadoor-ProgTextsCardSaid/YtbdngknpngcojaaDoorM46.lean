/- strings.Builder.Grow at a builder that has not been written. No condition. -/
import Derived.Test.YtbdngknpngcojaaDoorM18
import Derived.Lib.MakeNoZero
import Derived.Lib.Builder

namespace Go.Proofs.YtbdngknpngcojaaDoor.W
open Go.RowKit Anv Go.Lib
theorem BGrown.after {w w1 w' : World} {b : Nat} {v' : Value} (hU : Upd w w1 b #[.pointer (some ⟨b, 0, none⟩), .slice none 0 0] 73) (hG : BGrown w1.drew w' b (.slice none 0 0) v' 0 []) : BGrown w w' b (.slice none 0 0) v' 0 [] := by
  have hs : w1.drew.heap.size = w.heap.size := hU.size
  refine ⟨hG.at_, hG.row, hG.ne, fun x hx => ?_, hG.os.trans hU.os, hG.tape.trans hU.tape, hG.output.trans hU.output, by have := hG.size; omega, fun x hx hxb hv => (hG.old x (by omega) hxb hv).trans (hU.old x hxb)⟩
  rcases hG.place x hx with h | h
  · exact .inl h
  · exact .inr (by omega)
theorem BGrown.same {w w1 : World} {b : Nat} (hU : Upd w w1 b #[.pointer (some ⟨b, 0, none⟩), .slice none 0 0] 73) : BGrown w w1.drew b (.slice none 0 0) (.slice none 0 0) 0 [] :=
  ⟨hU.new, World.ownsRow_nil _ _ _ _, by simp [Value.ownBlock], fun x hx => .inl hx, hU.os, hU.tape, hU.output, Nat.le_of_eq hU.size.symm, fun x _ hxb _ => hU.old x hxb⟩
section
variable {K : Act → World → Prop} {Q : Exit → Act → World → Prop} {N : Nat} {dq : List Deferred} {a : Act} {l : List (Nat × Value)} {w w0 : World} {own ps : List PF}
variable {d : Nat} {ty : TypeId} {pos : String} {af : Array Edge} {gd : Option (Nat × Bool)}
end
end Go.Proofs.YtbdngknpngcojaaDoor.W
