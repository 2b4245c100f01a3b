/- A scope in which the run jumps back to one label: what holds at the label, with ghosts. Over any program. No condition. -/
import Derived.Test.YtegglooojlheoaaDoorM36
import Derived.ScopeJumps
import Derived.Deep.LoopGhost

namespace Go.Proofs.YtegglooojlheoaaDoor.W
open Go.RowKit Anv Go.Lib
section
variable {P : Program} {a : Act} {w : World} {Q : Exit → Act → World → Prop}
theorem wp_scope_at {c R : Code} (l : Nat) (I : Nat → Act → World → Prop) (hf : findLabel c l = some (.seq .skip R))
    (pass : ∀ n a w, I n a w → R.wp P (Exit.jump l (fun a' w' => ∃ n', n' < n ∧ I n' a' w') Q) a w)
    (first : (∀ n a w, I n a w → R.wp P (Exit.jump l (fun a w => ∃ n, I n a w) Q) a w) → c.wp P (Exit.jump l (fun a w => ∃ n, I n a w) Q) a w) : (Code.scope c).wp P Q a w := by
  have hp : ∀ n a w, I n a w → R.wp P (Exit.jump l (fun a w => ∃ n, I n a w) Q) a w := fun n a w h => wp_mono (pass n a w h) (by
    intro e a' w' hq
    cases e with
    | goto l' => obtain ⟨h1, n', _, h2⟩ := hq; exact ⟨h1, n', h2⟩
    | _ => exact hq)
  refine wp_scope_jumps l (fun a w => ∃ n, I n a w) (fun a w => leastOf (fun n => I n a w)) hf (first hp) ?_
  intro a w hI
  refine wp_seq (wp_skip ?_)
  show R.wp P _ a w
  refine wp_mono (pass _ a w (leastOf_spec hI).1) ?_
  intro e a' w' hq
  cases e with
  | goto l' =>
    obtain ⟨h1, n', hlt, h2⟩ := hq
    exact ⟨h1, ⟨n', h2⟩, Nat.lt_of_le_of_lt ((leastOf_spec ⟨n', h2⟩).2 n' h2) hlt⟩
  | _ => exact hq
theorem sj_r {l : Nat} {J : Act → World → Prop} (h : Q .ret a w) : Exit.jump l J Q .ret a w := h
theorem sj_g {l : Nat} {J : Act → World → Prop} (h : J a w) : Exit.jump l J Q (.goto l) a w := ⟨rfl, h⟩
theorem bl_g {i j : Nat} (h : Q (.goto j) a w) : Exit.inBlock i Q (.goto j) a w := h
end
section
variable {P : Program} {K : Act → World → Prop} {Q : Exit → Act → World → Prop} {N : Nat} {dq : List Deferred} {a : Act} {l : List (Nat × Value)} {w w0 : World} {own ps : List PF}
variable {d : Nat} {ty : TypeId} {pos : String} {af : Array Edge} {gd : Option (Nat × Bool)}
end
end Go.Proofs.YtegglooojlheoaaDoor.W
