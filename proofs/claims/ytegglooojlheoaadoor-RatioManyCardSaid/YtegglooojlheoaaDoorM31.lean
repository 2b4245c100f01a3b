/- The reference's product. Printed by pv/gen_ref01b.py. No condition. -/
import Derived.Test.YtegglooojlheoaaDoorM30
import Derived.Test.YtegglooojlheoaaDoorM28
import Derived.Test.YtegglooojlheoaaDoorM17

namespace Go.Proofs.YtegglooojlheoaaDoor.W
open Go.RowKit Anv
theorem U32.pre {w : World} {A : Option Addr} {n m c : Nat} {xs ys : List Nat} (h : U32 w A (n + m) c (xs ++ ys)) (hx : xs.length = n) : U32 w A n c xs :=
 ⟨hx, Nat.le_trans (Nat.le_add_right _ _) h.cap, h.big, fun x hm => h.lt x (List.mem_append_left _ hm), fun hp => by
  obtain ⟨b, off, hA, hb, hc⟩ := h.cells (by omega)
  refine ⟨b, off, hA, hb, fun i hi => ?_⟩
  rw [hc i (by omega)]
  simp [List.getD, List.getElem?_append_left (show i < xs.length by omega)]⟩
section
variable {P : Program} {K : Act → World → Prop} {Q : Exit → Act → World → Prop} {N : Nat} {dq : List Deferred} {a : Act} {l : List (Nat × Value)} {w w0 : World} {own ps : List PF}
variable {d : Nat} {ty : TypeId} {pos : String} {af : Array Edge} {gd : Option (Nat × Bool)}
end
def sls (ls : List (Option Addr × Nat × Nat)) : Array Value := (ls.map fun p => Value.slice p.1 p.2.1 p.2.2).toArray
theorem gt_iff (r : Int) : (decide (r ≥ (0 : Int)) = true) = (0 ≤ r) := by simp
section
variable {P : Program} {K : Act → World → Prop} {Q : Exit → Act → World → Prop} {N : Nat} {dq : List Deferred} {a : Act} {l : List (Nat × Value)} {w : World}
variable {d : Nat} {ty : TypeId} {pos : String} {af : Array Edge} {gd : Option (Nat × Bool)}
theorem op_callv {f : FuncId} {y : Operand} {xs : Array Operand} {Ts : Array TypeId} {vs : Array Value} {R : Ending → World → Prop} (h : EnvD dq N a l) (hd : Nat.blt d N = true)
  (hb : ∀ args w, (callFunc f args).run P w = .ok (.enter f args) w) (hy : evl l y = some (.func (.func f) #[] #[])) (hx : xs.toList.map (evl l) = vs.toList.map some) (hc : Calls P f vs w R)
  (hK : ∀ e w', R e w' → ∃ v, e = .returned v ∧ ∀ a', EnvD dq N a' ((d, v) :: l) → K a' w') :
  Oper.wp P ⟨some d, .call ⟨.value y, xs, Ts⟩, ty, pos, af, gd⟩ a w K Q := by
 have := op_call (K := K) (Q := Q) (ty := ty) (pos := pos) (af := af) (gd := gd) (Ts := Ts) h hd hb hx hc hK
 unfold Oper.wp at this ⊢
 have e : (execOp a.eval ⟨some d, .call ⟨.value y, xs, Ts⟩, ty, pos, af, gd⟩).run P w = (execOp a.eval ⟨some d, .call ⟨.value (.func f), xs, Ts⟩, ty, pos, af, gd⟩).run P w := by
  have h1 := h.ev hy
  have h2 : a.eval (.func f) = .func (.func f) #[] #[] := rfl
  simp only [execOp, resolve, h1, h2]
 rw [e]
 exact this
end
section
variable {P : Program} {N : Nat} {dq : List Deferred} {a : Act} {l : List (Nat × Value)} {w : World} {d : Nat} {ty : TypeId} {pos : String} {af : Array Edge} {gd : Option (Nat × Bool)}
end
end Go.Proofs.YtegglooojlheoaaDoor.W
