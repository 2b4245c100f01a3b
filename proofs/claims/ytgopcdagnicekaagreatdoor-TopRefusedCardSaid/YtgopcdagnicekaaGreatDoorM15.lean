/- Arrays, bytes and strings, the builder as a resource. No condition but those of the walked writers. -/
import Derived.Test.YtgopcdagnicekaaGreatDoorM13
import Derived.Test.YtgopcdagnicekaaGreatDoorM14
set_option linter.all false
namespace Go.Proofs.YtgopcdagnicekaaGreatDoor.W
open Go.RowKit Anv Go.Lib
section
variable {P:Program} {K:Act->World->Prop} {Q:Exit->Act->World->Prop} {N:Nat} {dq:List Deferred} {a:Act} {l:List (Nat×Value)} {w w0:World} {own ps:List PF}
variable {d:Nat} {ty:TypeId} {pos:String} {af:Array Edge} {gd:Option (Nat×Bool)}
theorem my {x y:Operand} {T E i n z p g o:Nat} {k:IntKind} (h:b7 dq N a l) (hT:P.underlying T=some (.array n E)) (hE:∃j,P.info? E=some j/\j.size=z) (hx:eB l x=some (.pointer (some ⟨g,o,none⟩))) (hy:eB l y=some (.int k (i:Nat))) (hi:i<n) (hp:o+i*z=p):
  (execOp a.eval ⟨some d,.indexAddr T x y,ty,pos,af,gd⟩).run P w=.ok (.value (.pointer (some ⟨g,p,none⟩))) w:=by
 subst hp
 simp [execOp,h.ev hx,h.ev hy,Instr.indexAt,Instr.sureAddr,Sem.run_bind,asIntOf,run_underlying hT w,hi,run_sizeOf hE,Addr.add_mid]
end
section
variable {K:Act->World->Prop} {Q:Exit->Act->World->Prop} {N:Nat} {dq:List Deferred} {a:Act} {l:List (Nat×Value)} {w w0:World} {own ps:List PF}
variable {d:Nat} {ty:TypeId} {pos:String} {af:Array Edge} {gd:Option (Nat×Bool)}
end
end Go.Proofs.YtgopcdagnicekaaGreatDoor.W
