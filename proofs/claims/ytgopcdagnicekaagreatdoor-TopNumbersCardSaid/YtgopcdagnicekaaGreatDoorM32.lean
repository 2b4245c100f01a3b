/- limb.Digits's iterator: the digits of a number's text, one by one. No condition. -/
import Derived.Test.YtgopcdagnicekaaGreatDoorM1
import Derived.Test.YtgopcdagnicekaaGreatDoorM12
import Derived.Test.YtgopcdagnicekaaGreatDoorM29
import Derived.Test.YtgopcdagnicekaaGreatDoorM11
import Derived.Test.YtgopcdagnicekaaGreatDoorM9
import Derived.Test.YtgopcdagnicekaaGreatDoorM24

set_option linter.unusedVariables false
set_option linter.unusedSimpArgs false
set_option linter.all false
namespace Go.Proofs.YtgopcdagnicekaaGreatDoor.W
open Go.RowKit Anv Go.Lib
def dgt (c:UInt8):Fin 10:=⟨(c.toNat - 48)%10,kx _ ai⟩
def dgs (s:List UInt8):List (Fin 10):=s.map dgt
section
variable {P:Program} {K:Act->World->Prop} {Q:Exit->Act->World->Prop} {N:Nat} {dq:List Deferred} {a:Act} {l:List (Nat×Value)} {w:World}
variable {d:Nat} {ty:TypeId} {pos:String} {af:Array Edge} {gd:Option (Nat×Bool)}
end
def Cb (z:Int):List UInt8:=(if neg z then [45] else [])++O3 z.natAbs
section
variable {P:Program} {N:Nat} {dq:List Deferred} {a:Act} {l:List (Nat×Value)} {w:World} {d:Nat} {ty:TypeId} {pos:String} {af:Array Edge} {gd:Option (Nat×Bool)}
theorem Fq {f:FuncId} {cs:Array Operand} {vs:Array Value} (h:aW dq N a l) (hx:cs.toList.map (bV l)=vs.toList.map some):
  (execOp a.eval ⟨some d,.makeFunc (.func f) #[] cs,ty,pos,af,gd⟩).run P w=.ok (.value (.func (.func f) #[] vs)) w:=by
 have he:cs.map a.eval=vs:=by
  apply BG
  rw [qg]
  generalize cs.toList=xl at hx ⊢
  generalize vs.toList=vl at hx ⊢
  induction xl generalizing vl with
  | nil=>cases vl with
   | nil=>rfl
   | cons=>simp at hx
  | cons x xl ih=>cases vl with
   | nil=>simp at hx
   | cons v vl=>
    simp only [jJ,pf] at hx ⊢
    exact ⟨h.ev hx.1,ih vl hx.2⟩
 simp [execOp,Instr.makeFunc,he]
end
end Go.Proofs.YtgopcdagnicekaaGreatDoor.W
