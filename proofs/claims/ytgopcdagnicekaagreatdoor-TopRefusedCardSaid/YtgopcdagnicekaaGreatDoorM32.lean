/- limb.Digits's iterator: the digits of a number's text, one by one. No condition. -/
import Derived.Test.YtgopcdagnicekaaGreatDoorM29
set_option linter.all false
namespace Go.Proofs.YtgopcdagnicekaaGreatDoor.W
open Go.RowKit Anv Go.Lib
def dgt (c:UInt8):Fin 10:=⟨(c.toNat - 48)%10,dF _ aB⟩
def dgs (s:List UInt8):List (Fin 10):=s.map dgt
section
variable {P:Program} {K:Act->World->Prop} {Q:Exit->Act->World->Prop} {N:Nat} {dq:List Deferred} {a:Act} {l:List (Nat×Value)} {w:World}
variable {d:Nat} {ty:TypeId} {pos:String} {af:Array Edge} {gd:Option (Nat×Bool)}
end
def DN (z:Int):List UInt8:=(if neg z then [45] else [])++QW z.natAbs
section
variable {P:Program} {N:Nat} {dq:List Deferred} {a:Act} {l:List (Nat×Value)} {w:World} {d:Nat} {ty:TypeId} {pos:String} {af:Array Edge} {gd:Option (Nat×Bool)}
theorem Ha {f:FuncId} {cs:Array Operand} {vs:Array Value} (h:b7 dq N a l) (hx:cs.toList.map (eB l)=vs.toList.map some):
  (execOp a.eval ⟨some d,.makeFunc (.func f) #[] cs,ty,pos,af,gd⟩).run P w=.ok (.value (.func (.func f) #[] vs)) w:=by
 have he:cs.map a.eval=vs:=by
  apply jx
  rw [fe]
  generalize cs.toList=xl at hx ⊢
  generalize vs.toList=vl at hx ⊢
  induction xl generalizing vl with
  | nil=>cases vl with
   | nil=>rfl
   | cons=>simp at hx
  | cons x xl ih=>cases vl with
   | nil=>simp at hx
   | cons v vl=>
    simp only [dk,eY] at hx ⊢
    exact ⟨h.ev hx.1,ih vl hx.2⟩
 simp [execOp,Instr.makeFunc,he]
end
end Go.Proofs.YtgopcdagnicekaaGreatDoor.W
