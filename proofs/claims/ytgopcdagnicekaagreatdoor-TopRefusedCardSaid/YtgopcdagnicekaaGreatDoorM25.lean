/- Reading a number's text: plain laws; strings' operations. No condition. -/
import Derived.Test.YtgopcdagnicekaaGreatDoorM24
set_option linter.all false
namespace Go.Proofs.YtgopcdagnicekaaGreatDoor
open Anv
def aaE (l:List UInt8) (i:Nat):Prop:=(l.getD i 0).toNat<48∨57<(l.getD i 0).toNat∨(0<i/\(l.getD 0 0).toNat=48)
def numOf (l:List UInt8):Nat:=l.foldl (fun a c=>a*10+(c.toNat - 48)) 0
end Go.Proofs.YtgopcdagnicekaaGreatDoor
namespace Go.Proofs.YtgopcdagnicekaaGreatDoor.W
open Go.RowKit Anv Go.Lib
section
variable {P:Program} {K:Act->World->Prop} {Q:Exit->Act->World->Prop} {N:Nat} {dq:List Deferred} {a:Act} {l:List (Nat×Value)} {w w0:World} {own ps:List PF}
variable {d:Nat} {ty:TypeId} {pos:String} {af:Array Edge} {gd:Option (Nat×Bool)}
theorem Rt {x y:Operand} {T T':Nat} {m n:Nat} (h:b7 dq N a l) (hx:eB l x=some (.int .i64 (m:Nat))) (hy:eB l y=some (.int .i64 (n:Nat))):
  (execOp a.eval ⟨some d,.call ⟨.builtin .min,#[x,y],#[T,T']⟩,ty,pos,af,gd⟩).run P w=.ok (.value (.int .i64 (min m n:Nat))) w:=by
 have hv:=h.ev hx
 have Dj:=h.ev hy
 have e:((min m n:Nat):Int)=if (n:Int)<(m:Int) then (n:Int) else (m:Int):=by
  split
  ·rw [Nat.min_eq_right ae]
  ·rw [cW ae]
 rw [e]
 generalize a.eval=ρ at hv Dj ⊢
 simp [hv,Dj,go_sem]
 split<;>omega
def ar' (k:Nat) (s:List UInt8) (p:Nat):PF:=
 ⟨fun w=>w.heap[k]?=some (.stringIter ⟨s.toArray⟩ p),fun b=>b=k,fun h e=>e ▸ lt_of_block h,fun h _ hk=>(hk k rfl).trans h⟩
end
section
variable {P:Program} {N:Nat} {dq:List Deferred} {a:Act} {l:List (Nat×Value)} {w:World} {d:Nat} {ty:TypeId} {pos:String} {af:Array Edge} {gd:Option (Nat×Bool)}
end
end Go.Proofs.YtgopcdagnicekaaGreatDoor.W
