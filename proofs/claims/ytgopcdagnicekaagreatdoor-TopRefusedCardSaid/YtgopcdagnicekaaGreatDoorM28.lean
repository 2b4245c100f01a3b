/- The reference's product. Printed by pv/gen_ref01b.py. No condition. -/
import Derived.Test.YtgopcdagnicekaaGreatDoorM27
import Derived.Test.YtgopcdagnicekaaGreatDoorM25
set_option linter.all false
namespace Go.Proofs.YtgopcdagnicekaaGreatDoor.W
open Go.RowKit Anv
variable {A:Option Addr} {n m c T E:Nat} {x:Operand}
theorem kp.pre {w:World} {xs ys:List Nat} (h:kp w A (n+m) c (xs++ys)) (hx:xs.length=n):kp w A n c xs:=
 ⟨hx,aD (Nat.le_add_right _ _) h.cap,h.big,fun x hm=>h.lt x (List.mem_append_left _ hm),fun hp=>by
  obtain ⟨b,off,hA,hb,hc⟩:=h.cells ae
  refine ⟨b,off,hA,hb,fun i hi=>?_⟩
  rw [hc i ae]
  simp [List.getD,bQ (show i<xs.length by omega)]⟩
section
variable {P:Program} {K:Act->World->Prop} {Q:Exit->Act->World->Prop} {N:Nat} {dq:List Deferred} {a:Act} {l:List (Nat×Value)} {w w0:World} {own ps:List PF}
variable {d:Nat} {ty:TypeId} {pos:String} {af:Array Edge} {gd:Option (Nat×Bool)}
theorem mR {y:Operand} {z:Nat} {k:IntKind} (h:b7 dq N a l) (hT:P.underlying T=some (.slice E)) (hE:∃j,P.info? E=some j/\j.size=z) (hx:eB l x=some (.slice A n c)) (hy:eB l y=some (.int k (m:Nat))) (hm:m<=c):
  (execOp a.eval ⟨some d,.slice T x none (some y) none,ty,pos,af,gd⟩).run P w=.ok (.value (.slice A m c)) w:=by
 have hv:=h.ev hx
 have Dj:=h.ev hy
 have he:P.elem T=E:=by simp [Program.elem,hT]
 have hr:=run_slice_h w T A n c (by rw [he]; exact hT) k (m:Int) ae ae
 rw [he,run_sizeOf hE] at hr
 simp only [execOp,j5,fQ,hv,Dj]
 rw [Sem.run_bind,run_sliceAt_slice _ _ _ _ _ _ (by rw [he]; exact hT),hr]
 have e:Option.map (fun x:Addr=>x.add 0) A=A:=by
  cases A with
  | none=>rfl
  | some ad=>simp [Addr.add]
 simp [sliced,Result.andThen,e]
theorem pq {yt:Nat} (h:b7 dq N a l) (hT:P.underlying T=some (.slice E)) (hx:eB l x=some (.slice A n c)):
  (execOp a.eval ⟨some d,.binOp .eql T x (.const bM) yt,ty,pos,af,gd⟩).run P w=.ok (.value (.bool A.isNone)) w:=by
 refine cV h hx (by rfl) ?_
 have:=Lib.run_eql_slice_nil w T E A n c 0 0 hT
 simp [eqGuard,this]
end
def sls (ls:List (Option Addr×Nat×Nat)):Array Value:=(ls.map fun p=>Value.slice p.1 p.2.1 p.2.2).toArray
section
variable {P:Program} {K:Act->World->Prop} {Q:Exit->Act->World->Prop} {N:Nat} {dq:List Deferred} {a:Act} {l:List (Nat×Value)} {w:World}
variable {d:Nat} {ty:TypeId} {pos:String} {af:Array Edge} {gd:Option (Nat×Bool)}
end
section
variable {P:Program} {N:Nat} {dq:List Deferred} {a:Act} {l:List (Nat×Value)} {w:World} {d:Nat} {ty:TypeId} {pos:String} {af:Array Edge} {gd:Option (Nat×Bool)}
end
end Go.Proofs.YtgopcdagnicekaaGreatDoor.W
