/- How many binary digits a number has: limb.Bits, Bits of both. No condition. -/
import Derived.Test.YtgopcdagnicekaaGreatDoorM18
import Derived.Test.YtgopcdagnicekaaGreatDoorM10
set_option linter.all false
namespace Go.Proofs.YtgopcdagnicekaaGreatDoor
open Go.RowKit Anv
def auM (n:Nat):Nat:=if n=0 then 0 else n.log2+1
theorem acf {xs:List Nat} (h:Norm xs) {n:Nat} (hn:xs.length=n+1):xs.getD n 0≠0:=by
 intro h0
 apply h
 rw [List.getLast?_eq_getElem?,hn,ic]
 rw [aj] at h0
 rw [ag ae] at h0 ⊢
 simpa using h0
theorem DO {a b q r:Int} (hb:b≠0) (h:r+b*q=a) (h0:0<=r) (h1:r<b.natAbs):a / b=q/\a%b=r:=by
 rcases Int.lt_or_gt_of_ne hb with RW | Ep
 ·have h2:=(Int.ediv_emod_unique (a:=a) (b:=-b) ae).2 ⟨by rw [Int.neg_mul_neg]; exact h,h0,by omega⟩
  rw [Int.ediv_neg] at h2
  rw [Int.emod_neg] at h2
  exact ⟨by omega,h2.2⟩
 ·exact (Int.ediv_emod_unique ae).2 ⟨h,h0,by omega⟩
theorem acC (x y:Int):((x.natAbs%y.natAbs:Nat):Int)+(y.natAbs:Int)*((x.natAbs / y.natAbs:Nat):Int)=x.natAbs:=by
 rw [<- eX,<- Int.natCast_add,eW]
theorem Hc (x y:Int):sg (neg x) (x.natAbs%y.natAbs)+y*sg (!neg x==neg y) (x.natAbs / y.natAbs)=x:=by
 have h:=acC x y
 generalize x.natAbs%y.natAbs=R at*
 generalize x.natAbs / y.natAbs=Q at*
 unfold sg neg
 rcases Int.lt_or_le x 0 with h1 | h1<;>rcases Int.lt_or_le y 0 with h2 | h2
 ·rw [show (x.natAbs:Int)=-x from ae,show (y.natAbs:Int)=-y from ae,iP] at h
  simp [h1,h2]; omega
 ·rw [show (x.natAbs:Int)=-x from ae,show (y.natAbs:Int)=y from ae] at h
  simp [h1,show ¬y<0 from ae,jF]; omega
 ·rw [show (x.natAbs:Int)=x from ae,show (y.natAbs:Int)=-y from ae,iP] at h
  simp [h2,show ¬x<0 from ae,jF]; omega
 ·rw [show (x.natAbs:Int)=x from ae,show (y.natAbs:Int)=y from ae] at h
  simp [show ¬y<0 from ae,show ¬x<0 from ae]; omega
variable {x y:Int}
theorem Hd (hy:y≠0) (h:neg (sg (neg x) (x.natAbs%y.natAbs))=false):x / y=sg (!neg x==neg y) (x.natAbs / y.natAbs)/\x%y=sg (neg x) (x.natAbs%y.natAbs):=by
 refine DO hy (Hc x y) (yw h) ?_
 have h1:=dF x.natAbs (show 0<y.natAbs by omega)
 have h2:=Bh (neg x) (x.natAbs%y.natAbs)
 omega
theorem sign_mul (y:Int):y*y.sign=y.natAbs:=Int.mul_sign_self y
theorem OP (hy:y≠0) (h:neg (sg (neg x) (x.natAbs%y.natAbs))=true):x / y=sg (!neg x==neg y) (x.natAbs / y.natAbs) - y.sign/\x%y=sg (neg x) (x.natAbs%y.natAbs)+y.natAbs:=by
 have h1:=dF x.natAbs (show 0<y.natAbs by omega)
 have h2:=Bh (neg x) (x.natAbs%y.natAbs)
 have h3:=Bj h
 have h4:=Hc x y
 have h5:=sign_mul y
 refine DO hy ?_ ae ae
 rw [Int.mul_sub,h5]
 omega
theorem Mg (x y:Int):zl (x / y)<=zl x:=sN (Int.natAbs_ediv_le_natAbs x y)
def Ph (x y a b u v:Int):Prop:=
 (a=x/\b=y/\u=1/\v=0)∨(a=y/\b=x%y/\u=0/\v=1)∨
  ∃m n:Nat,a=m/\b=n/\m<=y.natAbs/\n<=y.natAbs/\v.natAbs*m+u.natAbs*n<=3*y.natAbs
structure Bz (x y a b u v:Int):Prop where
 gcd:Int.gcd a b=Int.gcd x y
 da:y∣a - u*x
 db:y∣b - v*x
 ub:u.natAbs<=3*y.natAbs
 vb:v.natAbs<=3*y.natAbs
 ph:Ph x y a b u v
end Go.Proofs.YtgopcdagnicekaaGreatDoor
