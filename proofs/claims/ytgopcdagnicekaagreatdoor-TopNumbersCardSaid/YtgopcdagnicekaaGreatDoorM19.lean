/- How many binary digits a number has: limb.Bits, Bits of both. No condition. -/
import Derived.Test.YtgopcdagnicekaaGreatDoorM1
import Derived.Test.YtgopcdagnicekaaGreatDoorM6
import Derived.Test.YtgopcdagnicekaaGreatDoorM18
import Derived.Test.YtgopcdagnicekaaGreatDoorM10

set_option linter.unusedVariables false
set_option linter.unusedSimpArgs false
set_option linter.all false
namespace Go.Proofs.YtgopcdagnicekaaGreatDoor
open Go.RowKit Anv
def arU (n:Nat):Nat:=if n=0 then 0 else n.log2+1
theorem Yd:arU 0=0:=by simp [arU]
theorem Ya {n k:Nat} (h:n<2 ^ k):arU n<=k:=by
 unfold arU
 split
 ·omega
 ·rename_i h0
  have:=(Nat.log2_lt h0).2 h
  omega
theorem Hr (x b:Nat) (h:x / 2 ^ b≠0):arU x=b+arU (x / 2 ^ b):=by
 have hp:0<2 ^ b:=qi b
 have hx:x≠0:=by intro h0; subst h0; simp at h
 have h1:=Nat.log2_self_le h
 have h2:x / 2 ^ b<2 ^ ((x / 2 ^ b).log2+1):=Nat.lt_log2_self
 have e:x.log2=(x / 2 ^ b).log2+b:=(Nat.log2_eq_iff hx).2
  ⟨by rw [mM]; exact (Nat.le_div_iff_mul_le hp).1 h1,by rw [show (x / 2 ^ b).log2+b+1=((x / 2 ^ b).log2+1)+b by omega,mM]; exact (ux hp).1 h2⟩
 simp only [arU,hx,h,if_false,e]
 omega
theorem Ye (x:Nat) (h:x≠0):arU x=1+arU (x / 2):=by
 rcases dr x 2 with h1 | h1
 ·have:x=1:=ae
  subst this
  decide
 ·have:=Hr x 1 (by rw [Nat.pow_one]; omega)
  rw [Nat.pow_one] at this
  exact this
theorem CT:∀(k x:Nat),x<=k->x<18446744073709551616->Lib.bitLen x=arU x
 | 0,x,h,_=>by
  have:x=0:=ae
  subst this; decide
 | k+1,x,h,hx=>by
  by_cases h0:x=0
  ·subst h0; decide
  ·rw [Lib.bitLen_half x h0 hx,Ye x h0,CT k (x / 2) ae ae]
theorem ac0 {b:Nat} (hb:0<b) {xs:List Nat} (h:bN b xs) {n:Nat} (hn:xs.length=n+1):val b xs / b ^ n=xs.getD n 0:=by
 have h1:=iL b xs n ae
 rw [bD (by omega)] at h1
 have h2:=k8 (b:=b) (xs:=xs.take n) (fun x hx=>h x (lI hx))
 rw [fg,jS ae] at h2
 rw [h1,BF _ _ (nW hb),qk h2]; omega
theorem aag {xs:List Nat} (h:Norm xs) {n:Nat} (hn:xs.length=n+1):xs.getD n 0≠0:=by
 intro h0
 apply h
 rw [List.getLast?_eq_getElem?,hn,vu]
 rw [aF] at h0
 rw [aw ae] at h0 ⊢
 simpa using h0
theorem Yf {b k:Nat} (hb:b=2 ^ k) (h0:0<b) {xs:List Nat} (h:bN b xs) (hx:Norm xs) {n:Nat} (hn:xs.length=n+1):arU (val b xs)=k*n+arU (xs.getD n 0):=by
 have h1:=ac0 h0 h hn
 have h2:=aag hx hn
 rw [hb,<- Nat.pow_mul] at h1
 rw [Hr (val b xs) (k*n) (by rw [hb,h1]; exact h2),hb,h1]
theorem Yg (N m:Nat) (h:nl N=m+1):arU N=32*m+arU ((L N).getD m 0):=by
 have:=Yf (b:=4294967296) (k:=32) ai ae (xq N) (OI ae N) h
 rw [mT] at this
 exact this
theorem TP {N:Nat} (h:nl N=0):N=0:=by
 have h1:=mT N
 rw [List.length_eq_zero_iff.1 h] at h1
 exact h1.symm
theorem Yh {A:Option Addr} {n c N:Nat} {w:World} (h:cM w A n c N) (hN:nl N<=1000000):
  Calls Tryz.prog 101 #[.slice A n c] w fun e w'=>e=.returned (.int .i64 (arU N))/\w=w':=by
 go_enter Tryz.func101,Tryz.ntmps101
 go_wp2_with fail
 refine (il A n c N w h).mono ?_
 rintro e w' ⟨rfl,hu,rfl⟩
 have ht:=Yg N
 have hz:=TP (N:=N)
 have hb:=hu.big
 generalize nl N=m at*
 rcases m with _ | m
 ·have HZ:=Lib.hid (hz rfl)
  clear ht hz hu hb h
  go_wp2
  go_ret
  rw [HZ.out,Yd]
  exact ⟨rfl,rfl⟩
 ·obtain ⟨b,off,rfl,nB,ia⟩:=hu.cells ae
  have nM:=ia m ae
  have HT:=Lib.hid (ht m rfl)
  have hx:(L N).getD m 0<4294967296:=(xq N).get ae m
  clear ht hz ia hu h
  clear hb
  generalize (L N).getD m 0=x at*
  have wY:arU x<=32:=Ya hx
  go_wp2_with fail
  refine (afo (x:Int) _ ae ae).mono ?_
  rintro e w' ⟨rfl,rfl⟩
  have hB:=CT x x (aY _) ae
  rw [mJ,hB]
  clear hB
  go_wp2
  go_ret
  rw [HT.out]
  refine ⟨?_,rfl⟩
  exact aM (fun z=>Ending.returned (.int .i64 z)) ae
theorem ac2 {A:Option Addr} {c:Nat} {z:Int} {w:World} (h:dK w A c z) (hN:zl z<=1000000):
  Calls Tryz.prog 57 #[.agg #[.bool (neg z),.slice A (zl z) c]] w fun e w'=>e=.returned (.int .i64 (arU z.natAbs))/\Below w.heap.size w w':=by
 go_enter Tryz.func57,Tryz.ntmps57
 go_wp2_with fail
 refine (Yh (N:=z.natAbs) (h.below (qU _ _)).num hN).mono ?_
 rintro e w' ⟨rfl,rfl⟩
 go_wp2
 go_ret
 exact ⟨rfl,qU _ _⟩
theorem Cc {a b q r:Int} (hb:b≠0) (h:r+b*q=a) (h0:0<=r) (h1:r<b.natAbs):a / b=q/\a%b=r:=by
 rcases Int.lt_or_gt_of_ne hb with PY | C5
 ·have h2:=(Int.ediv_emod_unique (a:=a) (b:=-b) ae).2 ⟨by rw [Int.neg_mul_neg]; exact h,h0,by omega⟩
  rw [Int.ediv_neg] at h2
  rw [Int.emod_neg] at h2
  exact ⟨by omega,h2.2⟩
 ·exact (Int.ediv_emod_unique ae).2 ⟨h,h0,by omega⟩
theorem aaz (x y:Int):((x.natAbs%y.natAbs:Nat):Int)+(y.natAbs:Int)*((x.natAbs / y.natAbs:Nat):Int)=x.natAbs:=by
 rw [<- oz,<- Int.natCast_add,oy]
theorem Ft (x y:Int):sg (neg x) (x.natAbs%y.natAbs)+y*sg (!neg x==neg y) (x.natAbs / y.natAbs)=x:=by
 have h:=aaz x y
 generalize x.natAbs%y.natAbs=R at*
 generalize x.natAbs / y.natAbs=Q at*
 unfold sg neg
 rcases Int.lt_or_le x 0 with h1 | h1<;>rcases Int.lt_or_le y 0 with h2 | h2
 ·rw [show (x.natAbs:Int)=-x from ae,show (y.natAbs:Int)=-y from ae,yB] at h
  simp [h1,h2]; omega
 ·rw [show (x.natAbs:Int)=-x from ae,show (y.natAbs:Int)=y from ae] at h
  simp [h1,show ¬y<0 from ae,BI]; omega
 ·rw [show (x.natAbs:Int)=x from ae,show (y.natAbs:Int)=-y from ae,yB] at h
  simp [h2,show ¬x<0 from ae,BI]; omega
 ·rw [show (x.natAbs:Int)=x from ae,show (y.natAbs:Int)=y from ae] at h
  simp [show ¬y<0 from ae,show ¬x<0 from ae]; omega
theorem Fu {x y:Int} (hy:y≠0) (h:neg (sg (neg x) (x.natAbs%y.natAbs))=false):x / y=sg (!neg x==neg y) (x.natAbs / y.natAbs)/\x%y=sg (neg x) (x.natAbs%y.natAbs):=by
 refine Cc hy (Ft x y) (vO h) ?_
 have h1:=kx x.natAbs (show 0<y.natAbs by omega)
 have h2:=yT (neg x) (x.natAbs%y.natAbs)
 omega
theorem sign_mul (y:Int):y*y.sign=y.natAbs:=Int.mul_sign_self y
theorem MZ {x y:Int} (hy:y≠0) (h:neg (sg (neg x) (x.natAbs%y.natAbs))=true):x / y=sg (!neg x==neg y) (x.natAbs / y.natAbs) - y.sign/\x%y=sg (neg x) (x.natAbs%y.natAbs)+y.natAbs:=by
 have h1:=kx x.natAbs (show 0<y.natAbs by omega)
 have h2:=yT (neg x) (x.natAbs%y.natAbs)
 have h3:=yV h
 have h4:=Ft x y
 have h5:=sign_mul y
 refine Cc hy ?_ ae ae
 rw [Int.mul_sub,h5]
 omega
theorem Kz (x y:Int):zl (x / y)<=zl x:=pn (Int.natAbs_ediv_le_natAbs x y)
def Ph (x y a b u v:Int):Prop:=
 (a=x/\b=y/\u=1/\v=0)∨(a=y/\b=x%y/\u=0/\v=1)∨
  ∃m n:Nat,a=m/\b=n/\m<=y.natAbs/\n<=y.natAbs/\v.natAbs*m+u.natAbs*n<=3*y.natAbs
structure Bz (x y a b u v:Int):Prop where
 gcd:Int.gcd a b=Int.gcd x y
 da:y∣a - u*x
 db:y∣b - v*x
 ub:u.natAbs<=3*y.natAbs
 vb:v.natAbs<=3*y.natAbs
 ph:Ph x y a b u v
end Go.Proofs.YtgopcdagnicekaaGreatDoor
