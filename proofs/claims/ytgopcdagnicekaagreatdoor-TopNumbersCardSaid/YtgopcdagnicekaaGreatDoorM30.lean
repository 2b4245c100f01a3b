/- What the laws of layer 2 need: contracts in the walk's form. No condition. -/
import Derived.Test.YtgopcdagnicekaaGreatDoorM1
import Derived.Test.YtgopcdagnicekaaGreatDoorM6
import Derived.Test.YtgopcdagnicekaaGreatDoorM12
import Derived.Test.YtgopcdagnicekaaGreatDoorM10

set_option linter.unusedVariables false
set_option linter.unusedSimpArgs false
set_option linter.all false
namespace Go.Proofs.YtgopcdagnicekaaGreatDoor
open Go.RowKit Anv
def pfR (A:Option Addr) (c:Nat) (z:Int):PF:=UT A (dl z) c (D z.natAbs)
def qn (r:Rat):Int:=r.num
def qd (r:Rat):Int:=(r.den:Int)
def ql (r:Rat):Int:=(r.den:Int) - 1
theorem aau (r:Rat):0<qd r:=by have:=r.den_pos; unfold qd; omega
theorem zi (r:Rat):qd r≠0:=by have:=aau r; omega
theorem PU {n d:Int} (hd:d≠0):((Int.gcd n d:Nat):Int)≠0:=by
 have:=Int.gcd_pos_of_ne_zero_right n hd
 omega
theorem zj (r:Rat):Rat.divInt (qn r) (qd r)=r:=Rat.num_divInt_den r
theorem afF (x y:Rat):Rat.divInt (qn x*qd y+qn y*qd x) (qd x*qd y)=x+y:=by
 rw [<- Rat.divInt_add_divInt _ _ (zi x) (zi y),zj,zj]
theorem afG (x y:Rat):Rat.divInt (qn x*qn y) (qd x*qd y)=x*y:=by
 rw [<- Rat.divInt_mul_divInt,zj,zj]
theorem aav (x y:Rat):Rat.divInt (qn x*qd y) (qd x*qn y)=x / y:=by
 rw [<- Rat.divInt_mul_divInt,zj,Rat.div_def,Rat.inv_def]; rfl
theorem aaw {y:Rat}:qn y=0↔y=0:=by unfold qn; exact Rat.num_eq_zero
theorem aax {y:Rat} (h:y≠0):qn y≠0:=fun e=>h (aaw.1 e)
theorem aay {x y:Rat} (h:y≠0):qd x*qn y≠0:=by
 intro e
 rcases Int.mul_eq_zero.1 e with h1 | h1
 ·exact zi x h1
 ·exact aax h h1
def asm (x y:Rat):Int:=(qn x*qd y - qn y*qd x).sign
def Qs (k:Nat) (r:Rat):Prop:=r.num.natAbs<4294967296 ^ k/\r.den<4294967296 ^ k
theorem lj {a b:Nat} (h:a<=b):4294967296 ^ a<=4294967296 ^ b:=fE ai h
theorem Qs.mono {a b:Nat} {r:Rat} (h:Qs a r) (Oo:a<=b):Qs b r:=⟨gw h.1 (lj Oo),gw h.2 (lj Oo)⟩
theorem Qs.n {k:Nat} {r:Rat} (h:Qs k r):zl (qn r)<=k:=cQ h.1
theorem Qs.d {k:Nat} {r:Rat} (h:Qs k r):zl (qd r)<=k:=cQ (by unfold qd; rw [yD]; exact h.2)
theorem Qs.l {k:Nat} {r:Rat} (h:Qs k r):zl (ql r)<=k:=cQ (by
 have:=r.den_pos
 have h2:=h.2
 unfold ql
 omega)
theorem Qs.neg {k:Nat} {r:Rat} (h:Qs k r):Qs k (-r):=⟨by rw [Rat.neg_num,Int.natAbs_neg]; exact h.1,h.2⟩
theorem Iq {k:Nat} {n d:Int} (hn:n.natAbs<4294967296 ^ k) (hd:d.natAbs<4294967296 ^ k) (h0:d≠0):Qs k (Rat.divInt n d):=by
 constructor
 ·rw [Rat.num_divInt]
  refine qf (Int.natAbs_ediv_le_natAbs _ _) ?_
  rw [lH,Int.natAbs_sign_of_ne_zero h0,Nat.one_mul]
  exact hn
 ·rw [Rat.den_divInt,aQ h0]
  exact qf (yI _ _) hd
theorem Qs.Ca {k:Nat} {r:Rat} (h:Qs k r):(qn r).natAbs<4294967296 ^ k:=h.1
theorem Qs.wO {k:Nat} {r:Rat} (h:Qs k r):(qd r).natAbs<4294967296 ^ k:=by unfold qd; rw [yD]; exact h.2
theorem nj {a b:Nat} {x y:Int} (h:x.natAbs<4294967296 ^ a) (g:y.natAbs<4294967296 ^ b):(x*y).natAbs<4294967296 ^ (a+b):=by
 rw [lH,mM]
 exact Nat.mul_lt_mul'' h g
theorem PW {a b:Nat} {x y:Int} (h:x.natAbs<4294967296 ^ a) (g:y.natAbs<4294967296 ^ b):(x+y).natAbs<4294967296 ^ (max a b+1):=by
 have h1:=lj (Nat.le_max_left a b)
 have h2:=lj (Nat.le_max_right a b)
 have h3:=Int.natAbs_add_le x y
 rw [iJ]
 omega
theorem Qs.mul {a b:Nat} {x y:Rat} (hx:Qs a x) (hy:Qs b y):Qs (a+b) (x*y):=by
 rw [<- afG]
 exact Iq (nj hx.Ca hy.Ca) (nj hx.wO hy.wO) (EU (zi x) (zi y))
theorem Qs.add {a b:Nat} {x y:Rat} (hx:Qs a x) (hy:Qs b y):Qs (a+b+1) (x+y):=by
 rw [<- afF]
 refine Iq ?_ ?_ (EU (zi x) (zi y))
 ·have h:=PW (nj hx.Ca hy.wO) (nj hy.Ca hx.wO)
  rw [Nat.add_comm b a,Nat.max_self] at h
  exact h
 ·exact gw (nj hx.wO hy.wO) (lj ae)
theorem Qs.sub {a b:Nat} {x y:Rat} (hx:Qs a x) (hy:Qs b y):Qs (a+b+1) (x - y):=by
 rw [Rat.sub_eq_add_neg]; exact hx.add hy.neg
theorem Qs.over {a b:Nat} {x y:Rat} (hx:Qs a x) (hy:Qs b y) (h:y≠0):Qs (a+b) (x / y):=by
 rw [<- aav]
 exact Iq (nj hx.Ca hy.wO) (nj hx.wO hy.Ca) (aay h)
theorem Qs.int {k:Nat} {z:Int} (h:z.natAbs<4294967296 ^ k):Qs (k+1) (z:Rat):=by
 have h1:=lj (show k<=k+1 by omega)
 have h2:=Nat.one_lt_pow (n:=k+1) (a:=4294967296) ae ai
 exact ⟨gw h h1,h2⟩
def QAt (w:World) (v:Value) (r:Rat):Prop:=∃A c B d,v=.agg #[.bool (neg (qn r)),.slice A (zl (qn r)) c,.bool (neg (ql r)),.slice B (zl (ql r)) d]/\dK w A c (qn r)/\dK w B d (ql r)
def YAt (w:World) (v:Value) (r:Rat):Prop:=∃A c B d,v=.agg #[.bool (neg (qn r)),.slice A (dl (qn r)) c,.bool (neg (qd r)),.slice B (dl (qd r)) d]/\Yw w A c (qn r)/\Yw w B d (qd r)
end Go.Proofs.YtgopcdagnicekaaGreatDoor
