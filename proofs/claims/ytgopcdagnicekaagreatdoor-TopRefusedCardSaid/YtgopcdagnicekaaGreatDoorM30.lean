/- What the laws of layer 2 need: contracts in the walk's form. No condition. -/
import Derived.Test.YtgopcdagnicekaaGreatDoorM12
set_option linter.all false
namespace Go.Proofs.YtgopcdagnicekaaGreatDoor
open Go.RowKit Anv
def pfR (A:Option Addr) (c:Nat) (z:Int):PF:=W4 A (dl z) c (D z.natAbs)
def qn (r:Rat):Int:=r.num
def qd (r:Rat):Int:=(r.den:Int)
def ql (r:Rat):Int:=(r.den:Int) - 1
theorem acx (r:Rat):0<qd r:=by have:=r.den_pos; unfold qd; omega
theorem BE (r:Rat):qd r≠0:=by have:=acx r; omega
theorem RS {n d:Int} (hd:d≠0):((Int.gcd n d:Nat):Int)≠0:=by
 have:=Int.gcd_pos_of_ne_zero_right n hd
 omega
theorem BF (r:Rat):Rat.divInt (qn r) (qd r)=r:=Rat.num_divInt_den r
theorem ahK (x y:Rat):Rat.divInt (qn x*qd y+qn y*qd x) (qd x*qd y)=x+y:=by
 rw [<- Rat.divInt_add_divInt _ _ (BE x) (BE y),BF,BF]
theorem ahL (x y:Rat):Rat.divInt (qn x*qn y) (qd x*qd y)=x*y:=by
 rw [<- Rat.divInt_mul_divInt,BF,BF]
theorem acy (x y:Rat):Rat.divInt (qn x*qd y) (qd x*qn y)=x / y:=by
 rw [<- Rat.divInt_mul_divInt,BF,Rat.div_def,Rat.inv_def]; rfl
variable {y x r:Rat} {a b k:Nat}
theorem acz:qn y=0↔y=0:=by unfold qn; exact Rat.num_eq_zero
theorem acA (h:y≠0):qn y≠0:=fun e=>h (acz.1 e)
theorem acB (h:y≠0):qd x*qn y≠0:=by
 intro e
 rcases Int.mul_eq_zero.1 e with h1 | h1
 ·exact BE x h1
 ·exact acA h h1
def ava (x y:Rat):Int:=(qn x*qd y - qn y*qd x).sign
def Qs (k:Nat) (r:Rat):Prop:=r.num.natAbs<4294967296 ^ k/\r.den<4294967296 ^ k
theorem oV (h:a<=b):4294967296 ^ a<=4294967296 ^ b:=bS aB h
theorem Qs.mono (h:Qs a r) (Qh:a<=b):Qs b r:=⟨cl h.1 (oV Qh),cl h.2 (oV Qh)⟩
theorem Qs.n (h:Qs k r):zl (qn r)<=k:=gC h.1
theorem Qs.d (h:Qs k r):zl (qd r)<=k:=gC (by unfold qd; rw [iS]; exact h.2)
theorem Qs.l (h:Qs k r):zl (ql r)<=k:=gC (by
 have:=r.den_pos
 have h2:=h.2
 unfold ql
 omega)
theorem Qs.neg (h:Qs k r):Qs k (-r):=⟨by rw [Rat.neg_num,Int.natAbs_neg]; exact h.1,h.2⟩
theorem J5 {n d:Int} (hn:n.natAbs<4294967296 ^ k) (hd:d.natAbs<4294967296 ^ k) (h0:d≠0):Qs k (Rat.divInt n d):=by
 constructor
 ·rw [Rat.num_divInt]
  refine fa (Int.natAbs_ediv_le_natAbs _ _) ?_
  rw [dL,Int.natAbs_sign_of_ne_zero h0,Nat.one_mul]
  exact hn
 ·rw [Rat.den_divInt,ak h0]
  exact fa (jc _ _) hd
theorem Qs.DM (h:Qs k r):(qn r).natAbs<4294967296 ^ k:=h.1
theorem Qs.yZ (h:Qs k r):(qd r).natAbs<4294967296 ^ k:=by unfold qd; rw [iS]; exact h.2
theorem qR {x y:Int} (h:x.natAbs<4294967296 ^ a) (g:y.natAbs<4294967296 ^ b):(x*y).natAbs<4294967296 ^ (a+b):=by
 rw [dL,eh]
 exact Nat.mul_lt_mul'' h g
theorem RT {x y:Int} (h:x.natAbs<4294967296 ^ a) (g:y.natAbs<4294967296 ^ b):(x+y).natAbs<4294967296 ^ (max a b+1):=by
 have h1:=oV (Nat.le_max_left a b)
 have h2:=oV (Nat.le_max_right a b)
 have h3:=Int.natAbs_add_le x y
 rw [cT]
 omega
theorem Qs.mul (hx:Qs a x) (hy:Qs b y):Qs (a+b) (x*y):=by
 rw [<- ahL]
 exact J5 (qR hx.DM hy.DM) (qR hx.yZ hy.yZ) (j6 (BE x) (BE y))
theorem Qs.add (hx:Qs a x) (hy:Qs b y):Qs (a+b+1) (x+y):=by
 rw [<- ahK]
 refine J5 ?_ ?_ (j6 (BE x) (BE y))
 ·have h:=RT (qR hx.DM hy.yZ) (qR hy.DM hx.yZ)
  rw [Nat.add_comm b a,Nat.max_self] at h
  exact h
 ·exact cl (qR hx.yZ hy.yZ) (oV ae)
theorem Qs.sub (hx:Qs a x) (hy:Qs b y):Qs (a+b+1) (x - y):=by
 rw [Rat.sub_eq_add_neg]; exact hx.add hy.neg
theorem Qs.over (hx:Qs a x) (hy:Qs b y) (h:y≠0):Qs (a+b) (x / y):=by
 rw [<- acy]
 exact J5 (qR hx.DM hy.yZ) (qR hx.yZ hy.DM) (acB h)
theorem Qs.int {z:Int} (h:z.natAbs<4294967296 ^ k):Qs (k+1) (z:Rat):=by
 have h1:=oV (show k<=k+1 by omega)
 have h2:=Nat.one_lt_pow (n:=k+1) (a:=4294967296) ae aB
 exact ⟨cl h h1,h2⟩
def QAt (w:World) (v:Value) (r:Rat):Prop:=∃A c B d,v=.agg #[.bool (neg (qn r)),.slice A (zl (qn r)) c,.bool (neg (ql r)),.slice B (zl (ql r)) d]/\iY w A c (qn r)/\iY w B d (ql r)
def YAt (w:World) (v:Value) (r:Rat):Prop:=∃A c B d,v=.agg #[.bool (neg (qn r)),.slice A (dl (qn r)) c,.bool (neg (qd r)),.slice B (dl (qd r)) d]/\RIn w A c (qn r)/\RIn w B d (qd r)
end Go.Proofs.YtgopcdagnicekaaGreatDoor
