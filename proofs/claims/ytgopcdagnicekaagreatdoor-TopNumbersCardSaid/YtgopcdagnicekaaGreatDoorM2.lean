/- What a slice of limbs reads as; the first contracts. No condition. -/
import Derived.Test.YtgopcdagnicekaaGreatDoorM1
import Derived.Test.YtgopcdagnicekaaGreatDoorRows
import Derived.WalkKit
import Derived.WalkLawsBesides
import Derived.WalkSpells
import Derived.Outline
import Derived.Lib.Hide

set_option linter.unusedVariables false
set_option linter.unusedSimpArgs false
set_option linter.all false
namespace Go.Proofs.YtgopcdagnicekaaGreatDoor
open Go.RowKit Anv
structure eT (w:World) (A:Option Addr) (n c:Nat) (xs:List Nat):Prop where
 len:xs.length=n
 cap:n<=c
 big:c<=maxLen
 lt:bN 4294967296 xs
 cells:0<n->∃b off,A=some ⟨b,off,none⟩/\b<w.heap.size/\∀i,i<n->w.cell? ⟨b,off+i,none⟩=some (.int .u32 (xs.getD i 0:Nat))
def tl (xs:List Nat):Nat:=(trim xs).length
theorem Yp {xs:List Nat} (h:bN 4294967296 xs) (m:Nat) (hm:m<=xs.length) (hz:∀i,m<=i->i<xs.length->xs.getD i 0=0) (hl:m=0∨xs.getD (m - 1) 0≠0):m=tl xs:=by
 have h1:=E0 ae h m hm hz hl
 unfold tl
 rw [C6 ae h,<- h1]
 simp; omega
def L (N:Nat):List Nat:=sw 4294967296 N
theorem mT (N:Nat):val 4294967296 (L N)=N:=C3 ae N
theorem xq (N:Nat):bN 4294967296 (L N):=H5 ae N
theorem qT:L 0=[]:=jj _
theorem OM {xs:List Nat} (h:bN 4294967296 xs):trim xs=L (val 4294967296 xs):=C6 ae h
theorem ZP {xs:List Nat} (h:bN 4294967296 xs):tl xs=(L (val 4294967296 xs)).length:=by unfold tl; rw [OM h]
theorem ae6 (xs:List Nat):tl xs<=xs.length:=by
 obtain ⟨n,hn⟩:=rK xs
 have:=aM List.length hn
 simp at this
 unfold tl; omega
theorem UB {xs:List Nat} (h:bN 4294967296 xs):xs.take (tl xs)=L (val 4294967296 xs):=by
 obtain ⟨n,hn⟩:=rK xs
 rw [<- OM h]
 conv=>lhs; rw [hn]
 unfold tl
 conv=>lhs; rw [<- hn]
 conv=>lhs; arg 2; rw [hn]
 simp
theorem eT.trim {w:World} {A:Option Addr} {n c:Nat} {xs:List Nat} (h:eT w A n c xs):eT w A (tl xs) (tl xs) (L (val 4294967296 xs)):=by
 have hl:=ae6 xs
 rw [h.len] at hl
 refine ⟨(ZP h.lt).symm,aY _,?_,xq _,fun hp=>?_⟩
 ·have:=h.cap; have:=h.big; omega
 ·obtain ⟨b,off,hA,hb,hc⟩:=h.cells ae
  refine ⟨b,off,hA,hb,fun i hi=>?_⟩
  rw [hc i ae,<- UB h.lt]
  congr 3
  simp [List.getD,hi]
theorem eT.below {w w':World} {A:Option Addr} {n c:Nat} {xs:List Nat} (h:eT w A n c xs) (hb:Below w.heap.size w w'):eT w' A n c xs:=
 ⟨h.len,h.cap,h.big,h.lt,fun hp=>by
  obtain ⟨b,off,hA,cD,hc⟩:=h.cells hp
  exact ⟨b,off,hA,gw cD hb.size,fun i hi=>(hb.cell cD).trans (hc i hi)⟩⟩
def kC (B:Nat) (w:World) (v:Value) (N:Nat):Prop:=
 ∃A c,v=.slice A (L N).length c/\eT w A (L N).length c (L N)/\∀a,A=some a->B<=a.block
def nl (N:Nat):Nat:=(L N).length
def cM (w:World) (A:Option Addr) (n c:Nat) (N:Nat):Prop:=∃xs,eT w A n c xs/\val 4294967296 xs=N
theorem cM.below {w w':World} {A:Option Addr} {n c N:Nat} (h:cM w A n c N) (hb:Below w.heap.size w w'):cM w' A n c N:=by
 obtain ⟨xs,hx,hv⟩:=h
 exact ⟨xs,hx.below hb,hv⟩
theorem eT.num {w:World} {A:Option Addr} {n c N:Nat} (h:eT w A n c (L N)):cM w A n c N:=⟨_,h,mT N⟩
def mU (N M:Nat):Int:=if N<M then -1 else if M<N then 1 else 0
theorem J5 {N M:Nat} (h:N<M):mU N M=-1:=aR h
theorem J6 {N M:Nat} (h:M<N):mU N M=1:=by unfold mU; rw [aQ ae,aR h]
theorem UC (N:Nat):mU N N=0:=by unfold mU; rw [aQ ae,aQ ae]
theorem nK (N M:Nat):-1<=mU N M/\mU N M<=1:=by unfold mU; (repeat' split)<;>omega
theorem oB (N M:Nat):mU N M<0↔N<M:=by unfold mU; (repeat' split)<;>omega
theorem pg (w:World) (n:Nat):Below w.heap.size w (w.drewN n):=⟨rfl,rfl,rfl,aY _,fun _ _=>rfl⟩
theorem qU (w:World) (o:Obj):Below w.heap.size w (w.alloc o):=(Below.refl _ _).alloc (aY _) _
theorem jK (w:World) (o o':Obj):Below w.heap.size w ((w.alloc o).alloc o'):=(qU w o).alloc cT _
theorem mV (w:World) (o o' H8:Obj):Below w.heap.size w (((w.alloc o).alloc o').alloc H8):=(jK w o o').alloc (by simp; omega) _
theorem ja {w W w':World} (h:Below w.heap.size w W) (k:Below W.heap.size W w'):Below w.heap.size w w':=h.trans (k.mono h.size)
theorem eT.store {w:World} {A:Option Addr} {n c:Nat} {xs:List Nat} (h:eT w A n c xs) {p:Addr} (hp:∀x,w.cell? p≠some (.int .u32 x)) (u:Value):eT (w.setCell p u) A n c xs:=
 ⟨h.len,h.cap,h.big,h.lt,fun h0=>by
  obtain ⟨b,off,rfl,cD,hc⟩:=h.cells h0
  refine ⟨b,off,rfl,by simp [World.setCell]; exact cD,fun i hi=>?_⟩
  rw [World.cell?_setCell_other]
  ·exact hc i hi
  ·intro e
   exact hp _ (by rw [e]; exact hc i hi)⟩
theorem eT.kD {w:World} {A:Option Addr} {n c:Nat} {xs:List Nat} (h:eT w A n c xs) {g:Nat} (h0:w.cell? ⟨g,0,none⟩=some (.bool false)) (h1:w.cell? ⟨g,1,none⟩=some bA) (u u':Value):
  eT ((w.setCell ⟨g,0,none⟩ u).setCell ⟨g,1,none⟩ u') A n c xs:=
 (h.store (by rw [h0]; intro x hx; cases hx) u).store (by
  rw [World.cell?_setCell_other]
  ·rw [h1]; intro x hx; cases hx
  ·simp) u'
theorem cI {w w1:World} {g:Nat} (h:Below w.heap.size w w1) (hg:w.heap.size<=g) (u u':Value):Below w.heap.size w ((w1.setCell ⟨g,0,none⟩ u).setCell ⟨g,1,none⟩ u'):=
 (h.setCell (by exact hg) u).setCell (by exact hg) u'
theorem int_eq {k:IntKind} {a b:Int} (h:a=b):Value.int k a=Value.int k b:=by rw [h]
theorem xM (v:Int) (h:0<=v) (h2:v<18446744073709551616):bits .and .u64 v 1=v%2:=by
 rw [u64_and v 1 h h2 ae ae]
 rw [show (1:Int).toNat=1 from rfl,Nat.and_one_is_mod]
 omega
theorem yQ (x s:Nat) (hx:x<4294967296) (hs:s<=4294967296) (h:x<s):
  bits .and .u64 (IntKind.u64.wrap ((x:Int) - s) / 4294967296) 1=1/\IntKind.u64.wrap ((x:Int) - s)%4294967296=((x+4294967296 - s:Nat):Int):=by
 rw [IntKind.wrap_u64]
 have e:((x:Int) - s)%18446744073709551616=(x:Int) - s+18446744073709551616:=ae
 rw [e,xM _ ae ae]
 omega
theorem BO (x s:Nat) (hx:x<4294967296) (h:¬x<s):
  bits .and .u64 (((x:Int) - s) / 4294967296) 1=0/\((x:Int) - s)=((x - s:Nat):Int):=by
 rw [xM _ ae ae]
 omega
theorem BP {A:Option Addr} {m m' k k':Nat} (h:m=m') (h':k=k'):Ending.returned (.slice A m k)=.returned (.slice A m' k'):=by rw [h,h']
theorem E4 (A:Option Addr) (n c:Nat) (xs:List Nat) (w:World) (h:eT w A n c xs):
  Calls Tryz.prog 108 #[.slice A n c] w fun e w'=>e=.returned (.slice A (tl xs) (tl xs))/\w=w':=by
 have hc:=h.cap
 have hb:=h.big
 unfold maxLen at hb
 go_enter Tryz.func108,Tryz.ntmps108
 go_wp2
 go_loop [3] (fun i=>∃m:Nat,m<=n/\i=.int .i64 m/\Hid (∀j,m<=j->j<n->xs.getD j 0=0)) (fun i=>(intOf i).toNat)
 case atStart=>exact ⟨n,aY _,rfl,fun j h1 h2=>ae⟩
 case round=>
  obtain ⟨m,hm,rfl,HZ⟩:=hrel
  rcases m with _ | m
  ·go_wp2
   go_ret
   have e:=Yp h.lt 0 ae (fun j h1 h2=>HZ.out j h1 (by rw [<- h.len]; exact h2)) (.inl rfl)
   exact ⟨BP e e,rfl⟩
  ·obtain ⟨b,off,rfl,nB,ia⟩:=h.cells ae
   have nM:=ia m ae
   generalize hx:xs.getD m 0=x at nM
   have HX:=Lib.hid hx
   by_cases hx:x=0
   ·subst hx
    go_wp2
    go_round
    case rel=>
     refine ⟨m,by omega,rfl,fun j h1 h2=>?_⟩
     rcases Nat.eq_or_lt_of_le h1 with h3 | h3
     ·rw [<- h3]; exact HX.out
     ·exact HZ.out j ae h2
    case measure=>simp [intOf]
   ·have xv:((x:Int)==0)=false:=by simp; omega
    go_wp2
    go_ret
    have e:=Yp h.lt (m+1) (by rw [h.len]; omega) (fun j h1 h2=>HZ.out j h1 (by rw [<- h.len]; exact h2)) (.inr (by rw [vu,HX.out]; exact hx))
    exact ⟨BP e e,rfl⟩
theorem il (A:Option Addr) (n c N:Nat) (w:World) (h:cM w A n c N):
  Calls Tryz.prog 108 #[.slice A n c] w fun e w'=>e=.returned (.slice A (nl N) (nl N))/\eT w A (nl N) (nl N) (L N)/\w=w':=by
 obtain ⟨xs,hx,rfl⟩:=h
 refine (E4 A n c xs w hx).mono ?_
 rintro e w' ⟨rfl,rfl⟩
 have h1:=ZP hx.lt
 have h2:=hx.trim
 rw [h1] at h2 ⊢
 exact ⟨rfl,h2,rfl⟩
end Go.Proofs.YtgopcdagnicekaaGreatDoor
