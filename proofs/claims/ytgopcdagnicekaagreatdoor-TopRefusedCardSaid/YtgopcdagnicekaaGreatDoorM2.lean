/- What a slice of limbs reads as; the first contracts. No condition. -/
import Derived.Test.YtgopcdagnicekaaGreatDoorM1
import Derived.Test.YtgopcdagnicekaaGreatDoorRows
import Derived.WalkLawsBesides
import Derived.WalkSpells
import Derived.Lib.Hide
set_option linter.all false
open Go.Proofs.Tryz
namespace Go.Proofs.YtgopcdagnicekaaGreatDoor
open Go.RowKit Anv
structure kp (w:World) (A:Option Addr) (n c:Nat) (xs:List Nat):Prop where
 len:xs.length=n
 cap:n<=c
 big:c<=maxLen
 lt:dZ 4294967296 xs
 cells:0<n->∃b off,A=some ⟨b,off,none⟩/\b<w.heap.size/\∀i,i<n->w.cell? ⟨b,off+i,none⟩=some (.int .u32 (xs.getD i 0:Nat))
def tl (xs:List Nat):Nat:=(trim xs).length
variable {xs:List Nat} {w w':World} {A:Option Addr} {n c N M g:Nat}
theorem aao (h:dZ 4294967296 xs) (m:Nat) (hm:m<=xs.length) (hz:∀i,m<=i->i<xs.length->xs.getD i 0=0) (hl:m=0∨xs.getD (m - 1) 0≠0):m=tl xs:=by
 have h1:=GK ae h m hm hz hl
 unfold tl
 rw [Er ae h,<- h1]
 simp; omega
def L (N:Nat):List Nat:=vI 4294967296 N
theorem qG (N:Nat):val 4294967296 (L N)=N:=En ae N
theorem zC (N:Nat):dZ 4294967296 (L N):=JJ ae N
theorem ud:L 0=[]:=mL _
theorem QD (h:dZ 4294967296 xs):trim xs=L (val 4294967296 xs):=Er ae h
theorem abS (h:dZ 4294967296 xs):tl xs=(L (val 4294967296 xs)).length:=by unfold tl; rw [QD h]
theorem aha (xs:List Nat):tl xs<=xs.length:=by
 obtain ⟨n,hn⟩:=u4 xs
 have:=aq List.length hn
 simp at this
 unfold tl; omega
theorem WM (h:dZ 4294967296 xs):xs.take (tl xs)=L (val 4294967296 xs):=by
 obtain ⟨n,hn⟩:=u4 xs
 rw [<- QD h]
 conv=>lhs; rw [hn]
 unfold tl
 conv=>lhs; rw [<- hn]
 conv=>lhs; arg 2; rw [hn]
 simp
theorem kp.trim (h:kp w A n c xs):kp w A (tl xs) (tl xs) (L (val 4294967296 xs)):=by
 have hl:=aha xs
 rw [h.len] at hl
 refine ⟨(abS h.lt).symm,ar _,?_,zC _,fun hp=>?_⟩
 ·have:=h.cap; have:=h.big; omega
 ·obtain ⟨b,off,hA,hb,hc⟩:=h.cells ae
  refine ⟨b,off,hA,hb,fun i hi=>?_⟩
  rw [hc i ae,<- WM h.lt]
  congr 3
  simp [List.getD,hi]
theorem kp.below (h:kp w A n c xs) (hb:Below w.heap.size w w'):kp w' A n c xs:=
 ⟨h.len,h.cap,h.big,h.lt,fun hp=>by
  obtain ⟨b,off,hA,fh,hc⟩:=h.cells hp
  exact ⟨b,off,hA,cl fh hb.size,fun i hi=>(hb.cell fh).trans (hc i hi)⟩⟩
def n8 (B:Nat) (w:World) (v:Value) (N:Nat):Prop:=
 ∃A c,v=.slice A (L N).length c/\kp w A (L N).length c (L N)/\∀a,A=some a->B<=a.block
def nl (N:Nat):Nat:=(L N).length
def NumIn (w:World) (A:Option Addr) (n c:Nat) (N:Nat):Prop:=∃xs,kp w A n c xs/\val 4294967296 xs=N
theorem NumIn.below (h:NumIn w A n c N) (hb:Below w.heap.size w w'):NumIn w' A n c N:=by
 obtain ⟨xs,hx,hv⟩:=h
 exact ⟨xs,hx.below hb,hv⟩
theorem kp.num (h:kp w A n c (L N)):NumIn w A n c N:=⟨_,h,qG N⟩
def qH (N M:Nat):Int:=if N<M then -1 else if M<N then 1 else 0
theorem LP (h:N<M):qH N M=-1:=au h
theorem LQ (h:M<N):qH N M=1:=by unfold qH; rw [ak ae,au h]
theorem WN (N:Nat):qH N N=0:=by unfold qH; rw [ak ae,ak ae]
theorem rq (N M:Nat):-1<=qH N M/\qH N M<=1:=by unfold qH; (repeat' split)<;>omega
theorem rU (N M:Nat):qH N M<0↔N<M:=by unfold qH; (repeat' split)<;>omega
theorem sJ (w:World) (n:Nat):Below w.heap.size w (w.drewN n):=⟨rfl,rfl,rfl,ar _,fun _ _=>rfl⟩
theorem ue (w:World) (o:Obj):Below w.heap.size w (w.alloc o):=(Below.refl _ _).alloc (ar _) _
theorem nr (w:World) (o o':Obj):Below w.heap.size w ((w.alloc o).alloc o'):=(ue w o).alloc fW _
theorem qI (w:World) (o o' JM:Obj):Below w.heap.size w (((w.alloc o).alloc o').alloc JM):=(nr w o o').alloc (by simp; omega) _
theorem mH {W:World} (h:Below w.heap.size w W) (k:Below W.heap.size W w'):Below w.heap.size w w':=h.trans (k.mono h.size)
theorem kp.store (h:kp w A n c xs) {p:Addr} (hp:∀x,w.cell? p≠some (.int .u32 x)) (u:Value):kp (w.setCell p u) A n c xs:=
 ⟨h.len,h.cap,h.big,h.lt,fun h0=>by
  obtain ⟨b,off,rfl,fh,hc⟩:=h.cells h0
  refine ⟨b,off,I,by simp [World.setCell]; exact fh,fun i hi=>?_⟩
  rw [World.cell?_setCell_other]
  ·exact hc i hi
  ·intro e
   exact hp _ (by rw [e]; exact hc i hi)⟩
theorem kp.od (h:kp w A n c xs) (h0:w.cell? ⟨g,0,none⟩=some (.bool false)) (h1:w.cell? ⟨g,1,none⟩=some bM) (u u':Value):
  kp ((w.setCell ⟨g,0,none⟩ u).setCell ⟨g,1,none⟩ u') A n c xs:=
 (h.store (by rw [h0]; intro x hx; cases hx) u).store (by
  rw [World.cell?_setCell_other]
  ·rw [h1]; intro x hx; cases hx
  ·simp) u'
theorem fE {w1:World} (h:Below w.heap.size w w1) (hg:w.heap.size<=g) (u u':Value):Below w.heap.size w ((w1.setCell ⟨g,0,none⟩ u).setCell ⟨g,1,none⟩ u'):=
 (h.setCell (by exact hg) u).setCell (by exact hg) u'
theorem int_eq {k:IntKind} {a b:Int} (h:a=b):Value.int k a=Value.int k b:=by rw [h]
theorem zV (v:Int) (h:0<=v) (h2:v<18446744073709551616):bits .and .u64 v 1=v%2:=by
 rw [u64_and v 1 h h2 ae ae]
 rw [show (1:Int).toNat=1 from rfl,Nat.and_one_is_mod]
 omega
theorem Bd (x s:Nat) (hx:x<4294967296) (hs:s<=4294967296) (h:x<s):
  bits .and .u64 (IntKind.u64.wrap ((x:Int) - s) / 4294967296) 1=1/\IntKind.u64.wrap ((x:Int) - s)%4294967296=((x+4294967296 - s:Nat):Int):=by
 rw [IntKind.wrap_u64]
 have e:((x:Int) - s)%18446744073709551616=(x:Int) - s+18446744073709551616:=ae
 rw [e,zV _ ae ae]
 omega
theorem DC (x s:Nat) (hx:x<4294967296) (h:¬x<s):
  bits .and .u64 (((x:Int) - s) / 4294967296) 1=0/\((x:Int) - s)=((x - s:Nat):Int):=by
 rw [zV _ ae ae]
 omega
theorem DD {m m' k k':Nat} (h:m=m') (h':k=k'):Ending.returned (.slice A m k)=.returned (.slice A m' k'):=by rw [h,h']
theorem GN (A:Option Addr) (n c:Nat) (xs:List Nat) (w:World) (h:kp w A n c xs):
  Calls prog 108 #[.slice A n c] w fun e w'=>e=.returned (.slice A (tl xs) (tl xs))/\w=w':=by
 have hc:=h.cap
 have hb:=h.big
 unfold maxLen at hb
 go_enter func108,ntmps108
 go_wp2
 go_loop [3] (fun i=>∃m:Nat,m<=n/\i=.int .i64 m/\Hid (∀j,m<=j->j<n->xs.getD j 0=0)) (fun i=>(intOf i).toNat)
 case atStart=>exact ⟨n,ar _,rfl,fun j h1 h2=>ae⟩
 case round=>
  obtain ⟨m,hm,rfl,HZ⟩:=hrel
  rcases m with _ | m
  ·go_wp2
   go_ret
   have e:=aao h.lt 0 ae (fun j h1 h2=>HZ.out j h1 (by rw [<- h.len]; exact h2)) (.inl rfl)
   exact ⟨DD e e,I⟩
  ·obtain ⟨b,off,rfl,rh,mx⟩:=h.cells ae
   have vV:=mx m ae
   generalize hx:xs.getD m 0=x at vV
   have HX:=Lib.hid hx
   by_cases hx:x=0
   ·subst hx
    go_wp2
    go_round
    case rel=>
     refine ⟨m,by omega,rfl,fun j h1 h2=>?_⟩
     rcases Nat.eq_or_lt_of_le h1 with h3 | h3
     ·rw [<- h3]; exact HX.out
     ·exact HZ.out j ae h2
    case measure=>simp [intOf]
   ·have zE:((x:Int)==0)=false:=by simp; omega
    go_wp2
    go_ret
    have e:=aao h.lt (m+1) (by rw [h.len]; omega) (fun j h1 h2=>HZ.out j h1 (by rw [<- h.len]; exact h2)) (.inr (by rw [ic,HX.out]; exact hx))
    exact ⟨DD e e,I⟩
theorem lX (A:Option Addr) (n c N:Nat) (w:World) (h:NumIn w A n c N):
  Calls prog 108 #[.slice A n c] w fun e w'=>e=.returned (.slice A (nl N) (nl N))/\kp w A (nl N) (nl N) (L N)/\w=w':=by
 obtain ⟨xs,hx,rfl⟩:=h
 refine (GN A n c xs w hx).mono ?_
 rintro e w' ⟨rfl,rfl⟩
 have h1:=abS hx.lt
 have h2:=hx.trim
 rw [h1] at h2 ⊢
 exact ⟨I,h2,I⟩
end Go.Proofs.YtgopcdagnicekaaGreatDoor
