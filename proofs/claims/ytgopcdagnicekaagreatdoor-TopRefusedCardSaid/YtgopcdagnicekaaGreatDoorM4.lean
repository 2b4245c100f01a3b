/- The small functions of layer 2. No condition. -/
import Derived.Test.YtgopcdagnicekaaGreatDoorM3
import Derived.Deep.RegionHeld3
set_option linter.all false
open Go.Proofs.Tryz
namespace Go.Proofs.YtgopcdagnicekaaGreatDoor
open Go.RowKit Anv
def neg (z:Int):Bool:=decide (z<0)
def zl (z:Int):Nat:=nl z.natAbs
def iY (w:World) (A:Option Addr) (c:Nat) (z:Int):Prop:=kp w A (zl z) c (L z.natAbs)
def sL (w:World) (v:Value) (z:Int):Prop:=∃A c,v=.agg #[.bool (neg z),.slice A (zl z) c]/\iY w A c z
def sg (b:Bool) (N:Nat):Int:=if b then -(N:Int) else (N:Int)
theorem sM:nl 0=0:=by unfold nl; rw [ud]; rfl
variable {N c n d:Nat} {w w' w1:World} {A B:Option Addr} {z x y:Int} {t t':TypeId} {a0 a1 b0 b1:Value} {b:Bool}
theorem Bg (h:0<N):0<nl N:=by
 unfold nl L; rw [pk ae h]; simp
theorem LU (N:Nat):decide (0<nl N)=decide (0<N):=by
 rcases bu N with h | h
 ·subst h; rw [sM]
 ·have:=Bg h; simp [h,this]
theorem Bh (b:Bool) (N:Nat):(sg b N).natAbs=N:=by unfold sg; split<;>omega
theorem QI (b:Bool) (N:Nat):neg (sg b N)=(b && decide (0<N)):=by
 unfold sg neg; cases b<;>simp<;>omega
theorem DE (b:Bool) (N:Nat):zl (sg b N)=nl N:=by unfold zl; rw [Bh]
theorem iY.num (h:iY w A c z):NumIn w A (zl z) c z.natAbs:=⟨_,h,qG _⟩
theorem iY.below (h:iY w A c z) (hb:Below w.heap.size w w'):iY w' A c z:=kp.below h hb
theorem sL.below {v:Value} (h:sL w v z) (hb:Below w.heap.size w w'):sL w' v z:=by
 obtain ⟨A,c,rfl,hz⟩:=h
 exact ⟨A,c,I,hz.below hb⟩
theorem QJ {W:World} (hb:Below W.heap.size W w1):(∀b o,b<W.heap.size->w1.cell? ⟨b,o,none⟩=W.cell? ⟨b,o,none⟩)/\(∀b o,b<W.heap.size->w1.frozen? ⟨b,o,none⟩=W.frozen? ⟨b,o,none⟩):=
 ⟨fun b o h=>hb.cell h,fun b o h=>hb.frozen h⟩
theorem yr {B:Nat} (h:Below B w.drew w1):Below B w w1:=⟨h.os,h.tape,h.output,h.size,h.block⟩
def jb (t:TypeId) (w:World) (g:Nat) (a b:Value):Prop:=w.heap[g]?=some (.cells #[a,b] t (0,0))
section
variable {t:TypeId} {w w':World} {g:Nat} {a b:Value}
theorem jb.lt (h:jb t w g a b):g<w.heap.size:=by
 rcases aV g w.heap.size with fh | yo
 ·exact fh
 ·unfold jb at h; rw [eF yo] at h; cases h
theorem jb.c0 (h:jb t w g a b):w.cell? ⟨g,0,none⟩=some a:=by rw [cell_of_row w g 0 _ t (0,0) h]; rfl
theorem jb.c1 (h:jb t w g a b):w.cell? ⟨g,1,none⟩=some b:=by rw [cell_of_row w g 1 _ t (0,0) h]; rfl
theorem jb.f (h:jb t w g a b) (i:Nat):w.frozen? ⟨g,i,none⟩=false:=by unfold jb at h; simp [World.frozen?,h]
theorem jb.below {B:Nat} (h:jb t w g a b) (hb:Below B w w') (hg:g<B):jb t w' g a b:=(hb.block g hg).trans h
theorem jb.alloc (h:jb t w g a b) (o:Obj):jb t (w.alloc o) g a b:=(Below.heap_alloc w o g h.lt).trans h
theorem jb.far (h:jb t w g a b) {p:Addr} (hp:g≠p.block) (u:Value):jb t (w.setCell p u) g a b:=(Below.heap_setCell w p u g hp).trans h
theorem jb.pC (h:jb t w g a b) {k:Nat} (hp:g≠k) (u u':Value):jb t ((w.setCell ⟨k,0,none⟩ u).setCell ⟨k,1,none⟩ u') g a b:=(h.far hp u).far hp u'
theorem jb.put (h:jb t w g a b) (u u':Value):jb t ((w.setCell ⟨g,0,none⟩ u).setCell ⟨g,1,none⟩ u') g u u':=by
 unfold jb at h ⊢
 simp [World.setCell,eO,h]
theorem jb.new (w:World) (t:TypeId) (a b:Value):jb t (w.alloc (.cells #[a,b] t)) w.heap.size a b:=heap_alloc_new w _
end
theorem QK (hb:Below ((w.alloc (.cells #[a0,a1] t)).alloc (.cells #[b0,b1] t')).heap.size ((w.alloc (.cells #[a0,a1] t)).alloc (.cells #[b0,b1] t')) w1):
  jb t w1 w.heap.size a0 a1/\jb t' w1 (w.heap.size+1) b0 b1/\Below w.heap.size w w1/\w.heap.size+1<w1.heap.size:=by
 have e1:(w.alloc (.cells #[a0,a1] t)).heap.size=w.heap.size+1:=by simp
 have e2:((w.alloc (.cells #[a0,a1] t)).alloc (.cells #[b0,b1] t')).heap.size=w.heap.size+1+1:=by simp
 have h1:=(jb.new w t a0 a1).alloc (.cells #[b0,b1] t')
 have h2:=jb.new (w.alloc (.cells #[a0,a1] t)) t' b0 b1
 rw [e1] at h2
 refine ⟨h1.below hb ae,h2.below hb ae,mH (nr _ _ _) hb,?_⟩
 have:=hb.size
 omega
theorem aas (w:World) (o o' JM:Obj):(((w.alloc o).alloc o').alloc JM).heap.size=w.heap.size+1+1+1:=by simp
theorem yu {t'':TypeId} {z0 z1:Value} 
 (hb:Below (((w.alloc (.cells #[a0,a1] t)).alloc (.cells #[b0,b1] t')).alloc (.cells #[z0,z1] t'')).heap.size (((w.alloc (.cells #[a0,a1] t)).alloc (.cells #[b0,b1] t')).alloc (.cells #[z0,z1] t'')) w1):
  jb t w1 w.heap.size a0 a1/\jb t' w1 (w.heap.size+1) b0 b1/\jb t'' w1 (w.heap.size+1+1) z0 z1/\Below w.heap.size w w1/\w.heap.size+1+1<w1.heap.size:=by
 have e1:(w.alloc (.cells #[a0,a1] t)).heap.size=w.heap.size+1:=by simp
 have e2:((w.alloc (.cells #[a0,a1] t)).alloc (.cells #[b0,b1] t')).heap.size=w.heap.size+1+1:=by simp
 have e3:(((w.alloc (.cells #[a0,a1] t)).alloc (.cells #[b0,b1] t')).alloc (.cells #[z0,z1] t'')).heap.size=w.heap.size+1+1+1:=by simp
 have h1:=((jb.new w t a0 a1).alloc (.cells #[b0,b1] t')).alloc (.cells #[z0,z1] t'')
 have h2:=(jb.new (w.alloc (.cells #[a0,a1] t)) t' b0 b1).alloc (.cells #[z0,z1] t'')
 have h3:=jb.new ((w.alloc (.cells #[a0,a1] t)).alloc (.cells #[b0,b1] t')) t'' z0 z1
 rw [e1] at h2
 rw [e2] at h3
 refine ⟨h1.below hb ae,h2.below hb ae,h3.below hb ae,mH (qI _ _ _ _) hb,?_⟩
 have:=hb.size
 omega
theorem abX (z:Int):sg (!neg z) z.natAbs=-z:=by
 unfold sg neg; by_cases h:z<0<;>simp [h]<;>omega
theorem QL (z:Int):sg false z.natAbs=(z.natAbs:Int):=rfl
theorem QM (b:Bool) (A:Option Addr) (n c:Nat) (w:World):
  Calls prog 64 #[.bool b,.slice A n c] w fun e w'=>e=.returned (.agg #[.bool (b && decide (0<n)),.slice A n c])/\Below w.heap.size w w':=by
 cases b
 all_goals
  go_enter func64,ntmps64
  go_wp2
 ·exact bodyPost_ret (by simp [results,results64,go_sem]) I ⟨I,(Below.refl _ _).alloc (ar _) _⟩
 ·exact bodyPost_ret (by simp [results,results64,go_sem]) I ⟨I,(Below.refl _ _).alloc (ar _) _⟩
theorem nA (h:kp w A (nl N) c (L N)):
  Calls prog 64 #[.bool b,.slice A (nl N) c] w fun e w'=>e=.returned (.agg #[.bool (neg (sg b N)),.slice A (zl (sg b N)) c])/\iY w' A c (sg b N)/\Below w.heap.size w w':=by
 refine (QM b A (nl N) c w).mono ?_
 rintro e w' ⟨rfl,hb⟩
 refine ⟨?_,?_,hb⟩
 ·rw [QI,DE,LU]
 ·unfold iY; rw [DE,Bh]; exact h.below hb
theorem wv:
  Calls prog 60 #[.agg #[.bool (neg z),.slice A (zl z) c]] w fun e w'=>e=.returned (.int .i64 z.sign)/\Below w.heap.size w w':=by
 rcases kj z 0 with h | h | h
 ·have h1:neg z=true:=by unfold neg; simp [h]
  have h2:0<zl z:=Bg ae
  have h3:((zl z:Int)==0)=false:=by simp; omega
  have h4:z.sign=-1:=Int.sign_eq_neg_one_of_neg h
  rw [h1,h4]
  go_enter func60,ntmps60
  go_wp2
  go_ret
  exact ⟨I,(Below.refl _ _).alloc (ar _) _⟩
 ·subst h
  have h1:neg 0=false:=by unfold neg; simp
  have h2:zl 0=0:=sM
  rw [h1,h2]
  go_enter func60,ntmps60
  go_wp2
  go_ret
  exact ⟨I,(Below.refl _ _).alloc (ar _) _⟩
 ·have h1:neg z=false:=by unfold neg; simp; omega
  have h2:0<zl z:=Bg ae
  have h3:((zl z:Int)==0)=false:=by simp; omega
  have h4:z.sign=1:=Int.sign_eq_one_of_pos h
  rw [h1,h4]
  go_enter func60,ntmps60
  go_wp2
  go_ret
  exact ⟨I,(Below.refl _ _).alloc (ar _) _⟩
theorem QN (h:iY w A c z):
  Calls prog 62 #[.agg #[.bool (neg z),.slice A (zl z) c]] w fun e w'=>∃v,e=.returned v/\sL w' v (-z)/\Below w.heap.size w w':=by
 go_enter func62,ntmps62
 go_wp2_with fail
 refine (nA (h.below (nr _ _ _))).mono ?_
 rintro e w1 ⟨rfl,hz,hb⟩
 rw [abX] at hz ⊢
 have HZ:=Lib.hid hz
 obtain ⟨hc,hf⟩:=QJ hb
 have hs:w.heap.size+1<w1.heap.size:=by have:=hb.size; simp at this; omega
 go_wp2
 exact bodyPost_ret (by simp [results,results62,go_sem,hc]) I
  ⟨_,rfl,⟨_,_,rfl,kp.od HZ.out (by simp [hc]) (by simp [hc]) _ _⟩,fE (mH (nr _ _ _) hb) ae _ _⟩
theorem ahb (h:iY w A c z):
  Calls prog 59 #[.agg #[.bool (neg z),.slice A (zl z) c]] w fun e w'=>∃v,e=.returned v/\sL w' v (z.natAbs:Int)/\Below w.heap.size w w':=by
 go_enter func59,ntmps59
 go_wp2_with fail
 refine (nA (h.below (nr _ _ _))).mono ?_
 rintro e w1 ⟨rfl,hz,hb⟩
 rw [QL] at hz ⊢
 have HZ:=Lib.hid hz
 obtain ⟨hc,hf⟩:=QJ hb
 have hs:w.heap.size+1<w1.heap.size:=by have:=hb.size; simp at this; omega
 go_wp2
 exact bodyPost_ret (by simp [results,results59,go_sem,hc]) I
  ⟨_,rfl,⟨_,_,rfl,kp.od HZ.out (by simp [hc]) (by simp [hc]) _ _⟩,fE (mH (nr _ _ _) hb) ae _ _⟩
theorem QO (h:NumIn w A n c N) (hN:nl N<=1000000):
  Calls prog 37 #[.bool b,.slice A n c] w fun e w'=>∃v,e=.returned v/\sL w' v (sg b N)/\Below w.heap.size w w':=by
 go_enter func37,ntmps37
 go_wp2_with fail
 refine (Bf (h.below (ue _ _)) hN).mono ?_
 rintro e w1 ⟨v,rfl,⟨A1,c1,rfl,hU,WX⟩,hb⟩
 go_wp2_with fail
 refine (nA hU).mono ?_
 rintro e w2 ⟨rfl,hz,kY⟩
 have HZ:=Lib.hid hz
 have ru:=mH hb kY
 obtain ⟨hc,hf⟩:=QJ ru
 have hs:w.heap.size<w2.heap.size:=by have:=ru.size; simp at this; omega
 go_wp2
 exact bodyPost_ret (by simp [results,results37,go_sem,hc]) I
  ⟨_,rfl,⟨_,_,rfl,kp.od HZ.out (by simp [hc]) (by simp [hc]) _ _⟩,fE (mH (ue _ _) ru) ae _ _⟩
theorem yv (x y:Int):sg (!neg x==neg y) (x.natAbs*y.natAbs)=x*y:=by
 unfold sg neg
 rw [eX]
 rcases Int.lt_or_le x 0 with h1 | h1<;>rcases Int.lt_or_le y 0 with h2 | h2
 ·rw [show (x.natAbs:Int)=-x from ae,show (y.natAbs:Int)=-y from ae]; simp [h1,h2,Int.neg_mul_neg]
 ·rw [show (x.natAbs:Int)=-x from ae,show (y.natAbs:Int)=y from ae]; simp [h1,show ¬y<0 from ae,iP]
 ·rw [show (x.natAbs:Int)=x from ae,show (y.natAbs:Int)=-y from ae]; simp [h2,show ¬x<0 from ae,jF]
 ·rw [show (x.natAbs:Int)=x from ae,show (y.natAbs:Int)=y from ae]; simp [show ¬y<0 from ae,show ¬x<0 from ae]
theorem Ew (x y:Int) (h:neg x=neg y):sg (neg x) (x.natAbs+y.natAbs)=x+y:=by
 unfold sg
 unfold neg at h ⊢
 rw [gW] at h
 by_cases h1:x<0
 ·have h2:=h.1 h1
  simp [h1]; omega
 ·have h2:¬y<0:=fun h3=>h1 (h.2 h3)
  simp [h1]; omega
theorem QP (x y:Int) (h:neg x≠neg y) (hle:y.natAbs<=x.natAbs):sg (neg x) (x.natAbs - y.natAbs)=x+y:=by
 unfold sg
 unfold neg at h ⊢
 rw [Ne,gW] at h
 by_cases h1:x<0
 ·have h2:¬y<0:=fun h3=>h ⟨fun _=>h3,fun _=>h1⟩
  simp [h1]; omega
 ·have h2:y<0:=by
   rcases Int.lt_or_le y 0 with h3 | h3
   ·exact h3
   ·exact absurd ⟨fun h4=>absurd h4 h1,fun h4=>ae⟩ h
  simp [h1]; omega
theorem LV (hx:iY w A c x) (hy:iY w B d y) (hn:zl x<=1000000) (hm:zl y<=1000000):
  Calls prog 97 #[.agg #[.bool (neg x),.slice A (zl x) c],.agg #[.bool (neg y),.slice B (zl y) d]] w fun e w'=>∃v,e=.returned v/\sL w' v (x*y)/\Below w.heap.size w w':=by
 go_enter func97,ntmps97
 go_wp2_with fail
 go_region_held3 (fun w'=>w'.cell? ⟨w.heap.size,0,none⟩=some (.bool (neg x))/\w'.cell? ⟨w.heap.size,1,none⟩=some (.slice A (zl x) c)/\w'.cell? ⟨w.heap.size+1,0,none⟩=some (.bool (neg y))/\w'.cell? ⟨w.heap.size+1,1,none⟩=some (.slice B (zl y) d)) (first | exact ⟨q0.c0,q0.c1,q1.c0,q1.c1⟩ | exact ⟨r0.c0,r0.c1,r1.c0,r1.c1⟩ | exact ⟨(r0.pC ae _ _).c0,(r0.pC ae _ _).c1,(r1.pC ae _ _).c0,(r1.pC ae _ _).c1⟩ | go_keep)
  (first | (go_at_call 146; refine (WW (NumIn.below (iY.num hx) (by exact (qI _ _ _ _).drew)) (NumIn.below (iY.num hy) (by exact (qI _ _ _ _).drew)) hn hm).mono ?_; rintro e w1 ⟨v,rfl,⟨A1,c1,rfl,hU,WX⟩,hb⟩; clear WX; obtain ⟨q0,q1,q2,rh,hs⟩:=yu (yr hb)) | (go_at_call 64; refine (nA hU).mono ?_; rintro e w2 ⟨rfl,hz,kY⟩; have r0:=q0.below kY q0.lt; have r1:=q1.below kY q1.lt; have r2:=q2.below kY q2.lt; have vK:=r2.c0; have vW:=r2.c1; have JN:=r2.f 0; have Qd:=r2.f 1; have Qe:w.heap.size+1+1<w2.heap.size:=by have:=kY.size; omega))
 go_wp2
 have e:=yv x y
 rw [e] at hz ⊢
 exact bodyPost_ret (by simp [results,results97,go_sem,vK,vW]) I
  ⟨_,rfl,⟨_,_,rfl,kp.od hz vK vW _ _⟩,fE (mH rh kY) ae _ _⟩
theorem add_same (hx:iY w A c x) (hy:iY w B d y) (hn:zl x<=1000000) (hm:zl y<=1000000) (bx:Bool) (HE:Hid (sg bx (x.natAbs+y.natAbs)=x+y)):
  Calls prog 63 #[.agg #[.bool bx,.slice A (zl x) c],.agg #[.bool bx,.slice B (zl y) d]] w fun e w'=>∃v,e=.returned v/\sL w' v (x+y)/\Below w.heap.size w w':=by
 go_enter func63,ntmps63
 go_wp2_with fail
 go_region_held3 (fun w'=>w'.cell? ⟨w.heap.size,0,none⟩=some (.bool bx)/\w'.cell? ⟨w.heap.size,1,none⟩=some (.slice A (zl x) c)/\w'.cell? ⟨w.heap.size+1,0,none⟩=some (.bool bx)/\w'.cell? ⟨w.heap.size+1,1,none⟩=some (.slice B (zl y) d)) (first | exact ⟨q0.c0,q0.c1,q1.c0,q1.c1⟩ | exact ⟨r0.c0,r0.c1,r1.c0,r1.c1⟩ | exact ⟨(r0.pC ae _ _).c0,(r0.pC ae _ _).c1,(r1.pC ae _ _).c0,(r1.pC ae _ _).c1⟩ | go_keep)
  (first | (go_at_call 105; refine (WT (NumIn.below (iY.num hx) (by exact (qI _ _ _ _).drew)) (NumIn.below (iY.num hy) (by exact (qI _ _ _ _).drew)) hn hm).mono ?_; rintro e w1 ⟨v,rfl,⟨A1,c1,rfl,hU,WX⟩,hb⟩; clear WX; obtain ⟨q0,q1,q2,rh,hs⟩:=yu (yr hb)) | (go_at_call 64; refine (nA hU).mono ?_; rintro e w2 ⟨rfl,hz,kY⟩; have r0:=q0.below kY q0.lt; have r1:=q1.below kY q1.lt; have r2:=q2.below kY q2.lt; have vK:=r2.c0; have vW:=r2.c1; have JN:=r2.f 0; have Qd:=r2.f 1; have Qe:w.heap.size+1+1<w2.heap.size:=by have:=kY.size; omega))
 go_wp2
 rw [HE.out] at hz ⊢
 exact bodyPost_ret (by simp [results,results63,go_sem,vK,vW]) I ⟨_,I,⟨_,_,I,kp.od hz vK vW _ _⟩,fE (mH rh kY) ae _ _⟩
theorem add_lt (hx:iY w A c x) (hy:iY w B d y) (hm:zl y<=1000000) (bx:Bool) (HE:Hid (sg (!bx) (y.natAbs - x.natAbs)=x+y)) (fh:x.natAbs<y.natAbs):
  Calls prog 63 #[.agg #[.bool bx,.slice A (zl x) c],.agg #[.bool !bx,.slice B (zl y) d]] w fun e w'=>∃v,e=.returned v/\sL w' v (x+y)/\Below w.heap.size w w':=by
 have GR:qH x.natAbs y.natAbs<0:=(rU x.natAbs y.natAbs).2 fh
 have QQ:=rq x.natAbs y.natAbs
 have ht:(bx==!bx)=false:=by cases bx<;>rfl
 go_enter func63,ntmps63
 go_wp2_with fail
 refine (qK (NumIn.below (iY.num hx) (by exact (qI _ _ _ _))) (NumIn.below (iY.num hy) (by exact (qI _ _ _ _)))).mono ?_
 rintro e w1 ⟨rfl,hb⟩
 obtain ⟨q0,q1,q2,rh,hs⟩:=yu hb
 have a0:=q0.c0
 have a1:=q0.c1
 have a2:=q1.c0
 have a3:=q1.c1
 have a4:=q0.f 0
 have a5:=q0.f 1
 have a6:=q1.f 0
 have a7:=q1.f 1
 go_wp2_with fail
 have p0:=(q0.put (.bool !bx) (.slice B (zl y) d)).pC (k:=w.heap.size+1) ae (.bool bx) (.slice A (zl x) c)
 have p2:=(q2.pC (k:=w.heap.size) ae (.bool !bx) (.slice B (zl y) d)).pC (k:=w.heap.size+1) ae (.bool bx) (.slice A (zl x) c)
 have hbW:=fE (fE rh (ar _) (.bool !bx) (.slice B (zl y) d)) (eK _) (.bool bx) (.slice A (zl x) c)
 refine (LS (NumIn.below (iY.num hy) (by exact hbW)) (NumIn.below (iY.num hx) (by exact hbW)) hm (Nat.le_of_lt fh)).mono ?_
 rintro e w2 ⟨v,rfl,⟨A1,c1,rfl,hU,WX⟩,kY⟩
 have p2:=p2.below kY p2.lt
 have p0:=p0.below kY p0.lt
 have vK:=p0.c0
 have vW:=p0.c1
 have JO:=p2.c0
 have LW:=p2.c1
 have JN:=p2.f 0
 have Qd:=p2.f 1
 have Qe:w.heap.size+1+1<w2.heap.size:=p2.lt
 go_wp2_with fail
 refine (nA hU).mono ?_
 rintro e w3 ⟨rfl,hz,xk⟩
 rw [HE.out] at hz ⊢
 have p3:=p2.below xk p2.lt
 have JO:=p3.c0
 have LW:=p3.c1
 have JN:=p3.f 0
 have Qd:=p3.f 1
 have hs3:w.heap.size+1+1<w3.heap.size:=p3.lt
 go_wp2
 exact bodyPost_ret (v:=.agg #[.bool (neg (x+y)),.slice A1 (zl (x+y)) c1]) (by simp [results,results63,go_sem,JO,LW]) I ⟨_,I,⟨_,_,I,kp.od hz JO LW _ _⟩,fE (mH (mH hbW kY) xk) ae _ _⟩
theorem abZ (hx:iY w A c x) (hy:iY w B d y) (hn:zl x<=1000000) (bx:Bool) (HE:Hid (sg bx (x.natAbs - y.natAbs)=x+y)) (fh:¬x.natAbs<y.natAbs):
  Calls prog 63 #[.agg #[.bool bx,.slice A (zl x) c],.agg #[.bool !bx,.slice B (zl y) d]] w fun e w'=>∃v,e=.returned v/\sL w' v (x+y)/\Below w.heap.size w w':=by
 have GR:¬qH x.natAbs y.natAbs<0:=fun h=>fh ((rU x.natAbs y.natAbs).1 h)
 have QQ:=rq x.natAbs y.natAbs
 have ht:(bx==!bx)=false:=by cases bx<;>rfl
 go_enter func63,ntmps63
 go_wp2_with fail
 refine (qK (NumIn.below (iY.num hx) (by exact (qI _ _ _ _))) (NumIn.below (iY.num hy) (by exact (qI _ _ _ _)))).mono ?_
 rintro e w1 ⟨rfl,hb⟩
 obtain ⟨q0,q1,q2,rh,hs⟩:=yu hb
 have a0:=q0.c0
 have a1:=q0.c1
 have a2:=q1.c0
 have a3:=q1.c1
 have a4:=q0.f 0
 have a5:=q0.f 1
 have a6:=q1.f 0
 have a7:=q1.f 1
 go_wp2_with fail
 have p0:=q0
 have p2:=q2
 have hbW:=rh
 refine (LS (NumIn.below (iY.num hx) (by exact hbW)) (NumIn.below (iY.num hy) (by exact hbW)) hn ae).mono ?_
 rintro e w2 ⟨v,rfl,⟨A1,c1,rfl,hU,WX⟩,kY⟩
 have p2:=p2.below kY p2.lt
 have p0:=p0.below kY p0.lt
 have vK:=p0.c0
 have vW:=p0.c1
 have JO:=p2.c0
 have LW:=p2.c1
 have JN:=p2.f 0
 have Qd:=p2.f 1
 have Qe:w.heap.size+1+1<w2.heap.size:=p2.lt
 go_wp2_with fail
 refine (nA hU).mono ?_
 rintro e w3 ⟨rfl,hz,xk⟩
 rw [HE.out] at hz ⊢
 have p3:=p2.below xk p2.lt
 have JO:=p3.c0
 have LW:=p3.c1
 have JN:=p3.f 0
 have Qd:=p3.f 1
 have hs3:w.heap.size+1+1<w3.heap.size:=p3.lt
 go_wp2
 exact bodyPost_ret (by simp [results,results63,go_sem,JO,LW]) I ⟨_,I,⟨_,_,I,kp.od hz JO LW _ _⟩,fE (mH (mH hbW kY) xk) ae _ _⟩
theorem DF (hx:iY w A c x) (hy:iY w B d y) (hn:zl x<=1000000) (hm:zl y<=1000000):
  Calls prog 63 #[.agg #[.bool (neg x),.slice A (zl x) c],.agg #[.bool (neg y),.slice B (zl y) d]] w fun e w'=>∃v,e=.returned v/\sL w' v (x+y)/\Below w.heap.size w w':=by
 by_cases h:neg x=neg y
 ·rw [<- h]
  exact add_same hx hy hn hm (neg x) (Ew x y h)
 ·have h2:neg y=!neg x:=by cases h3:neg x<;>cases h4:neg y<;>simp_all
  rw [h2]
  by_cases fh:x.natAbs<y.natAbs
  ·refine add_lt hx hy hm (neg x) ?_ fh
   rw [<- h2,QP y x (fun h3=>h h3.symm) ae,Int.add_comm]
   exact I
  ·exact abZ hx hy hn (neg x) (QP x y h ae) fh
theorem Rq (x y:Nat) (hx:x<4294967296) (hy:y<4294967296):bits .or .u64 (x:Int) ((y:Int)*4294967296)=((x+4294967296*y:Nat):Int):=by
 have h:=u64_or_nat x (y*4294967296) ae ae
 rw [eX] at h
 rw [show ((4294967296:Nat):Int)=4294967296 from rfl] at h
 rw [h]
 have:=Q7 32 y x ae
 rw [show (2:Nat) ^ 32=4294967296 from rfl] at this
 rw [this,cO]
theorem G3 (N d:Nat):((L N).drop d).length=nl N - d:=by rw [dp]; rfl
theorem JZ (N d:Nat):val 4294967296 ((L N).drop d)=N / 4294967296 ^ d:=by
 have h1:val 4294967296 (L N)=val 4294967296 ((L N).take d)+4294967296 ^ ((L N).take d).length*val 4294967296 ((L N).drop d):=by
  conv=>lhs; rw [<- dU d (L N)]
  rw [jJ]
 rw [qG] at h1
 have h2:=oQ ((zC N).take d)
 rcases aV (L N).length d with h | h
 ·rw [bo ae]
  have h3:=oQ (zC N)
  rw [qG] at h3
  have h4:(4294967296:Nat) ^ (L N).length<=4294967296 ^ d:=bS ae ae
  rw [fv ae]; rfl
 ·rw [bJ,cW h] at h1 h2
  conv=>rhs; rw [h1]
  rw [jw _ _ (eL ae),fv h2,bD]
theorem L4 {s:Nat} (h:NumIn w A n c N) (hn:nl N<=1000000) (hs:s<=9223372036854775807):
  Calls prog 155 #[.slice A n c,.int .i64 s] w fun e w'=>∃v,e=.returned (.tuple #[v,.int .i64 0])/\n8 w.heap.size w' v (N / 2 ^ s)/\Below w.heap.size w w':=by
 obtain ⟨d,hd⟩:∃d,d=s / 32:=⟨_,rfl⟩
 obtain ⟨r,hr⟩:∃r,r=s%32:=⟨_,rfl⟩
 have LW:(s:Int) / 32=d:=ae
 have hr1:(s:Int)%32=r:=ae
 have Jz:r<32:=ae
 have HP:=Lib.hid (show N / 2 ^ s=N / 4294967296 ^ d / 2 ^ r by rw [j1,show (4294967296:Nat)=2 ^ 32 from rfl,<- Nat.pow_mul,<- eh]; congr 2; omega)
 clear hd hr
 go_enter func155,ntmps155
 go_wp2_with fail
 refine (lX _ _ _ _ _ h).mono ?_
 rintro e w' ⟨rfl,hU,rfl⟩
 clear h
 by_cases hdl:nl N<=d
 ·have H0:=Lib.hid (show N / 2 ^ s=0 by
   rw [HP.out,fv (a:=N),Nat.zero_div]
   exact cl (wq ae N) (bS ae hdl))
  clear hU
  go_wp2
  go_ret2
  refine ⟨_,I,⟨none,0,?_,?_,fun a ha=>by cases ha⟩,Below.refl _ _⟩
  ·rw [H0.out,ud]; rfl
  ·rw [H0.out,ud]
   exact ⟨I,ar _,by simp [maxLen],dZ.nil _,fun hp=>by simp at hp⟩
 ·obtain ⟨b,off,rfl,rh,mx⟩:=hU.cells ae
  have HC:=Lib.hid mx
  have OG:=hU.big
  unfold maxLen at OG
  clear mx hU
  go_wp2_with (at_make; refine jR _ rfl _ _ 50 rfl 98 .u32 4 underlying50 oe _ _ _ _ (nl N - d) rfl rfl ae ae ae ae ?_; intro w1 Be De po)
  have HA:=Lib.hid Be
  have HB:=Lib.hid De
  clear Be De po
  obtain ⟨m,hm⟩:∃m,m=nl N - d:=⟨_,rfl⟩
  rw [<- hm] at HA ⊢
  have HM:=Lib.hid hm
  have hyl:=G3 N d
  have HY:=Lib.hid (And.intro ((zC N).drop d) (And.intro (JZ N d) (show ((L N).drop d).length=m by rw [hyl,hm])))
  have HG:=Lib.hid (fun i=>show ((L N).drop d).getD i 0=(L N).getD (d+i) 0 by simp [List.getD])
  have hmb:m<9223372036854775808/\m<=1000000:=ae
  clear hm hyl
  generalize (L N).drop d=ys at*
  go_loopw [31] (fun i wr=>∃(k:Nat) (os:List Nat),k<=m/\i=.int .i64 k/\
    Hid (os.length=m/\dZ 4294967296 os/\val 4294967296 (os.take k)+4294967296 ^ k*(val 4294967296 (ys.drop k) / 2 ^ r)=val 4294967296 ys / 2 ^ r)/\
    Hid (sD .u32 98 wr w.heap.size os)/\Hid (Below w.heap.size w wr)) (fun i _=>m - (intOf i).toNat)
  case atStart=>exact ⟨0,_,av _,rfl,⟨by simp,dZ.AZ ae _,by simp⟩,HA.out,HB.out⟩
  case round=>
   obtain ⟨k,os,hk,rfl,HI,HR,HW⟩:=hrel
   by_cases fh:k<m
   ·have Qb:wr.cell? ⟨b,off+d+k,none⟩=some (.int .u32 ((ys.getD k 0:Nat):Int)):=by
     rw [HG.out,HW.out.cell rh,eu]
     exact HC.out (d+k) (by have:=HM.out; omega)
    have Qc:=HR.out.cell k (by rw [HI.out.1]; omega)
    have ri:=HY.out.1.get ae k
    have hfo:=HR.out.frozen k
    have σ:=fun T h=>Ra 4294967296 (2 ^ r) (2 ^ (32 - r)) (by rw [<- eh,show r+(32 - r)=32 by omega]) (fq r) ae ys os k T (by rw [HI.out.1]; exact fh) ri h
    have Bv:=σ _ HI.out.2.2
    have HS:=Lib.hid Bv
    have zF:=HY.out.1.get ae (k+1)
    clear σ Bv
    by_cases zH:k+1<m
    ·have V':wr.cell? ⟨b,off+d+(k+1),none⟩=some (.int .u32 ((ys.getD (k+1) 0:Nat):Int)):=by
      rw [HG.out,HW.out.cell rh,eu]
      exact HC.out (d+(k+1)) (by have:=HM.out; omega)
     generalize ys.getD k 0=x at*
     generalize ys.getD (k+1) 0=y at*
     have HH:=Lib.hid (show bits .or .u64 (x:Int) ((y:Int)*4294967296) / 2 ^ r%4294967296=(((x+4294967296*y) / 2 ^ r%4294967296:Nat):Int) by
      rw [Rq x y ri zF,Int.natCast_emod,Int.natCast_ediv,Int.natCast_pow]; rfl)
     go_wp2
     go_roundw
     case rel=>
      have h3:=HI.out
      exact ⟨k+1,_,by omega,by go_num,⟨by rw [aP]; exact h3.1,h3.2.1.set k (dF _ ae),HS.out⟩,HR.out.tJ k _ _ HH.out,HW.out.setCell (ar _) _⟩
     case measure=>simp [intOf]; omega
    ·have hy0:ys.getD (k+1) 0=0:=qj (by rw [HY.out.2.2]; omega)
     rw [hy0,iU,dr] at HS
     clear hy0 zF
     generalize ys.getD k 0=x at*
     have HH:=Lib.hid (show (x:Int) / 2 ^ r%4294967296=((x / 2 ^ r%4294967296:Nat):Int) by
      rw [Int.natCast_emod,Int.natCast_ediv,Int.natCast_pow]; rfl)
     go_wp2
     go_roundw
     case rel=>
      have h3:=HI.out
      exact ⟨k+1,_,by omega,by go_num,⟨by rw [aP]; exact h3.1,h3.2.1.set k (dF _ ae),HS.out⟩,HR.out.tJ k _ _ HH.out,HW.out.setCell (ar _) _⟩
     case measure=>simp [intOf]; omega
   ·go_wp2_with fail
    have h3:=HI.out
    obtain rfl:k=m:=ae
    have hU:=HR.out.u32 h3.2.1 h3.1 (by simp only [maxLen]; omega)
    have hv:val 4294967296 os=N / 2 ^ s:=by
     have h4:=h3.2.2
     rw [ax (by omega),bo (by rw [HY.out.2.2]; exact ar _),HY.out.2.1,<- HP.out] at h4
     simpa using h4
    have hN:NumIn wr (cS w.heap.size) k k (N / 2 ^ s):=⟨os,hU,hv⟩
    refine (lX _ _ _ _ _ hN).mono ?_
    rintro e w' ⟨rfl,hT,rfl⟩
    have HT:=Lib.hid hT
    clear hT hv hU h3 hN
    go_wp2
    go_ret2
    exact ⟨_,I,⟨_,_,I,HT.out,fun a ha=>by cases ha; exact ar _⟩,HW.out⟩
end Go.Proofs.YtgopcdagnicekaaGreatDoor
