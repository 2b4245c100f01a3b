/- The small functions of layer 2. No condition. -/
import Derived.Test.YtgopcdagnicekaaGreatDoorM1
import Derived.Test.YtgopcdagnicekaaGreatDoorM3
import Derived.Deep.RegionHeld3

set_option linter.unusedVariables false
set_option linter.unusedSimpArgs false
set_option linter.all false
namespace Go.Proofs.YtgopcdagnicekaaGreatDoor
open Go.RowKit Anv
def neg (z:Int):Bool:=decide (z<0)
def zl (z:Int):Nat:=nl z.natAbs
def dK (w:World) (A:Option Addr) (c:Nat) (z:Int):Prop:=eT w A (zl z) c (L z.natAbs)
def pj (w:World) (v:Value) (z:Int):Prop:=∃A c,v=.agg #[.bool (neg z),.slice A (zl z) c]/\dK w A c z
def sg (b:Bool) (N:Nat):Int:=if b then -(N:Int) else (N:Int)
theorem pk:nl 0=0:=by unfold nl; rw [qT]; rfl
theorem yS {N:Nat} (h:0<N):0<nl N:=by
 unfold nl L; rw [ly ae h]; simp
theorem J' (N:Nat):decide (0<nl N)=decide (0<N):=by
 rcases ed N with h | h
 ·subst h; rw [pk]
 ·have:=yS h; simp [h,this]
theorem yT (b:Bool) (N:Nat):(sg b N).natAbs=N:=by unfold sg; split<;>omega
theorem OR (b:Bool) (N:Nat):neg (sg b N)=(b && decide (0<N)):=by
 unfold sg neg; cases b<;>simp<;>omega
theorem BQ (b:Bool) (N:Nat):zl (sg b N)=nl N:=by unfold zl; rw [yT]
theorem dK.num {w:World} {A:Option Addr} {c:Nat} {z:Int} (h:dK w A c z):cM w A (zl z) c z.natAbs:=⟨_,h,mT _⟩
theorem dK.below {w w':World} {A:Option Addr} {c:Nat} {z:Int} (h:dK w A c z) (hb:Below w.heap.size w w'):dK w' A c z:=eT.below h hb
theorem pj.below {w w':World} {v:Value} {z:Int} (h:pj w v z) (hb:Below w.heap.size w w'):pj w' v z:=by
 obtain ⟨A,c,rfl,hz⟩:=h
 exact ⟨A,c,rfl,hz.below hb⟩
theorem OS {W w1:World} (hb:Below W.heap.size W w1):(∀b o,b<W.heap.size->w1.cell? ⟨b,o,none⟩=W.cell? ⟨b,o,none⟩)/\(∀b o,b<W.heap.size->w1.frozen? ⟨b,o,none⟩=W.frozen? ⟨b,o,none⟩):=
 ⟨fun b o h=>hb.cell h,fun b o h=>hb.frozen h⟩
theorem vL {B:Nat} {w w1:World} (h:Below B w.drew w1):Below B w w1:=⟨h.os,h.tape,h.output,h.size,h.block⟩
def dO (t:TypeId) (w:World) (g:Nat) (a b:Value):Prop:=w.heap[g]?=some (.cells #[a,b] t (0,0))
section
variable {t:TypeId} {w w':World} {g:Nat} {a b:Value}
theorem dO.lt (h:dO t w g a b):g<w.heap.size:=by
 rcases dr g w.heap.size with cD | vG
 ·exact cD
 ·unfold dO at h; rw [mQ vG] at h; cases h
theorem dO.c0 (h:dO t w g a b):w.cell? ⟨g,0,none⟩=some a:=by rw [cell_of_row w g 0 _ t (0,0) h]; rfl
theorem dO.c1 (h:dO t w g a b):w.cell? ⟨g,1,none⟩=some b:=by rw [cell_of_row w g 1 _ t (0,0) h]; rfl
theorem dO.f (h:dO t w g a b) (i:Nat):w.frozen? ⟨g,i,none⟩=false:=by unfold dO at h; simp [World.frozen?,h]
theorem dO.below {B:Nat} (h:dO t w g a b) (hb:Below B w w') (hg:g<B):dO t w' g a b:=(hb.block g hg).trans h
theorem dO.alloc (h:dO t w g a b) (o:Obj):dO t (w.alloc o) g a b:=(Below.heap_alloc w o g h.lt).trans h
theorem dO.far (h:dO t w g a b) {p:Addr} (hp:g≠p.block) (u:Value):dO t (w.setCell p u) g a b:=(Below.heap_setCell w p u g hp).trans h
theorem dO.lJ (h:dO t w g a b) {k:Nat} (hp:g≠k) (u u':Value):dO t ((w.setCell ⟨k,0,none⟩ u).setCell ⟨k,1,none⟩ u') g a b:=(h.far hp u).far hp u'
theorem dO.put (h:dO t w g a b) (u u':Value):dO t ((w.setCell ⟨g,0,none⟩ u).setCell ⟨g,1,none⟩ u') g u u':=by
 unfold dO at h ⊢
 simp [World.setCell,sK,h]
theorem dO.new (w:World) (t:TypeId) (a b:Value):dO t (w.alloc (.cells #[a,b] t)) w.heap.size a b:=heap_alloc_new w _
end
theorem OT {t t':TypeId} {w w1:World} {a0 a1 b0 b1:Value} (hb:Below ((w.alloc (.cells #[a0,a1] t)).alloc (.cells #[b0,b1] t')).heap.size ((w.alloc (.cells #[a0,a1] t)).alloc (.cells #[b0,b1] t')) w1):
  dO t w1 w.heap.size a0 a1/\dO t' w1 (w.heap.size+1) b0 b1/\Below w.heap.size w w1/\w.heap.size+1<w1.heap.size:=by
 have e1:(w.alloc (.cells #[a0,a1] t)).heap.size=w.heap.size+1:=by simp
 have e2:((w.alloc (.cells #[a0,a1] t)).alloc (.cells #[b0,b1] t')).heap.size=w.heap.size+1+1:=by simp
 have h1:=(dO.new w t a0 a1).alloc (.cells #[b0,b1] t')
 have h2:=dO.new (w.alloc (.cells #[a0,a1] t)) t' b0 b1
 rw [e1] at h2
 refine ⟨h1.below hb ae,h2.below hb ae,ja (jK _ _ _) hb,?_⟩
 have:=hb.size
 omega
theorem Yt (w:World) (o o' H8:Obj):(((w.alloc o).alloc o').alloc H8).heap.size=w.heap.size+1+1+1:=by simp
theorem vM {t t' t'':TypeId} {w w1:World} {a0 a1 b0 b1 z0 z1:Value}
  (hb:Below (((w.alloc (.cells #[a0,a1] t)).alloc (.cells #[b0,b1] t')).alloc (.cells #[z0,z1] t'')).heap.size (((w.alloc (.cells #[a0,a1] t)).alloc (.cells #[b0,b1] t')).alloc (.cells #[z0,z1] t'')) w1):
  dO t w1 w.heap.size a0 a1/\dO t' w1 (w.heap.size+1) b0 b1/\dO t'' w1 (w.heap.size+1+1) z0 z1/\Below w.heap.size w w1/\w.heap.size+1+1<w1.heap.size:=by
 have e1:(w.alloc (.cells #[a0,a1] t)).heap.size=w.heap.size+1:=by simp
 have e2:((w.alloc (.cells #[a0,a1] t)).alloc (.cells #[b0,b1] t')).heap.size=w.heap.size+1+1:=by simp
 have e3:(((w.alloc (.cells #[a0,a1] t)).alloc (.cells #[b0,b1] t')).alloc (.cells #[z0,z1] t'')).heap.size=w.heap.size+1+1+1:=by simp
 have h1:=((dO.new w t a0 a1).alloc (.cells #[b0,b1] t')).alloc (.cells #[z0,z1] t'')
 have h2:=(dO.new (w.alloc (.cells #[a0,a1] t)) t' b0 b1).alloc (.cells #[z0,z1] t'')
 have h3:=dO.new ((w.alloc (.cells #[a0,a1] t)).alloc (.cells #[b0,b1] t')) t'' z0 z1
 rw [e1] at h2
 rw [e2] at h3
 refine ⟨h1.below hb ae,h2.below hb ae,h3.below hb ae,ja (mV _ _ _ _) hb,?_⟩
 have:=hb.size
 omega
theorem ZU (z:Int):sg (!neg z) z.natAbs=-z:=by
 unfold sg neg; by_cases h:z<0<;>simp [h]<;>omega
theorem OU (z:Int):sg false z.natAbs=(z.natAbs:Int):=rfl
theorem OV (b:Bool) (A:Option Addr) (n c:Nat) (w:World):
  Calls Tryz.prog 64 #[.bool b,.slice A n c] w fun e w'=>e=.returned (.agg #[.bool (b && decide (0<n)),.slice A n c])/\Below w.heap.size w w':=by
 cases b
 all_goals
  go_enter Tryz.func64,Tryz.ntmps64
  go_wp2
 ·exact bodyPost_ret (by simp [results,Tryz.results64,go_sem]) rfl ⟨rfl,(Below.refl _ _).alloc (aY _) _⟩
 ·exact bodyPost_ret (by simp [results,Tryz.results64,go_sem]) rfl ⟨rfl,(Below.refl _ _).alloc (aY _) _⟩
theorem jT {b:Bool} {A:Option Addr} {c N:Nat} {w:World} (h:eT w A (nl N) c (L N)):
  Calls Tryz.prog 64 #[.bool b,.slice A (nl N) c] w fun e w'=>e=.returned (.agg #[.bool (neg (sg b N)),.slice A (zl (sg b N)) c])/\dK w' A c (sg b N)/\Below w.heap.size w w':=by
 refine (OV b A (nl N) c w).mono ?_
 rintro e w' ⟨rfl,hb⟩
 refine ⟨?_,?_,hb⟩
 ·rw [OR,BQ,J']
 ·unfold dK; rw [BQ,yT]; exact h.below hb
theorem tp {A:Option Addr} {c:Nat} {z:Int} {w:World}:
  Calls Tryz.prog 60 #[.agg #[.bool (neg z),.slice A (zl z) c]] w fun e w'=>e=.returned (.int .i64 z.sign)/\Below w.heap.size w w':=by
 rcases EY z 0 with h | h | h
 ·have h1:neg z=true:=by unfold neg; simp [h]
  have h2:0<zl z:=yS ae
  have h3:((zl z:Int)==0)=false:=by simp; omega
  have h4:z.sign=-1:=Int.sign_eq_neg_one_of_neg h
  rw [h1,h4]
  go_enter Tryz.func60,Tryz.ntmps60
  go_wp2
  go_ret
  exact ⟨rfl,(Below.refl _ _).alloc (aY _) _⟩
 ·subst h
  have h1:neg 0=false:=by unfold neg; simp
  have h2:zl 0=0:=pk
  rw [h1,h2]
  go_enter Tryz.func60,Tryz.ntmps60
  go_wp2
  go_ret
  exact ⟨rfl,(Below.refl _ _).alloc (aY _) _⟩
 ·have h1:neg z=false:=by unfold neg; simp; omega
  have h2:0<zl z:=yS ae
  have h3:((zl z:Int)==0)=false:=by simp; omega
  have h4:z.sign=1:=Int.sign_eq_one_of_pos h
  rw [h1,h4]
  go_enter Tryz.func60,Tryz.ntmps60
  go_wp2
  go_ret
  exact ⟨rfl,(Below.refl _ _).alloc (aY _) _⟩
theorem OW {A:Option Addr} {c:Nat} {z:Int} {w:World} (h:dK w A c z):
  Calls Tryz.prog 62 #[.agg #[.bool (neg z),.slice A (zl z) c]] w fun e w'=>∃v,e=.returned v/\pj w' v (-z)/\Below w.heap.size w w':=by
 go_enter Tryz.func62,Tryz.ntmps62
 go_wp2_with fail
 refine (jT (h.below (jK _ _ _))).mono ?_
 rintro e w1 ⟨rfl,hz,hb⟩
 rw [ZU] at hz ⊢
 have HZ:=Lib.hid hz
 obtain ⟨hc,hf⟩:=OS hb
 have hs:w.heap.size+1<w1.heap.size:=by have:=hb.size; simp at this; omega
 go_wp2
 exact bodyPost_ret (by simp [results,Tryz.results62,go_sem,hc]) rfl
  ⟨_,rfl,⟨_,_,rfl,eT.kD HZ.out (by simp [hc]) (by simp [hc]) _ _⟩,cI (ja (jK _ _ _) hb) ae _ _⟩
theorem ae7 {A:Option Addr} {c:Nat} {z:Int} {w:World} (h:dK w A c z):
  Calls Tryz.prog 59 #[.agg #[.bool (neg z),.slice A (zl z) c]] w fun e w'=>∃v,e=.returned v/\pj w' v (z.natAbs:Int)/\Below w.heap.size w w':=by
 go_enter Tryz.func59,Tryz.ntmps59
 go_wp2_with fail
 refine (jT (h.below (jK _ _ _))).mono ?_
 rintro e w1 ⟨rfl,hz,hb⟩
 rw [OU] at hz ⊢
 have HZ:=Lib.hid hz
 obtain ⟨hc,hf⟩:=OS hb
 have hs:w.heap.size+1<w1.heap.size:=by have:=hb.size; simp at this; omega
 go_wp2
 exact bodyPost_ret (by simp [results,Tryz.results59,go_sem,hc]) rfl
  ⟨_,rfl,⟨_,_,rfl,eT.kD HZ.out (by simp [hc]) (by simp [hc]) _ _⟩,cI (ja (jK _ _ _) hb) ae _ _⟩
theorem OX {b:Bool} {A:Option Addr} {n c N:Nat} {w:World} (h:cM w A n c N) (hN:nl N<=1000000):
  Calls Tryz.prog 37 #[.bool b,.slice A n c] w fun e w'=>∃v,e=.returned v/\pj w' v (sg b N)/\Below w.heap.size w w':=by
 go_enter Tryz.func37,Tryz.ntmps37
 go_wp2_with fail
 refine (yR (h.below (qU _ _)) hN).mono ?_
 rintro e w1 ⟨v,rfl,⟨A1,c1,rfl,hU,Og⟩,hb⟩
 go_wp2_with fail
 refine (jT hU).mono ?_
 rintro e w2 ⟨rfl,hz,gx⟩
 have HZ:=Lib.hid hz
 have nD:=ja hb gx
 obtain ⟨hc,hf⟩:=OS nD
 have hs:w.heap.size<w2.heap.size:=by have:=nD.size; simp at this; omega
 go_wp2
 exact bodyPost_ret (by simp [results,Tryz.results37,go_sem,hc]) rfl
  ⟨_,rfl,⟨_,_,rfl,eT.kD HZ.out (by simp [hc]) (by simp [hc]) _ _⟩,cI (ja (qU _ _) nD) ae _ _⟩
theorem vN (x y:Int):sg (!neg x==neg y) (x.natAbs*y.natAbs)=x*y:=by
 unfold sg neg
 rw [oz]
 rcases Int.lt_or_le x 0 with h1 | h1<;>rcases Int.lt_or_le y 0 with h2 | h2
 ·rw [show (x.natAbs:Int)=-x from ae,show (y.natAbs:Int)=-y from ae]; simp [h1,h2,Int.neg_mul_neg]
 ·rw [show (x.natAbs:Int)=-x from ae,show (y.natAbs:Int)=y from ae]; simp [h1,show ¬y<0 from ae,yB]
 ·rw [show (x.natAbs:Int)=x from ae,show (y.natAbs:Int)=-y from ae]; simp [h2,show ¬x<0 from ae,BI]
 ·rw [show (x.natAbs:Int)=x from ae,show (y.natAbs:Int)=y from ae]; simp [show ¬y<0 from ae,show ¬x<0 from ae]
theorem C' (x y:Int) (h:neg x=neg y):sg (neg x) (x.natAbs+y.natAbs)=x+y:=by
 unfold sg
 unfold neg at h ⊢
 rw [uu] at h
 by_cases h1:x<0
 ·have h2:=h.1 h1
  simp [h1]; omega
 ·have h2:¬y<0:=fun h3=>h1 (h.2 h3)
  simp [h1]; omega
theorem OY (x y:Int) (h:neg x≠neg y) (hle:y.natAbs<=x.natAbs):sg (neg x) (x.natAbs - y.natAbs)=x+y:=by
 unfold sg
 unfold neg at h ⊢
 rw [Ne,uu] at h
 by_cases h1:x<0
 ·have h2:¬y<0:=fun h3=>h ⟨fun _=>h3,fun _=>h1⟩
  simp [h1]; omega
 ·have h2:y<0:=by
   rcases Int.lt_or_le y 0 with h3 | h3
   ·exact h3
   ·exact absurd ⟨fun h4=>absurd h4 h1,fun h4=>ae⟩ h
  simp [h1]; omega
theorem Ka {A B:Option Addr} {c d:Nat} {x y:Int} {w:World} (hx:dK w A c x) (hy:dK w B d y) (hn:zl x<=1000000) (hm:zl y<=1000000):
  Calls Tryz.prog 97 #[.agg #[.bool (neg x),.slice A (zl x) c],.agg #[.bool (neg y),.slice B (zl y) d]] w fun e w'=>∃v,e=.returned v/\pj w' v (x*y)/\Below w.heap.size w w':=by
 go_enter Tryz.func97,Tryz.ntmps97
 go_wp2_with fail
 go_region_held3 (fun w'=>w'.cell? ⟨w.heap.size,0,none⟩=some (.bool (neg x))/\w'.cell? ⟨w.heap.size,1,none⟩=some (.slice A (zl x) c)/\w'.cell? ⟨w.heap.size+1,0,none⟩=some (.bool (neg y))/\w'.cell? ⟨w.heap.size+1,1,none⟩=some (.slice B (zl y) d)) (first | exact ⟨q0.c0,q0.c1,q1.c0,q1.c1⟩ | exact ⟨r0.c0,r0.c1,r1.c0,r1.c1⟩ | exact ⟨(r0.lJ ae _ _).c0,(r0.lJ ae _ _).c1,(r1.lJ ae _ _).c0,(r1.lJ ae _ _).c1⟩ | go_keep)
  (first | (go_at_call 146; refine (UM (cM.below (dK.num hx) (by exact (mV _ _ _ _).drew)) (cM.below (dK.num hy) (by exact (mV _ _ _ _).drew)) hn hm).mono ?_; rintro e w1 ⟨v,rfl,⟨A1,c1,rfl,hU,Og⟩,hb⟩; clear Og; obtain ⟨q0,q1,q2,nB,hs⟩:=vM (vL hb)) | (go_at_call 64; refine (jT hU).mono ?_; rintro e w2 ⟨rfl,hz,gx⟩; have r0:=q0.below gx q0.lt; have r1:=q1.below gx q1.lt; have r2:=q2.below gx q2.lt; have rL:=r2.c0; have sP:=r2.c1; have H9:=r2.f 0; have Oh:=r2.f 1; have ME:w.heap.size+1+1<w2.heap.size:=by have:=gx.size; omega))
 go_wp2
 have e:=vN x y
 rw [e] at hz ⊢
 exact bodyPost_ret (by simp [results,Tryz.results97,go_sem,rL,sP]) rfl
  ⟨_,rfl,⟨_,_,rfl,eT.kD hz rL sP _ _⟩,cI (ja nB gx) ae _ _⟩
theorem add_same {A B:Option Addr} {c d:Nat} {x y:Int} {w:World} (hx:dK w A c x) (hy:dK w B d y) (hn:zl x<=1000000) (hm:zl y<=1000000) (bx:Bool) (HE:Hid (sg bx (x.natAbs+y.natAbs)=x+y)):
  Calls Tryz.prog 63 #[.agg #[.bool bx,.slice A (zl x) c],.agg #[.bool bx,.slice B (zl y) d]] w fun e w'=>∃v,e=.returned v/\pj w' v (x+y)/\Below w.heap.size w w':=by
 go_enter Tryz.func63,Tryz.ntmps63
 go_wp2_with fail
 go_region_held3 (fun w'=>w'.cell? ⟨w.heap.size,0,none⟩=some (.bool bx)/\w'.cell? ⟨w.heap.size,1,none⟩=some (.slice A (zl x) c)/\w'.cell? ⟨w.heap.size+1,0,none⟩=some (.bool bx)/\w'.cell? ⟨w.heap.size+1,1,none⟩=some (.slice B (zl y) d)) (first | exact ⟨q0.c0,q0.c1,q1.c0,q1.c1⟩ | exact ⟨r0.c0,r0.c1,r1.c0,r1.c1⟩ | exact ⟨(r0.lJ ae _ _).c0,(r0.lJ ae _ _).c1,(r1.lJ ae _ _).c0,(r1.lJ ae _ _).c1⟩ | go_keep)
  (first | (go_at_call 105; refine (UI (cM.below (dK.num hx) (by exact (mV _ _ _ _).drew)) (cM.below (dK.num hy) (by exact (mV _ _ _ _).drew)) hn hm).mono ?_; rintro e w1 ⟨v,rfl,⟨A1,c1,rfl,hU,Og⟩,hb⟩; clear Og; obtain ⟨q0,q1,q2,nB,hs⟩:=vM (vL hb)) | (go_at_call 64; refine (jT hU).mono ?_; rintro e w2 ⟨rfl,hz,gx⟩; have r0:=q0.below gx q0.lt; have r1:=q1.below gx q1.lt; have r2:=q2.below gx q2.lt; have rL:=r2.c0; have sP:=r2.c1; have H9:=r2.f 0; have Oh:=r2.f 1; have ME:w.heap.size+1+1<w2.heap.size:=by have:=gx.size; omega))
 go_wp2
 rw [HE.out] at hz ⊢
 exact bodyPost_ret (by simp [results,Tryz.results63,go_sem,rL,sP]) rfl ⟨_,rfl,⟨_,_,rfl,eT.kD hz rL sP _ _⟩,cI (ja nB gx) ae _ _⟩
theorem add_lt {A B:Option Addr} {c d:Nat} {x y:Int} {w:World} (hx:dK w A c x) (hy:dK w B d y) (hm:zl y<=1000000) (bx:Bool) (HE:Hid (sg (!bx) (y.natAbs - x.natAbs)=x+y)) (cD:x.natAbs<y.natAbs):
  Calls Tryz.prog 63 #[.agg #[.bool bx,.slice A (zl x) c],.agg #[.bool !bx,.slice B (zl y) d]] w fun e w'=>∃v,e=.returned v/\pj w' v (x+y)/\Below w.heap.size w w':=by
 have E6:mU x.natAbs y.natAbs<0:=(oB x.natAbs y.natAbs).2 cD
 have Kb:=nK x.natAbs y.natAbs
 have ht:(bx==!bx)=false:=by cases bx<;>rfl
 go_enter Tryz.func63,Tryz.ntmps63
 go_wp2_with fail
 refine (mX (cM.below (dK.num hx) (by exact (mV _ _ _ _))) (cM.below (dK.num hy) (by exact (mV _ _ _ _)))).mono ?_
 rintro e w1 ⟨rfl,hb⟩
 obtain ⟨q0,q1,q2,nB,hs⟩:=vM hb
 have a0:=q0.c0
 have a1:=q0.c1
 have a2:=q1.c0
 have a3:=q1.c1
 have a4:=q0.f 0
 have a5:=q0.f 1
 have a6:=q1.f 0
 have a7:=q1.f 1
 go_wp2_with fail
 have p0:=(q0.put (.bool !bx) (.slice B (zl y) d)).lJ (k:=w.heap.size+1) ae (.bool bx) (.slice A (zl x) c)
 have p2:=(q2.lJ (k:=w.heap.size) ae (.bool !bx) (.slice B (zl y) d)).lJ (k:=w.heap.size+1) ae (.bool bx) (.slice A (zl x) c)
 have ZV:=cI (cI nB (aY _) (.bool !bx) (.slice B (zl y) d)) (nJ _) (.bool bx) (.slice A (zl x) c)
 refine (J9 (cM.below (dK.num hy) (by exact ZV)) (cM.below (dK.num hx) (by exact ZV)) hm (Nat.le_of_lt cD)).mono ?_
 rintro e w2 ⟨v,rfl,⟨A1,c1,rfl,hU,Og⟩,gx⟩
 have p2:=p2.below gx p2.lt
 have p0:=p0.below gx p0.lt
 have rL:=p0.c0
 have sP:=p0.c1
 have H':=p2.c0
 have Kc:=p2.c1
 have H9:=p2.f 0
 have Oh:=p2.f 1
 have ME:w.heap.size+1+1<w2.heap.size:=p2.lt
 go_wp2_with fail
 refine (jT hU).mono ?_
 rintro e w3 ⟨rfl,hz,tW⟩
 rw [HE.out] at hz ⊢
 have p3:=p2.below tW p2.lt
 have H':=p3.c0
 have Kc:=p3.c1
 have H9:=p3.f 0
 have Oh:=p3.f 1
 have hs3:w.heap.size+1+1<w3.heap.size:=p3.lt
 go_wp2
 exact bodyPost_ret (v:=.agg #[.bool (neg (x+y)),.slice A1 (zl (x+y)) c1]) (by simp [results,Tryz.results63,go_sem,H',Kc]) rfl ⟨_,rfl,⟨_,_,rfl,eT.kD hz H' Kc _ _⟩,cI (ja (ja ZV gx) tW) ae _ _⟩
theorem ZW {A B:Option Addr} {c d:Nat} {x y:Int} {w:World} (hx:dK w A c x) (hy:dK w B d y) (hn:zl x<=1000000) (bx:Bool) (HE:Hid (sg bx (x.natAbs - y.natAbs)=x+y)) (cD:¬x.natAbs<y.natAbs):
  Calls Tryz.prog 63 #[.agg #[.bool bx,.slice A (zl x) c],.agg #[.bool !bx,.slice B (zl y) d]] w fun e w'=>∃v,e=.returned v/\pj w' v (x+y)/\Below w.heap.size w w':=by
 have E6:¬mU x.natAbs y.natAbs<0:=fun h=>cD ((oB x.natAbs y.natAbs).1 h)
 have Kb:=nK x.natAbs y.natAbs
 have ht:(bx==!bx)=false:=by cases bx<;>rfl
 go_enter Tryz.func63,Tryz.ntmps63
 go_wp2_with fail
 refine (mX (cM.below (dK.num hx) (by exact (mV _ _ _ _))) (cM.below (dK.num hy) (by exact (mV _ _ _ _)))).mono ?_
 rintro e w1 ⟨rfl,hb⟩
 obtain ⟨q0,q1,q2,nB,hs⟩:=vM hb
 have a0:=q0.c0
 have a1:=q0.c1
 have a2:=q1.c0
 have a3:=q1.c1
 have a4:=q0.f 0
 have a5:=q0.f 1
 have a6:=q1.f 0
 have a7:=q1.f 1
 go_wp2_with fail
 have p0:=q0
 have p2:=q2
 have ZV:=nB
 refine (J9 (cM.below (dK.num hx) (by exact ZV)) (cM.below (dK.num hy) (by exact ZV)) hn ae).mono ?_
 rintro e w2 ⟨v,rfl,⟨A1,c1,rfl,hU,Og⟩,gx⟩
 have p2:=p2.below gx p2.lt
 have p0:=p0.below gx p0.lt
 have rL:=p0.c0
 have sP:=p0.c1
 have H':=p2.c0
 have Kc:=p2.c1
 have H9:=p2.f 0
 have Oh:=p2.f 1
 have ME:w.heap.size+1+1<w2.heap.size:=p2.lt
 go_wp2_with fail
 refine (jT hU).mono ?_
 rintro e w3 ⟨rfl,hz,tW⟩
 rw [HE.out] at hz ⊢
 have p3:=p2.below tW p2.lt
 have H':=p3.c0
 have Kc:=p3.c1
 have H9:=p3.f 0
 have Oh:=p3.f 1
 have hs3:w.heap.size+1+1<w3.heap.size:=p3.lt
 go_wp2
 exact bodyPost_ret (by simp [results,Tryz.results63,go_sem,H',Kc]) rfl ⟨_,rfl,⟨_,_,rfl,eT.kD hz H' Kc _ _⟩,cI (ja (ja ZV gx) tW) ae _ _⟩
theorem BR {A B:Option Addr} {c d:Nat} {x y:Int} {w:World} (hx:dK w A c x) (hy:dK w B d y) (hn:zl x<=1000000) (hm:zl y<=1000000):
  Calls Tryz.prog 63 #[.agg #[.bool (neg x),.slice A (zl x) c],.agg #[.bool (neg y),.slice B (zl y) d]] w fun e w'=>∃v,e=.returned v/\pj w' v (x+y)/\Below w.heap.size w w':=by
 by_cases h:neg x=neg y
 ·rw [<- h]
  exact add_same hx hy hn hm (neg x) (C' x y h)
 ·have h2:neg y=!neg x:=by cases h3:neg x<;>cases h4:neg y<;>simp_all
  rw [h2]
  by_cases cD:x.natAbs<y.natAbs
  ·refine add_lt hx hy hm (neg x) ?_ cD
   rw [<- h2,OY y x (fun h3=>h h3.symm) ae,Int.add_comm]
   exact rfl
  ·exact ZW hx hy hn (neg x) (OY x y h ae) cD
theorem Pv (x y:Nat) (hx:x<4294967296) (hy:y<4294967296):bits .or .u64 (x:Int) ((y:Int)*4294967296)=((x+4294967296*y:Nat):Int):=by
 have h:=u64_or_nat x (y*4294967296) ae ae
 rw [oz] at h
 rw [show ((4294967296:Nat):Int)=4294967296 from rfl] at h
 rw [h]
 have:=Pc 32 y x ae
 rw [show (2:Nat) ^ 32=4294967296 from rfl] at this
 rw [this,iO]
theorem Fi (N d:Nat):((L N).drop d).length=nl N - d:=by rw [j6]; rfl
theorem Ij (N d:Nat):val 4294967296 ((L N).drop d)=N / 4294967296 ^ d:=by
 have h1:val 4294967296 (L N)=val 4294967296 ((L N).take d)+4294967296 ^ ((L N).take d).length*val 4294967296 ((L N).drop d):=by
  conv=>lhs; rw [<- lX d (L N)]
  rw [en]
 rw [mT] at h1
 have h2:=k8 ((xq N).take d)
 rcases dr (L N).length d with h | h
 ·rw [dM ae]
  have h3:=k8 (xq N)
  rw [mT] at h3
  have h4:(4294967296:Nat) ^ (L N).length<=4294967296 ^ d:=fE ae ae
  rw [qk ae]; rfl
 ·rw [fg,jS h] at h1 h2
  conv=>rhs; rw [h1]
  rw [BF _ _ (nW ae),qk h2,fz]
theorem Kl {A:Option Addr} {n c N s:Nat} {w:World} (h:cM w A n c N) (hn:nl N<=1000000) (hs:s<=9223372036854775807):
  Calls Tryz.prog 155 #[.slice A n c,.int .i64 s] w fun e w'=>∃v,e=.returned (.tuple #[v,.int .i64 0])/\kC w.heap.size w' v (N / 2 ^ s)/\Below w.heap.size w w':=by
 obtain ⟨d,hd⟩:∃d,d=s / 32:=⟨_,rfl⟩
 obtain ⟨r,hr⟩:∃r,r=s%32:=⟨_,rfl⟩
 have Kc:(s:Int) / 32=d:=ae
 have hr1:(s:Int)%32=r:=ae
 have Hu:r<32:=ae
 have HP:=Lib.hid (show N / 2 ^ s=N / 4294967296 ^ d / 2 ^ r by rw [C1,show (4294967296:Nat)=2 ^ 32 from rfl,<- Nat.pow_mul,<- mM]; congr 2; omega)
 clear hd hr
 go_enter Tryz.func155,Tryz.ntmps155
 go_wp2_with fail
 refine (il _ _ _ _ _ h).mono ?_
 rintro e w' ⟨rfl,hU,rfl⟩
 clear h
 by_cases hdl:nl N<=d
 ·have H0:=Lib.hid (show N / 2 ^ s=0 by
   rw [HP.out,qk (a:=N),Nat.zero_div]
   exact gw (tm ae N) (fE ae hdl))
  clear hU
  go_wp2
  go_ret2
  refine ⟨_,rfl,⟨none,0,?_,?_,fun a ha=>by cases ha⟩,Below.refl _ _⟩
  ·rw [H0.out,qT]; rfl
  ·rw [H0.out,qT]
   exact ⟨rfl,aY _,by simp [maxLen],bN.nil _,fun hp=>by simp at hp⟩
 ·obtain ⟨b,off,rfl,nB,ia⟩:=hU.cells ae
  have HC:=Lib.hid ia
  have afn:=hU.big
  unfold maxLen at afn
  clear ia hU
  go_wp2_with (at_make; refine eB _ rfl _ _ 50 rfl 98 .u32 4 Tryz.underlying50 kE _ _ _ _ (nl N - d) rfl rfl ae ae ae ae ?_; intro w1 vi vj ld)
  have HA:=Lib.hid vi
  have HB:=Lib.hid vj
  clear vi vj ld
  obtain ⟨m,hm⟩:∃m,m=nl N - d:=⟨_,rfl⟩
  rw [<- hm] at HA ⊢
  have HM:=Lib.hid hm
  have hyl:=Fi N d
  have HY:=Lib.hid (And.intro ((xq N).drop d) (And.intro (Ij N d) (show ((L N).drop d).length=m by rw [hyl,hm])))
  have HG:=Lib.hid (fun i=>show ((L N).drop d).getD i 0=(L N).getD (d+i) 0 by simp [List.getD])
  have hmb:m<9223372036854775808/\m<=1000000:=ae
  clear hm hyl
  generalize (L N).drop d=ys at*
  go_loopw [31] (fun i wr=>∃(k:Nat) (os:List Nat),k<=m/\i=.int .i64 k/\
    Hid (os.length=m/\bN 4294967296 os/\val 4294967296 (os.take k)+4294967296 ^ k*(val 4294967296 (ys.drop k) / 2 ^ r)=val 4294967296 ys / 2 ^ r)/\
    Hid (oY .u32 98 wr w.heap.size os)/\Hid (Below w.heap.size w wr)) (fun i _=>m - (intOf i).toNat)
  case atStart=>exact ⟨0,_,bm _,rfl,⟨by simp,bN.yM ae _,by simp⟩,HA.out,HB.out⟩
  case round=>
   obtain ⟨k,os,hk,rfl,HI,HR,HW⟩:=hrel
   by_cases cD:k<m
   ·have Oe:wr.cell? ⟨b,off+d+k,none⟩=some (.int .u32 ((ys.getD k 0:Nat):Int)):=by
     rw [HG.out,HW.out.cell nB,mc]
     exact HC.out (d+k) (by have:=HM.out; omega)
    have Of:=HR.out.cell k (by rw [HI.out.1]; omega)
    have nC:=HY.out.1.get ae k
    have Ht:=HR.out.frozen k
    have σ:=fun T h=>Pg 4294967296 (2 ^ r) (2 ^ (32 - r)) (by rw [<- mM,show r+(32 - r)=32 by omega]) (qi r) ae ys os k T (by rw [HI.out.1]; exact cD) nC h
    have uE:=σ _ HI.out.2.2
    have HS:=Lib.hid uE
    have xw:=HY.out.1.get ae (k+1)
    clear σ uE
    by_cases Dj:k+1<m
    ·have T0:wr.cell? ⟨b,off+d+(k+1),none⟩=some (.int .u32 ((ys.getD (k+1) 0:Nat):Int)):=by
      rw [HG.out,HW.out.cell nB,mc]
      exact HC.out (d+(k+1)) (by have:=HM.out; omega)
     generalize ys.getD k 0=x at*
     generalize ys.getD (k+1) 0=y at*
     have HH:=Lib.hid (show bits .or .u64 (x:Int) ((y:Int)*4294967296) / 2 ^ r%4294967296=(((x+4294967296*y) / 2 ^ r%4294967296:Nat):Int) by
      rw [Pv x y nC xw,Int.natCast_emod,Int.natCast_ediv,Int.natCast_pow]; rfl)
     go_wp2
     go_roundw
     case rel=>
      have h3:=HI.out
      exact ⟨k+1,_,by omega,by go_num,⟨by rw [cH]; exact h3.1,h3.2.1.set k (kx _ ae),HS.out⟩,HR.out.qz k _ _ HH.out,HW.out.setCell (aY _) _⟩
     case measure=>simp [intOf]; omega
    ·have YG:ys.getD (k+1) 0=0:=ml (by rw [HY.out.2.2]; omega)
     rw [YG,J2,j7] at HS
     clear YG xw
     generalize ys.getD k 0=x at*
     have HH:=Lib.hid (show (x:Int) / 2 ^ r%4294967296=((x / 2 ^ r%4294967296:Nat):Int) by
      rw [Int.natCast_emod,Int.natCast_ediv,Int.natCast_pow]; rfl)
     go_wp2
     go_roundw
     case rel=>
      have h3:=HI.out
      exact ⟨k+1,_,by omega,by go_num,⟨by rw [cH]; exact h3.1,h3.2.1.set k (kx _ ae),HS.out⟩,HR.out.qz k _ _ HH.out,HW.out.setCell (aY _) _⟩
     case measure=>simp [intOf]; omega
   ·go_wp2_with fail
    have h3:=HI.out
    obtain rfl:k=m:=ae
    have hU:=HR.out.u32 h3.2.1 h3.1 (by simp only [maxLen]; omega)
    have hv:val 4294967296 os=N / 2 ^ s:=by
     have h4:=h3.2.2
     rw [bD (by omega),dM (by rw [HY.out.2.2]; exact aY _),HY.out.2.1,<- HP.out] at h4
     simpa using h4
    have hN:cM wr (bh w.heap.size) k k (N / 2 ^ s):=⟨os,hU,hv⟩
    refine (il _ _ _ _ _ hN).mono ?_
    rintro e w' ⟨rfl,hT,rfl⟩
    have HT:=Lib.hid hT
    clear hT hv hU h3 hN
    go_wp2
    go_ret2
    exact ⟨_,rfl,⟨_,_,rfl,HT.out,fun a ha=>by cases ha; exact aY _⟩,HW.out⟩
end Go.Proofs.YtgopcdagnicekaaGreatDoor
