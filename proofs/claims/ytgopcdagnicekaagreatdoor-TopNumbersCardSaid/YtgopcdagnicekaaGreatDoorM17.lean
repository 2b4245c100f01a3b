/- limb.digit: a limb of a quotient. No condition. -/
import Derived.Test.YtgopcdagnicekaaGreatDoorM1
import Derived.Test.YtgopcdagnicekaaGreatDoorM16
import Derived.Test.YtgopcdagnicekaaGreatDoorM3
import Derived.Deep.CutBlock
import Derived.WalkMore

set_option linter.unusedVariables false
set_option linter.unusedSimpArgs false
set_option linter.all false
namespace Go.Proofs.YtgopcdagnicekaaGreatDoor
open Go.RowKit Anv
set_option maxRecDepth 100000 in
set_option maxHeartbeats 1000000 in
theorem MQ {g k m c d:Nat} {A:Option Addr} {pre win post vs:List Nat} {w:World} (hL:rQ w g (pre++win++post)) (hk:pre.length=k) (hm:win.length=m+3) (hc:m+3<=c) (hkc:k+c<=maxLen)
  (rO:bN 4294967296 win) (hv:eT w A (m+2) d vs) (hA:∀a,A=some a->a.block≠g) (Ol:0<vs.getD (m+1) 0) (tB:val 4294967296 win<4294967296*val 4294967296 vs):
  Calls Tryz.prog 154 #[.slice (some ⟨g,k,none⟩) (m+3:Nat) c,.slice A (m+2:Nat) d] w fun e w'=>∃os,e=.returned (.int .u32 ((val 4294967296 win / val 4294967296 vs:Nat):Int))/\os.length=m+3/\bN 4294967296 os/\
   val 4294967296 os=val 4294967296 win%val 4294967296 vs/\rQ w' g (pre++os++post)/\vm g w w':=by
 have HG:=Lib.hid (Pj 4294967296 m ae win vs hm hv.len rO hv.lt Ol tB)
 have HK:=Lib.hid (And.intro hk hm)
 have HL:=Lib.hid hL
 have HWL:=Lib.hid rO
 have HV:=Lib.hid hv
 have HAA:=Lib.hid hA
 have hb:=hv.cap
 have T5:=hv.big
 have xx:w.cell? ⟨g,k+(m+2),none⟩=some (.int .u32 ((win.getD (m+2) 0:Nat):Int)):=by
  rw [hL.cell (k+(m+2)) (by simp; omega),rP pre win post k (m+2) hk ae]
 have sP:w.cell? ⟨g,k+(m+1),none⟩=some (.int .u32 ((win.getD (m+1) 0:Nat):Int)):=by
  rw [hL.cell (k+(m+1)) (by simp; omega),rP pre win post k (m+1) hk ae]
 have rL:w.cell? ⟨g,k+m,none⟩=some (.int .u32 ((win.getD m 0:Nat):Int)):=by
  rw [hL.cell (k+m) (by simp; omega),rP pre win post k m hk ae]
 obtain ⟨b2,MC,rfl,E5,ia⟩:=hv.cells ae
 have Kc:=ia (m+1) ae
 have H':=ia m ae
 have C7:=rO.get ae (m+2)
 have hu1:=rO.get ae (m+1)
 have hu2:=rO.get ae m
 have akv:=hv.lt.get ae (m+1)
 have aac:=hv.lt.get ae m
 have YA:=Di (win.getD (m+1) 0) (win.getD (m+2) 0) hu1 C7
 have hHb:win.getD (m+2) 0*4294967296+win.getD (m+1) 0<18446744073709551616:=ae
 have hou:=fun r (hr:r<4294967296)=>Di (win.getD m 0) r hu2 hr
 unfold maxLen at hkc T5
 have hwm:IntKind.i64.wrap (m:Int)=(m:Int):=by rw [IntKind.wrap_i64]; omega
 clear hk hm hL rO hv hA tB ia
 generalize vs.getD (m+1) 0=v1 at*
 generalize vs.getD m 0=v2 at*
 generalize win.getD m 0=u2 at*
 generalize win.getD (m+2) 0*4294967296+win.getD (m+1) 0=H at*
 generalize win.getD (m+1) 0=u1 at*
 generalize win.getD (m+2) 0=un at*
 have HO:=Lib.hid hou
 clear hou
 go_enter Tryz.func154,Tryz.ntmps154
 go_wp2_with fail
 go_step3
 go_wp2_with fail
 go_quiet (fail)
 go_wp2_with fail
 go_quiet (fail)
 go_wp2_with fail
 go_step3
 go_upto_block 0 with fail
 have HQ0:=Lib.hid (show IntKind.u64.wrap ((H:Int) / (v1:Int))=((H / v1:Nat):Int) by
  have:=yI H v1
  rw [<- Int.natCast_ediv,IntKind.wrap_u64]; generalize H / v1=Z at*; omega)
 have HQ1:=Lib.hid (And.intro (kx H Ol) (show H / v1*v1+H%v1=H by rw [iO]; exact Nat.div_add_mod H v1))
 have HQ2:=Lib.hid (show H / v1<18446744073709551616 from qf (yI H v1) hHb)
 obtain ⟨W,hW⟩:∃W,W=val 4294967296 win:=⟨_,rfl⟩
 obtain ⟨V,hV⟩:∃V,V=val 4294967296 vs:=⟨_,rfl⟩
 rw [<- hW,<- hV] at HG
 have T6:=Lib.hid (And.intro hW hV)
 clear hW hV
 go_cut [7] (fun s7 wx=>∃g:Nat,s7=.int .u64 g/\g<4294967296/\Hid (g=W / V∨g=W / V+1)/\Hid (∃z,wx=w.drewN z))
 case first=>
  go_wp2_with fail
  go_loopw [7,8] (fun s7 s8 wr=>∃g r:Nat,s7=.int .u64 g/\s8=.int .u64 r/\g<18446744073709551616/\r<4294967296/\Hid (g*v1+r=H/\W / V<=g)/\Hid (∃z,wr=w.drewN z)) (fun s7 _ _=>(intOf s7).toNat)
  case atStart=>exact ⟨H / v1,H%v1,int_eq HQ0.out,rfl,HQ2.out,Nat.lt_trans HQ1.out.1 akv,⟨HQ1.out.2,HG.out.first⟩,by simp only [World.drewN_drewN]; exact ⟨_,rfl⟩⟩
  case round=>
   clear HQ0 HQ1 HQ2
   obtain ⟨g',r,rfl,rfl,hg,hr,HI,HZ⟩:=hrel
   obtain ⟨z,rfl⟩:=HZ.out
   clear HZ
   by_cases vK:4294967296<=g'
   ·have hq:=Lib.hid (Pl HG.out.pos HG.out.low vK)
    have HE:=Lib.hid (show (g' - 1)*v1+(r+v1)=H by
     obtain ⟨p,rfl⟩:∃p,g'=p+1:=⟨g' - 1,by omega⟩
     have:=HI.out.1
     rw [iM] at this
     rw [vu]; omega)
    have hgi:(0:Int)<(g':Int) / 4294967296:=ae
    by_cases Pu:4294967296<=r+v1
    ·go_wp2_with fail
     go_quiet (fail)
     go_wp2_with fail
     go_meet
     case rel=>
      have h1:=HG.out.digit _ _ HE.out Pu
      have h2:=HG.out.stop _ _ HE.out (by have:=hq.out; omega) h1 (wI 4294967296 v2 u2 _ _ h1 aac Pu)
      exact ⟨g' - 1,by go_num,h1,h2,_,rfl⟩
    ·go_wp2_with fail
     go_quiet (fail)
     go_wp2_with fail
     go_roundw
     case rel=>exact ⟨g' - 1,r+v1,by go_num,by go_num,by omega,by omega,⟨HE.out,by have:=hq.out; omega⟩,by show ∃z,_=_; exact ⟨_,rfl⟩⟩
     case measure=>simp [intOf]; omega
   ·have hgs:decide ((0:Int)<(g':Int) / 4294967296)=false:=bR ae
    have ho:=HO.out r hr
    have hT:r*4294967296+u2<18446744073709551616:=ae
    have hmul:g'*v2<18446744073709551616:=Nat.mul_lt_mul'' (show g'<4294967296 by omega) aac
    have Bn:=HG.out.mend g' r HI.out.1
    have hs0:=HG.out.stop g' r HI.out.1 HI.out.2 ae
    have HM:=Lib.hid (And.intro Bn hs0)
    clear Bn hs0
    generalize r*4294967296+u2=T at*
    have hpr:IntKind.u64.wrap ((g':Int)*(v2:Int))=((g'*v2:Nat):Int):=by rw [<- oz,IntKind.wrap_u64]; omega
    have C5:g'=0->g'*v2=0:=by rintro rfl; simp
    generalize g'*v2=G at*
    by_cases ht:T<G
    ·have MR:0<g':=by
      rcases ed g' with h | h
      ·have:=C5 h; omega
      ·exact h
     have hti:decide (T<G)=true:=dU ht
     have hq:=Lib.hid (HM.out.1 ht)
     have HE:=Lib.hid (show (g' - 1)*v1+(r+v1)=H by
      obtain ⟨p,rfl⟩:∃p,g'=p+1:=⟨g' - 1,by omega⟩
      have:=HI.out.1
      rw [iM] at this
      rw [vu]; omega)
     clear hmul C5
     by_cases Pu:4294967296<=r+v1
     ·go_wp2_with fail
      go_quiet (fail)
      clear hgs hT
      go_wp2_with fail
      go_meet
      case rel=>
       have h1:=HG.out.digit _ _ HE.out Pu
       have h2:=HG.out.stop _ _ HE.out (by have:=hq.out; omega) h1 (wI 4294967296 v2 u2 _ _ h1 aac Pu)
       exact ⟨g' - 1,by go_num,h1,h2,_,rfl⟩
     ·go_wp2_with fail
      go_quiet (fail)
      clear hgs hT
      go_wp2_with fail
      go_roundw
      case rel=>exact ⟨g' - 1,r+v1,by go_num,by go_num,by omega,by omega,⟨HE.out,by have:=hq.out; omega⟩,by show ∃z,_=_; exact ⟨_,rfl⟩⟩
      case measure=>simp [intOf]; omega
    ·have hti:decide (T<G)=false:=bR ht
     have h2:=Lib.hid (HM.out.2 ae)
     clear hmul C5
     go_wp2_with fail
     go_quiet (fail)
     clear hgs hT
     go_wp2_with fail
     go_meet
     case rel=>exact ⟨g',rfl,by omega,h2.out,by show ∃z,_=_; simp only [World.drewN_drewN]; exact ⟨_,rfl⟩⟩
 case rest=>
  obtain ⟨g',rfl,hg,HQ,HZ⟩:=hcut
  obtain ⟨z,rfl⟩:=HZ.out
  have hWV:=T6.out
  clear HZ HQ0 HQ1 HQ2 YA HO xx sP rL Kc H'
  go_wp2_with fail
  refine (Pp (w:=w.drewN z) (HL.out.oC rfl) HK.out.1 HK.out.2 hc (by unfold maxLen; exact hkc) HWL.out (HV.out.below (pg w z)) HAA.out ae hg).mono ?_
  rintro e w1 ⟨EE,YF,iQ,afm,hL1,hE1⟩
  rw [<- hWV.1,<- hWV.2] at YF
  clear hWV
  have HL1:=Lib.hid hL1
  have HE1:=Lib.hid (show vm g w w1 from ((vm.refl g w).drewN z).trans hE1)
  have HO1:=Lib.hid (And.intro iQ afm)
  clear hL1 hE1 iQ afm
  rcases YF with ⟨hle,rfl,qZ⟩ | ⟨hle,rfl,qZ⟩
  ·have HR:=Lib.hid (UY HQ.out HG.out.pos qZ)
   have aae:=Lib.hid hle
   clear hle qZ
   go_wp2
   rw [Exit.noGoto_ret]
   go_ret
   have h:=HR.out
   exact ⟨EE,by rw [<- T6.out.1,<- T6.out.2,<- h.1]; rfl,HO1.out.1,HO1.out.2,by rw [<- T6.out.1,<- T6.out.2]; exact h.2,HL1.out,HE1.out⟩
  ·have aae:=Lib.hid (And.intro hle qZ)
   have MR:0<g':=by
    rcases ed g' with h | h
    ·subst h; simp at hle
    ·exact h
   clear hle qZ
   go_wp2_with fail
   go_loopw [9,89] (fun cy ix wr=>∃(i cc:Nat) (os:List Nat),i<=m+3/\ix=.int .i64 i/\cy=.int .u64 cc/\cc<=1/\
    Hid (os.length=m+3/\bN 4294967296 os/\(∀j,i<=j->os.getD j 0=EE.getD j 0)/\val 4294967296 (os.take i)+4294967296 ^ i*cc=val 4294967296 (EE.take i)+val 4294967296 (vs.take i))/\
    Hid (rQ wr g (pre++os++post))/\Hid (vm g w wr)) (fun _ ix _=>m+3 - (intOf ix).toNat)
   case atStart=>exact ⟨0,0,EE,bm _,rfl,rfl,by omega,⟨HO1.out.1,HO1.out.2,fun _ _=>rfl,by simp⟩,HL1.out,HE1.out⟩
   case round=>
    obtain ⟨i,cc,os,hi,rfl,rfl,OP,HI,HR,HW⟩:=hrel
    by_cases cD:i<m+3
    ·have U0:i<os.length:=by rw [HI.out.1]; exact cD
     have Oe:wr.cell? ⟨g,k+i,none⟩=some (.int .u32 ((EE.getD i 0:Nat):Int)):=by
      rw [HR.out.cell (k+i) (by rw [aP,aP,HK.out.1]; omega),rP pre os post k i HK.out.1 U0,HI.out.2.2.1 i (aY _)]
     have Ht:=HR.out.frozen (k+i)
     have nC:=HO1.out.2.get ae i
     have σ:=yN 4294967296 EE vs os i cc U0 HI.out.2.2.2
     clear U0
     by_cases wJ:i<m+2
     ·obtain ⟨b3,arM,e3,arO,ia⟩:=(HW.out.u32 HV.out HAA.out).cells ae
      cases e3
      have T0:=ia i wJ
      have xw:=HV.out.lt.get ae i
      have HS:=Lib.hid σ
      clear ia σ
      generalize EE.getD i 0=x at*
      generalize vs.getD i 0=y at*
      go_wp2
      go_roundw
      case rel=>
       have h3:=HI.out
       exact ⟨i+1,(cc+x+y) / 4294967296,os.set i ((cc+x+y)%4294967296),by omega,by go_num,int_eq ae,by omega,⟨by rw [cH]; exact h3.1,h3.2.1.set i ae,fun j hj=>by rw [lA ae]; exact h3.2.2.1 j ae,HS.out⟩,by rw [<- xP pre os post k i _ HK.out.1 (by rw [h3.1]; exact cD)]; exact HR.out.qz _ _ _ ae,HW.out.set rfl _⟩
      case measure=>simp [intOf]; omega
     ·rw [ml (xs:=vs) (by rw [HV.out.len]; omega),j7] at σ
      have HS:=Lib.hid σ
      clear σ
      generalize EE.getD i 0=x at*
      go_wp2
      go_roundw
      case rel=>
       have h3:=HI.out
       exact ⟨i+1,(cc+x) / 4294967296,os.set i ((cc+x)%4294967296),by omega,by go_num,int_eq ae,by omega,⟨by rw [cH]; exact h3.1,h3.2.1.set i ae,fun j hj=>by rw [lA ae]; exact h3.2.2.1 j ae,HS.out⟩,by rw [<- xP pre os post k i _ HK.out.1 (by rw [h3.1]; exact cD)]; exact HR.out.qz _ _ _ ae,HW.out.set rfl _⟩
      case measure=>simp [intOf]; omega
    ·have h3:=HI.out
     obtain rfl:i=m+3:=ae
     have h4:=h3.2.2.2
     have h5:=k8 h3.2.1
     rw [bD (by rw [h3.1]; exact aY _),bD (by rw [HO1.out.1]; exact aY _),bD (by rw [HV.out.len]; omega),<- T6.out.2] at h4
     rw [h3.1] at h5
     have HF:=Lib.hid (And.intro h3.1 (And.intro h3.2.1 (MO HQ.out HG.out.pos aae.out.1 aae.out.2 h4 h5 OP)))
     clear h3 h4 h5 HI
     go_wp2
     rw [Exit.noGoto_ret]
     go_ret
     have h:=HF.out
     refine ⟨os,?_,h.1,h.2.1,by rw [<- T6.out.1,<- T6.out.2]; exact h.2.2.2,HR.out,HW.out⟩
     rw [<- T6.out.1,<- T6.out.2,<- h.2.2.1]
     exact aM (fun z=>Ending.returned (.int .u32 z)) ae
end Go.Proofs.YtgopcdagnicekaaGreatDoor
