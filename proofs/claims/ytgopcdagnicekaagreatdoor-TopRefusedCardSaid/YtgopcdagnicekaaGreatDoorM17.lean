/- limb.digit: a limb of a quotient. No condition. -/
import Derived.Test.YtgopcdagnicekaaGreatDoorM16
import Derived.Deep.CutBlock
set_option linter.all false
open Go.Proofs.Tryz
namespace Go.Proofs.YtgopcdagnicekaaGreatDoor
open Go.RowKit Anv
set_option maxRecDepth 100000 in
set_option maxHeartbeats 1000000 in
theorem OD {g k m c d:Nat} {A:Option Addr} {pre win post vs:List Nat} {w:World} (hL:vd w g (pre++win++post)) (hk:pre.length=k) (hm:win.length=m+3) (hc:m+3<=c) (hkc:k+c<=maxLen)
  (u9:dZ 4294967296 win) (hv:kp w A (m+2) d vs) (hA:∀a,A=some a->a.block≠g) (Re:0<vs.getD (m+1) 0) (wG:val 4294967296 win<4294967296*val 4294967296 vs):
  Calls prog 154 #[.slice (some ⟨g,k,none⟩) (m+3:Nat) c,.slice A (m+2:Nat) d] w fun e w'=>∃os,e=.returned (.int .u32 ((val 4294967296 win / val 4294967296 vs:Nat):Int))/\os.length=m+3/\dZ 4294967296 os/\
   val 4294967296 os=val 4294967296 win%val 4294967296 vs/\vd w' g (pre++os++post)/\yh g w w':=by
 have HG:=Lib.hid (Rc 4294967296 m ae win vs hm hv.len u9 hv.lt Re wG)
 have HK:=Lib.hid (And.intro hk hm)
 have HL:=Lib.hid hL
 have HWL:=Lib.hid u9
 have HV:=Lib.hid hv
 have HAA:=Lib.hid hA
 have hb:=hv.cap
 have Wg:=hv.big
 have zG:w.cell? ⟨g,k+(m+2),none⟩=some (.int .u32 ((win.getD (m+2) 0:Nat):Int)):=by
  rw [hL.cell (k+(m+2)) (by simp; omega),vc pre win post k (m+2) hk ae]
 have vW:w.cell? ⟨g,k+(m+1),none⟩=some (.int .u32 ((win.getD (m+1) 0:Nat):Int)):=by
  rw [hL.cell (k+(m+1)) (by simp; omega),vc pre win post k (m+1) hk ae]
 have vK:w.cell? ⟨g,k+m,none⟩=some (.int .u32 ((win.getD m 0:Nat):Int)):=by
  rw [hL.cell (k+m) (by simp; omega),vc pre win post k m hk ae]
 obtain ⟨b2,Ev,rfl,GQ,mx⟩:=hv.cells ae
 have LW:=mx (m+1) ae
 have JO:=mx m ae
 have Es:=u9.get ae (m+2)
 have hu1:=u9.get ae (m+1)
 have hu2:=u9.get ae m
 have amL:=hv.lt.get ae (m+1)
 have aca:=hv.lt.get ae m
 have hor:=ED (win.getD (m+1) 0) (win.getD (m+2) 0) hu1 Es
 have hHb:win.getD (m+2) 0*4294967296+win.getD (m+1) 0<18446744073709551616:=ae
 have hou:=fun r (hr:r<4294967296)=>ED (win.getD m 0) r hu2 hr
 unfold maxLen at hkc Wg
 have hwm:IntKind.i64.wrap (m:Int)=(m:Int):=by rw [IntKind.wrap_i64]; omega
 clear hk hm hL u9 hv hA wG mx
 generalize vs.getD (m+1) 0=v1 at*
 generalize vs.getD m 0=v2 at*
 generalize win.getD m 0=u2 at*
 generalize win.getD (m+2) 0*4294967296+win.getD (m+1) 0=H at*
 generalize win.getD (m+1) 0=u1 at*
 generalize win.getD (m+2) 0=un at*
 have HO:=Lib.hid hou
 clear hou
 go_enter func154,ntmps154
 go_wp2_with fail
 go_step3
 go_wp2_with fail
 go_quiet (fail)
 go_wp2_with fail
 go_quiet (fail)
 go_wp2_with fail
 go_step3
 go_upto_block 0 with fail
 have HQ0:=Lib.hid (show IntKind.u64.wrap ((H:Int) / (v1:Int))=((H / v1:Nat):Int) by
  have:=jc H v1
  rw [<- Int.natCast_ediv,IntKind.wrap_u64]; generalize H / v1=Z at*; omega)
 have HQ1:=Lib.hid (And.intro (dF H Re) (show H / v1*v1+H%v1=H by rw [cO]; exact Nat.div_add_mod H v1))
 have HQ2:=Lib.hid (show H / v1<18446744073709551616 from fa (jc H v1) hHb)
 obtain ⟨W,hW⟩:∃W,W=val 4294967296 win:=⟨_,rfl⟩
 obtain ⟨V,hV⟩:∃V,V=val 4294967296 vs:=⟨_,rfl⟩
 rw [<- hW,<- hV] at HG
 have Wh:=Lib.hid (And.intro hW hV)
 clear hW hV
 go_cut [7] (fun s7 wx=>∃g:Nat,s7=.int .u64 g/\g<4294967296/\Hid (g=W / V∨g=W / V+1)/\Hid (∃z,wx=w.drewN z))
 case first=>
  go_wp2_with fail
  go_loopw [7,8] (fun s7 s8 wr=>∃g r:Nat,s7=.int .u64 g/\s8=.int .u64 r/\g<18446744073709551616/\r<4294967296/\Hid (g*v1+r=H/\W / V<=g)/\Hid (∃z,wr=w.drewN z)) (fun s7 _ _=>(intOf s7).toNat)
  case atStart=>exact ⟨H / v1,H%v1,int_eq HQ0.out,rfl,HQ2.out,Nat.lt_trans HQ1.out.1 amL,⟨HQ1.out.2,HG.out.first⟩,by simp only [World.drewN_drewN]; exact ⟨_,rfl⟩⟩
  case round=>
   clear HQ0 HQ1 HQ2
   obtain ⟨g',r,rfl,rfl,hg,hr,HI,HZ⟩:=hrel
   obtain ⟨z,rfl⟩:=HZ.out
   clear HZ
   by_cases sK:4294967296<=g'
   ·have hq:=Lib.hid (Rf HG.out.pos HG.out.low sK)
    have HE:=Lib.hid (show (g' - 1)*v1+(r+v1)=H by
     obtain ⟨p,rfl⟩:∃p,g'=p+1:=⟨g' - 1,by omega⟩
     have:=HI.out.1
     rw [cG] at this
     rw [ic]; omega)
    have hgi:(0:Int)<(g':Int) / 4294967296:=ae
    by_cases Ro:4294967296<=r+v1
    ·go_wp2_with fail
     go_quiet (fail)
     go_wp2_with fail
     go_meet
     case rel=>
      have h1:=HG.out.digit _ _ HE.out Ro
      have h2:=HG.out.stop _ _ HE.out (by have:=hq.out; omega) h1 (yX 4294967296 v2 u2 _ _ h1 aca Ro)
      exact ⟨g' - 1,by go_num,h1,h2,_,rfl⟩
    ·go_wp2_with fail
     go_quiet (fail)
     go_wp2_with fail
     go_roundw
     case rel=>exact ⟨g' - 1,r+v1,by go_num,by go_num,by omega,by omega,⟨HE.out,by have:=hq.out; omega⟩,by show ∃z,_=_; exact ⟨_,rfl⟩⟩
     case measure=>simp [intOf]; omega
   ·have hgs:decide ((0:Int)<(g':Int) / 4294967296)=false:=aC ae
    have ho:=HO.out r hr
    have hT:r*4294967296+u2<18446744073709551616:=ae
    have hmul:g'*v2<18446744073709551616:=Nat.mul_lt_mul'' (show g'<4294967296 by omega) aca
    have Bt:=HG.out.mend g' r HI.out.1
    have hs0:=HG.out.stop g' r HI.out.1 HI.out.2 ae
    have HM:=Lib.hid (And.intro Bt hs0)
    clear Bt hs0
    generalize r*4294967296+u2=T at*
    have hpr:IntKind.u64.wrap ((g':Int)*(v2:Int))=((g'*v2:Nat):Int):=by rw [<- eX,IntKind.wrap_u64]; omega
    have Ep:g'=0->g'*v2=0:=by rintro rfl; simp
    generalize g'*v2=G at*
    by_cases ht:T<G
    ·have OE:0<g':=by
      rcases bu g' with h | h
      ·have:=Ep h; omega
      ·exact h
     have hti:decide (T<G)=true:=a8 ht
     have hq:=Lib.hid (HM.out.1 ht)
     have HE:=Lib.hid (show (g' - 1)*v1+(r+v1)=H by
      obtain ⟨p,rfl⟩:∃p,g'=p+1:=⟨g' - 1,by omega⟩
      have:=HI.out.1
      rw [cG] at this
      rw [ic]; omega)
     clear hmul Ep
     by_cases Ro:4294967296<=r+v1
     ·go_wp2_with fail
      go_quiet (fail)
      clear hgs hT
      go_wp2_with fail
      go_meet
      case rel=>
       have h1:=HG.out.digit _ _ HE.out Ro
       have h2:=HG.out.stop _ _ HE.out (by have:=hq.out; omega) h1 (yX 4294967296 v2 u2 _ _ h1 aca Ro)
       exact ⟨g' - 1,by go_num,h1,h2,_,rfl⟩
     ·go_wp2_with fail
      go_quiet (fail)
      clear hgs hT
      go_wp2_with fail
      go_roundw
      case rel=>exact ⟨g' - 1,r+v1,by go_num,by go_num,by omega,by omega,⟨HE.out,by have:=hq.out; omega⟩,by show ∃z,_=_; exact ⟨_,rfl⟩⟩
      case measure=>simp [intOf]; omega
    ·have hti:decide (T<G)=false:=aC ht
     have h2:=Lib.hid (HM.out.2 ae)
     clear hmul Ep
     go_wp2_with fail
     go_quiet (fail)
     clear hgs hT
     go_wp2_with fail
     go_meet
     case rel=>exact ⟨g',rfl,by omega,h2.out,by show ∃z,_=_; simp only [World.drewN_drewN]; exact ⟨_,rfl⟩⟩
 case rest=>
  obtain ⟨g',rfl,hg,HQ,HZ⟩:=hcut
  obtain ⟨z,rfl⟩:=HZ.out
  have hWV:=Wh.out
  clear HZ HQ0 HQ1 HQ2 hor HO zG vW vK LW JO
  go_wp2_with fail
  refine (Rj (w:=w.drewN z) (HL.out.keep I) HK.out.1 HK.out.2 hc (by unfold maxLen; exact hkc) HWL.out (HV.out.below (sJ w z)) HAA.out ae hg).mono ?_
  rintro e w1 ⟨Gt,aaB,mJ,ahr,hL1,hE1⟩
  rw [<- hWV.1,<- hWV.2] at aaB
  clear hWV
  have HL1:=Lib.hid hL1
  have HE1:=Lib.hid (show yh g w w1 from ((yh.refl g w).drewN z).trans hE1)
  have HO1:=Lib.hid (And.intro mJ ahr)
  clear hL1 hE1 mJ ahr
  rcases aaB with ⟨hle,rfl,xD⟩ | ⟨hle,rfl,xD⟩
  ·have HR:=Lib.hid (W6 HQ.out HG.out.pos xD)
   have acd:=Lib.hid hle
   clear hle xD
   go_wp2
   rw [Exit.noGoto_ret]
   go_ret
   have h:=HR.out
   exact ⟨Gt,by rw [<- Wh.out.1,<- Wh.out.2,<- h.1]; rfl,HO1.out.1,HO1.out.2,by rw [<- Wh.out.1,<- Wh.out.2]; exact h.2,HL1.out,HE1.out⟩
  ·have acd:=Lib.hid (And.intro hle xD)
   have OE:0<g':=by
    rcases bu g' with h | h
    ·subst h; simp at hle
    ·exact h
   clear hle xD
   go_wp2_with fail
   go_loopw [9,89] (fun cy ix wr=>∃(i cc:Nat) (os:List Nat),i<=m+3/\ix=.int .i64 i/\cy=.int .u64 cc/\cc<=1/\
    Hid (os.length=m+3/\dZ 4294967296 os/\(∀j,i<=j->os.getD j 0=Gt.getD j 0)/\val 4294967296 (os.take i)+4294967296 ^ i*cc=val 4294967296 (Gt.take i)+val 4294967296 (vs.take i))/\
    Hid (vd wr g (pre++os++post))/\Hid (yh g w wr)) (fun _ ix _=>m+3 - (intOf ix).toNat)
   case atStart=>exact ⟨0,0,Gt,av _,rfl,rfl,by omega,⟨HO1.out.1,HO1.out.2,fun _ _=>rfl,by simp⟩,HL1.out,HE1.out⟩
   case round=>
    obtain ⟨i,cc,os,hi,rfl,rfl,QG,HI,HR,HW⟩:=hrel
    by_cases fh:i<m+3
    ·have W8:i<os.length:=by rw [HI.out.1]; exact fh
     have Qb:wr.cell? ⟨g,k+i,none⟩=some (.int .u32 ((Gt.getD i 0:Nat):Int)):=by
      rw [HR.out.cell (k+i) (by rw [ai,ai,HK.out.1]; omega),vc pre os post k i HK.out.1 W8,HI.out.2.2.1 i (ar _)]
     have hfo:=HR.out.frozen (k+i)
     have ri:=HO1.out.2.get ae i
     have σ:=Ba 4294967296 Gt vs os i cc W8 HI.out.2.2.2
     clear W8
     by_cases yi:i<m+2
     ·obtain ⟨b3,auG,e3,auH,mx⟩:=(HW.out.u32 HV.out HAA.out).cells ae
      cases e3
      have V':=mx i yi
      have zF:=HV.out.lt.get ae i
      have HS:=Lib.hid σ
      clear mx σ
      generalize Gt.getD i 0=x at*
      generalize vs.getD i 0=y at*
      go_wp2
      go_roundw
      case rel=>
       have h3:=HI.out
       exact ⟨i+1,(cc+x+y) / 4294967296,os.set i ((cc+x+y)%4294967296),by omega,by go_num,int_eq ae,by omega,⟨by rw [aP]; exact h3.1,h3.2.1.set i ae,fun j hj=>by rw [pn ae]; exact h3.2.2.1 j ae,HS.out⟩,by rw [<- zY pre os post k i _ HK.out.1 (by rw [h3.1]; exact fh)]; exact HR.out.tJ _ _ _ ae,HW.out.set rfl _⟩
      case measure=>simp [intOf]; omega
     ·rw [qj (xs:=vs) (by rw [HV.out.len]; omega),dr] at σ
      have HS:=Lib.hid σ
      clear σ
      generalize Gt.getD i 0=x at*
      go_wp2
      go_roundw
      case rel=>
       have h3:=HI.out
       exact ⟨i+1,(cc+x) / 4294967296,os.set i ((cc+x)%4294967296),by omega,by go_num,int_eq ae,by omega,⟨by rw [aP]; exact h3.1,h3.2.1.set i ae,fun j hj=>by rw [pn ae]; exact h3.2.2.1 j ae,HS.out⟩,by rw [<- zY pre os post k i _ HK.out.1 (by rw [h3.1]; exact fh)]; exact HR.out.tJ _ _ _ ae,HW.out.set rfl _⟩
      case measure=>simp [intOf]; omega
    ·have h3:=HI.out
     obtain rfl:i=m+3:=ae
     have h4:=h3.2.2.2
     have h5:=oQ h3.2.1
     rw [ax (by rw [h3.1]; exact ar _),ax (by rw [HO1.out.1]; exact ar _),ax (by rw [HV.out.len]; omega),<- Wh.out.2] at h4
     rw [h3.1] at h5
     have HF:=Lib.hid (And.intro h3.1 (And.intro h3.2.1 (OB HQ.out HG.out.pos acd.out.1 acd.out.2 h4 h5 QG)))
     clear h3 h4 h5 HI
     go_wp2
     rw [Exit.noGoto_ret]
     go_ret
     have h:=HF.out
     refine ⟨os,?_,h.1,h.2.1,by rw [<- Wh.out.1,<- Wh.out.2]; exact h.2.2.2,HR.out,HW.out⟩
     rw [<- Wh.out.1,<- Wh.out.2,<- h.2.2.1]
     exact aq (fun z=>Ending.returned (.int .u32 z)) ae
end Go.Proofs.YtgopcdagnicekaaGreatDoor
