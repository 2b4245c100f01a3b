/- Package exact, over rows. Printed by pv/gen_w5.py. No condition. -/
import Derived.Test.YtgopcdagnicekaaGreatDoorM47
import Derived.Test.YtgopcdagnicekaaGreatDoorM49
import Derived.Test.YtgopcdagnicekaaGreatDoorCards
import Derived.Test.YtgopcdagnicekaaGreatDoorTie
import Derived.LaidMore
set_option linter.all false
open Go.Proofs.Tryz
set_option maxRecDepth 100000
set_option maxHeartbeats 4000000
namespace Go.Proofs.YtgopcdagnicekaaGreatDoor.W
open Go.RowKit Anv Go.Lib
variable {A0 M A p A1 B A2 q Ar:Option Addr} {n0 c0 d m n c r c1 i g n1 nn C k b E T c2 j n2 kk gU cm te yt gM cr gm N:Nat} {es0 jU l:List Pt} {xs es1 ys os:List Int} {w0 w w' w1:World} {z:Rw} {x op tr zI yj cn y t k1 k2 ra rb:Int} {vs us:List LE} {R R' G:List Rw} {es:List NE} {v:LE} {ps:List PF} {e:IE} {o o':PF} {f:FuncId} {first caps:Array Value}
theorem CR {es0:List NE} {m:Int} (h0:(pf A0 n0 c0 es0).P w0) (mZ:es0.map zz=xs) (hM:iY w0 M d m) (hm:zl m<=100) (hk:Zk 90000 xs) (hn:n0<=100000000):
  Calls prog 198 #[.slice A0 n0 c0,.agg #[.bool (neg m),.slice M (zl m) d]] w0 fun e w'=>∃v,e=.returned v/\tP w0.heap.size w' v n0 (xs.map (m*·))/\Below w0.heap.size w0 w':=by
 have hzb:=hk.es mZ
 subst mZ
 refine enter func198 I ntmps198 I ?_
 intro a η σ
 replace σ:=σ.j8 hM trivial
 have cQ:=h0.2.1
 have eN:=aD h0.1.cap h0.1.big
 unfold maxLen at eN
 replace σ:=σ.aY h0
 clear h0
 refine wp_seq (aI ?_)
 refine aS I (ns (c:=#[.bool (neg m),.slice M (zl m) d]) η σ I I I ?_)
 clear η σ a; intro a Wo de η σ
 refine sv (v:=bM) η I (cf η I) ?_
 clear η a; intro a η
 refine wpList_nil (b5 (wp_seq (aI ?_)))
 revert a
 refine mA I I ?_
 refine sA (v:=.agg #[.bool (neg m),.slice M (zl m) d]) I (fun _ η=>jz η az I σ.gq I) ?_
 refine sA (v:=.func (.func 97) #[.agg #[.bool (neg m),.slice M (zl m) d]] #[]) I (fun _ η=>fi (us:=#[.agg #[.bool (neg m),.slice M (zl m) d]]) (vs:=#[]) η I I) ?_
 intro a η
 refine aS I (gG η I call226 I (Hf (E:=(DJ M d m)) (g:=(m*·)) (first:=#[.agg #[.bool (neg m),.slice M (zl m) d]]) (caps:=#[]) σ.bW σ.dw call97 (fun _ _ _ _ _ q1 q2 hx=>rZ fW (LV (show iY _ M d m from q2) hx ae (by have:=hzb.at q1; omega))) hn) ?_)
 rintro e w59 ⟨_,rfl,⟨si,rk,zT,rfl,hr,Cy,Lu⟩,hb⟩
 refine ⟨_,I,?_⟩
 clear η a; intro a η
 replace σ:=σ.pM hb hr (oU hr.2.1 ⟨bX,⟨bV I,trivial⟩⟩)
 clear hr
 clear hb
 refine sv (v:=.slice si n0 rk) η I (cf η I) ?_
 clear η a; intro a η
 refine wpList_nil (b5 (wp_ret ?_))
 refine leave η (iJ results198 (RV.tmp η I)) ?_
 exact ⟨_,I,⟨_,_,_,I,σ.newRow (k:=0) (j:=0) I I,Cy,Lu⟩,σ.below⟩
theorem U9 (h:n<=64):zl ((1:Int)*2 ^ n)<=3:=by
 rw [eZ]
 refine gC ?_
 rw [kx]
 exact fa (bS aB h) aB
theorem NV {z:Int} (h:-512<=z/\z<=512):zl z<=2:=gC ae
theorem afk:zl 1<=1:=gC aB
theorem afl (n:Nat):(1:Int)*2 ^ n≠0:=by rw [eZ]; exact Int.ne_of_gt (Int.pow_pos aB)
theorem NW {c:Int} {x:Rw} (h:y7 c x=true):EN c x:=fun z hz=>aN (bp.1 h z hz)
theorem I' (h:vs.map lz=R) (he:vs[r]?=some (A,n,c,es)):es.map zz=kh R ((r:Nat):Int):=by
 have:R[r]?=some (es.map zz):=by rw [<- h,ay,he]; rfl
 unfold kh
 rw [aj,ed,this]; rfl
theorem CS (m:Int) (x:Rw):x.map (m*·)=x.map fun v=>v*m:=cZ fun v _=>bZ m v
theorem sy {p:Bool} {a:Rw} (h:(if p=true then some a else none)=some z):p=true/\a=z:=by
 split at h
 ·exact ⟨by assumption,aW h⟩
 ·cases h
theorem afm {es0 es1:List NE} (h0:(pf A0 n0 c0 es0).P w0) (mZ:es0.map zz=xs) (h1:(pf A1 n0 c1 es1).P w0) (po:es1.map zz=ys) (JY:Zk 90000 xs) (zL:Zk 90000 ys) (hn:n0<=100000000):
  Calls prog 194 #[.slice A0 n0 c0,.slice A1 n0 c1] w0 fun e w'=>∃v,e=.returned v/\tP w0.heap.size w' v n0 (List.zipWith (·+·) xs ys)/\Below w0.heap.size w0 w':=by
 refine gQ func194 I ntmps194 I fun σ=>?_
 have cQ:=h0.2.1
 replace σ:=σ.aY h1
 replace σ:=σ.aY h0
 refine eE I<|fk call195 (UR σ.bW mZ σ.dw po (JY.mono aB) (zL.mono aB) hn) I ?_
 rintro _ _ ⟨_,rfl,⟨A51,c52,ajK,rfl,U',zO,uU⟩,hb⟩
 refine ⟨_,I,?_⟩
 replace σ:=σ.pM hb U' (oU U'.2.1 ⟨bX,trivial⟩)
 exact o1 results194 I<|⟨_,I,⟨_,_,_,I,σ.newRow (k:=0) (j:=0) I I,zO,uU⟩,σ.below⟩
theorem afn {es0 es1:List NE} (h0:(pf A0 n0 c0 es0).P w0) (mZ:es0.map zz=xs) (h1:(pf A1 n0 c1 es1).P w0) (po:es1.map zz=ys) (JY:Zk 90000 xs) (zL:Zk 90000 ys) (hn:n0<=100000000):
  Calls prog 196 #[.slice A0 n0 c0,.slice A1 n0 c1] w0 fun e w'=>∃v,e=.returned v/\tP w0.heap.size w' v n0 (List.zipWith (· - ·) xs ys)/\Below w0.heap.size w0 w':=by
 refine gQ func196 I ntmps196 I fun σ=>?_
 have cQ:=h0.2.1
 replace σ:=σ.aY h1
 replace σ:=σ.aY h0
 refine eE I<|fk call197 (US σ.bW mZ σ.dw po (JY.mono aB) (zL.mono aB) hn) I ?_
 rintro _ _ ⟨_,rfl,⟨A51,c52,ajK,rfl,U',zO,uU⟩,hb⟩
 refine ⟨_,I,?_⟩
 replace σ:=σ.pM hb U' (oU U'.2.1 ⟨bX,trivial⟩)
 exact o1 results196 I<|⟨_,I,⟨_,_,_,I,σ.newRow (k:=0) (j:=0) I I,zO,uU⟩,σ.below⟩
theorem NY {es0:List NE} {m:Int} (h0:(pf A0 n0 c0 es0).P w0) (mZ:es0.map zz=xs) (hM:iY w0 M d m) (hm:zl m<=100000) (Bt:m≠0) (JY:Zk 90000 xs) (hn:n0<=100000000) (hdiv:EN m xs):
  Calls prog 199 #[.slice A0 n0 c0,.agg #[.bool (neg m),.slice M (zl m) d]] w0 fun e w'=>∃v,e=.returned (.tuple #[v,.bool true])/\tP w0.heap.size w' v n0 (xs.map (· / m))/\Below w0.heap.size w0 w':=by
 refine gQ func199 I ntmps199 I fun σ=>?_
 replace σ:=σ.aY h0
 replace σ:=σ.j8 hM trivial
 refine eE I<|ll σ I fun _ de σ=>gE 0 σ I<|eE I<|fk call200 (UN σ.dw mZ (show iY _ M d m from σ.bW) hm Bt (JY.mono aB) hn) I ?_
 rintro _ _ ⟨(⟨Wn,_,rfl,⟨zk,wW,Va,rfl,PN,Cy,Lu⟩⟩|⟨v7,_⟩),hb⟩
 ·refine ⟨_,I,?_⟩
  replace σ:=σ.pM hb PN (oU PN.2.1 ⟨bX,bV I,trivial⟩)
  exact gj I<|kB (b':=true) I<|o2 results199 I<|⟨_,I,⟨_,_,_,I,σ.newRow (k:=0) (j:=0) I I,Cy,Lu⟩,σ.below⟩
 ·exact absurd hdiv v7
theorem Ja (hn:n<=64):
  Calls prog 225 #[aM n] w0 fun e w'=>∃v,e=.returned v/\sL w' v (1*2 ^ n)/\Below w0.heap.size w0 w':=by
 refine gQ func225 I ntmps225 I fun σ=>eE I<|iR bA σ I fun _ de σ=>eE I<|fk call18 (Bi ae ae) I ?_
 rintro _ _ ⟨_,rfl,⟨zk,wW,rfl,afo⟩,hb⟩
 refine ⟨_,I,?_⟩
 replace σ:=(σ.call hb).j8 afo ⟨bV I,trivial⟩
 refine eE I<|fk call58 (NU (show iY _ zk wW 1 from σ.bW) (aD afk aB) ae) I ?_
 rintro _ _ ⟨_,rfl,⟨A55,c56,rfl,Lu⟩,hb⟩
 refine ⟨_,I,?_⟩
 replace σ:=(σ.call hb).j8 Lu ⟨bV I,trivial⟩
 exact eE I<|iR bA σ I fun _ qt σ=>eE I<|fB 0 σ I fun _ σ=>gE 0 σ I<|eE I<|fB 1 σ I fun _ σ=>oR (fun e=>iJ results225 (RV.cell e az I σ.vN I))<|⟨_,I,⟨A55,c56,I,σ.bW⟩,σ.below⟩
theorem Vb {es0:List IE} (h0:(fC A0 n0 c0 es0).P w0) (h1:(fg A1 n1 c1 es1).P w0) (dy:mv (i:Nat) (g:Nat) n0 n1 es0 es1):
  Calls prog 191 #[.agg (lN i g A0 n0 c0 A1 n1 c1),aM i] w0 fun e w'=>e=.returned (aG 0)/\Below w0.heap.size w0 w':=by
 refine gQ func191 I ntmps191 I fun σ=>?_
 have cQ:=h0.2.1
 have lu:=h0.1.cap
 have eN:=h0.1.big
 unfold maxLen at eN
 have iI:=h1.2.1
 have oI:=h1.1.cap
 have jB:=h1.1.big
 unfold maxLen at jB
 replace σ:=σ.aY h0
 replace σ:=σ.aY h1
 exact eE I<|ll σ I fun _ de σ=>gE 0 σ I<|eE I<|gV call41 (kR σ.dw σ.bW dy) σ I fun _ σ=>lK I<|kB (b':=false) I<|iF I I<|lE 0 σ I<|lK I<|kB (b':=false) (Ds I)<|iF I I<|o1 results191 I<|⟨I,σ.below⟩
theorem Zw:
  Calls prog 159 #[] w0 fun e w'=>e=.returned (.agg #[.func (.func 193) #[] #[],.func (.func 194) #[] #[],.func (.func 196) #[] #[],.func (.func 198) #[] #[],.func (.func 199) #[] #[]])/\Below w0.heap.size w0 w':=by
 exact gQ func159 I ntmps159 I fun σ=>eE I<|iR mo σ I fun _ de σ=>vE I (fun η=>eV mV η I I)<|eE I<|fB 0 σ I fun _ σ=>oR (fun e=>iJ results159 (RV.cell e mQ I σ.gq I))<|⟨I,σ.below⟩
theorem ajY (h0:(Gw A0 g c0 vs).P w0) (qw:vs.map lz=R) (hM:gl (op,tr,zI,yj,cn) g) (AV:∀v∈vs,v.2.1=nn) (hn:nn<=10000) (hg:g<=200) (hZ:∀v∈vs,Zk 90000 (lz v)) (hs:px op cn (kh R zI) (kh R yj)=some z):
  Calls prog 192 #[.agg #[.func (.func 193) #[] #[],.func (.func 194) #[] #[],.func (.func 196) #[] #[],.func (.func 198) #[] #[],.func (.func 199) #[] #[]],.slice A0 g c0,.agg #[aG op,aG tr,aG zI,aG yj,aG cn]] w0 fun e w'=>∃v:LE,e=.returned (.tuple #[.slice v.1 v.2.1 v.2.2.1,.bool true])/\lz v=z/\(v∈vs∨∀a,v.1=some a->w0.heap.size<=a.block)/\(FL v).P w'/\Below w0.heap.size w0 w':=by
 refine gQ func192 I ntmps192 I fun σ=>?_
 have zt:=hM
 unfold gl at zt
 dsimp only at zt
 obtain ⟨ra,rfl⟩:=aU (show 0<=zI by omega)
 obtain ⟨rb,rfl⟩:=aU (show 0<=yj by by_cases q:op=3∨op=4<;>omega)
 have W5:rb<g:=by by_cases q:op=3∨op=4<;>omega
 have hlen:=h0.2.1
 replace σ:=σ.aY h0
 obtain ⟨⟨Aa,na,ca,ea⟩,su⟩:∃e,vs[ra]?=some e:=⟨_,ag ae⟩
 replace σ:=σ.elem (k:=0) I su
 replace σ:St w0 _ [] [pf Aa na ca ea,Gw A0 g c0 vs]:=σ
 obtain ⟨⟨Ab,nb,cb,eb⟩,BO⟩:∃e,vs[rb]?=some e:=⟨_,ag ae⟩
 replace σ:=σ.elem (k:=1) I BO
 have hna:=AV _ (ah su)
 obtain rfl:na=nb:=hna.trans (AV _ (ah BO)).symm
 dsimp only at hna
 rw [<- I' qw su,<- I' qw BO] at hs
 refine eE I<|ll σ I fun _ de σ=>eE I<|ll σ I fun _ eQ σ=>lj [] [0,4,9,12,17,20,24,29,32,37,40,44] bI σ fun _ σ=>lS 0 I<|vE I (fun η=>aX (i:=ra) η underlying131 (bF.size) I I ae I σ.fX.1)<|sE I (fun η hg=>bE (i:=ra) (j:=0) (e:=(Aa,na,ca,ea)) η bF I I lM aB (hg.pt (j:=2) I).1 ae su I)<|lS 0 I<|vE I (fun η=>aX (i:=rb) η underlying131 (bF.size) I I ae I σ.fX.1)<|sE I (fun η hg=>bE (i:=rb) (j:=0) (e:=(Ab,na,cb,eb)) η bF I I lM aB (hg.pt (j:=2) I).1 ae BO I)<|lE 0 σ I<|gj I<|wQ (fun oL=>?_) fun oL=>?_
 ·obtain rfl:op=2:=oL
  obtain rfl:=aW (show some (ea.map zz |>.map fun v=>-v)=some z from hs)
  refine iT I I<|lE 1 σ I<|eE I<|sH call193 I (Zb σ.dw I ae) I ?_
  rintro _ _ ⟨_,rfl,⟨xe,uL,PO,rfl,Lv,Dr,Vc⟩,hb⟩
  refine ⟨_,I,?_⟩
  have Vd:=fun a (ha:xe=some a)=>aD σ.below.size (Lv.2.2 a ha)
  replace σ:=σ.mB hb Lv Dr (oU Lv.2.1 ⟨bV I,bV I,trivial⟩)
  exact o2 results192 I<|⟨(xe,na,uL,PO),I,Vc,.inr Vd,σ.bW,σ.below⟩
 ·refine iF I I<|gj I<|wQ (fun wh=>?_) fun wh=>?_
  ·obtain rfl:op=3:=wh
   obtain rfl:=aW (show some (List.zipWith (fun a b=>a+b) (ea.map zz) (eb.map zz))=some z from hs)
   refine iT I I<|lE 1 σ I<|eE I<|sH call194 I (afm σ.dw I σ.bW I (hZ _ (ah su)) (hZ _ (ah BO)) ae) I ?_
   rintro _ _ ⟨_,rfl,⟨A61,c62,apQ,rfl,afp,Tw,apR⟩,hb⟩
   refine ⟨_,I,?_⟩
   have aj0:=fun a (ha:A61=some a)=>aD σ.below.size (afp.2.2 a ha)
   replace σ:=σ.mB hb afp Tw (oU afp.2.1 ⟨bV I,bV I,trivial⟩)
   exact o2 results192 I<|⟨(A61,na,c62,apQ),I,apR,.inr aj0,σ.bW,σ.below⟩
  ·refine iF I I<|gj I<|wQ (fun WH=>?_) fun WH=>?_
   ·obtain rfl:op=4:=WH
    obtain rfl:=aW (show some (List.zipWith (fun a b=>a-b) (ea.map zz) (eb.map zz))=some z from hs)
    refine iT I I<|lE 1 σ I<|eE I<|sH call196 I (afn σ.dw I σ.bW I (hZ _ (ah su)) (hZ _ (ah BO)) ae) I ?_
    rintro _ _ ⟨_,rfl,⟨A68,c69,apS,rfl,afq,TP,apT⟩,hb⟩
    refine ⟨_,I,?_⟩
    have aj1:=fun a (ha:A68=some a)=>aD σ.below.size (afq.2.2 a ha)
    replace σ:=σ.mB hb afq TP (oU afq.2.1 ⟨bV I,bV I,trivial⟩)
    exact o2 results192 I<|⟨(A68,na,c69,apS),I,apT,.inr aj1,σ.bW,σ.below⟩
   ·refine iF I I<|gj I<|wQ (fun WD=>?_) fun WD=>?_
    ·obtain rfl:op=5:=WD
     obtain rfl:=aW (show some ((ea.map zz).map fun v=>v*cn)=some z from hs)
     refine iT I I<|lj [] [0,5,8,12,17,22,26,28,32] bI σ fun _ σ=>lS 1 I<|lS 0 I<|eS I<|fk call18 (Bi (n:=cn) ae ae) I ?_
     rintro _ _ ⟨_,rfl,⟨A75,c76,rfl,apU⟩,hb⟩
     refine ⟨_,I,?_⟩
     replace σ:=(σ.call hb).j8 apU ⟨bV I,bV I,trivial⟩
     refine sk (σ.kd 0 1)<|eS I<|sH call198 I (CR σ.fX I (show iY _ A75 c76 cn from σ.bW) (aD (NV ae) aB) (hZ _ (ah su)) ae) I ?_
     rintro _ _ ⟨_,rfl,⟨A78,c79,apV,rfl,afr,wY,apW⟩,hb⟩
     refine ⟨_,I,?_⟩
     have aj2:=fun a (ha:A78=some a)=>aD σ.below.size (afr.2.2 a ha)
     replace σ:=σ.mB hb afr wY (oU afr.2.1 ⟨bV I,bV I,trivial⟩)
     exact sk (σ.kd 0 2)<|o2 results192 I<|⟨(A78,na,c79,apV),I,(apW.trans (CS _ _)),.inr aj2,σ.bW,σ.below⟩
    ·refine iF I I<|gj I<|wQ (fun h84=>?_) fun h84=>?_
     ·obtain rfl:op=7:=h84
      obtain ⟨cm,rfl⟩:=aU (show 0<=cn by omega)
      have KA:1<=cm/\cm<=64:=ae
      obtain rfl:=aW (show some ((ea.map zz).map fun v=>v*2 ^ cm)=some z from hs)
      refine iT I I<|lj [] [0,5,8,12,17,22,26,28,32] bI σ fun _ σ=>lS 1 I<|lS 0 I<|eS I<|fk call225 (Ja (n:=cm) ae) I ?_
      rintro _ _ ⟨_,rfl,⟨A85,c86,rfl,apX⟩,hb⟩
      refine ⟨_,I,?_⟩
      replace σ:=(σ.call hb).j8 apX ⟨bV I,bV I,trivial⟩
      refine sk (σ.kd 0 1)<|eS I<|sH call198 I (CR σ.fX I (show iY _ A85 c86 (1*2 ^ cm) from σ.bW) (aD (U9 ae) aB) (hZ _ (ah su)) ae) I ?_
      rintro _ _ ⟨_,rfl,⟨A88,c89,apY,rfl,afs,yN,apZ⟩,hb⟩
      refine ⟨_,I,?_⟩
      have aj3:=fun a (ha:A88=some a)=>aD σ.below.size (afs.2.2 a ha)
      replace σ:=σ.mB hb afs yN (oU afs.2.1 ⟨bV I,bV I,trivial⟩)
      exact sk (σ.kd 0 2)<|o2 results192 I<|⟨(A88,na,c89,apY),I,(apZ.trans ((CS _ _).trans (by rw [eZ]))),.inr aj3,σ.bW,σ.below⟩
     ·refine iF I I<|gj I<|wQ (fun h94=>?_) fun h94=>?_
      ·obtain rfl:op=6:=h94
       obtain ⟨hd9,rfl⟩:=sy (show (if y7 cn (ea.map zz)=true then some ((ea.map zz).map fun v=>v / cn) else none)=some z from hs)
       have Wn:=NW hd9
       refine iT I I<|lj [] [0,5,8,12,17,22,26,28,32,36,40] bI σ fun _ σ=>lS 1 I<|lS 0 I<|eS I<|fk call18 (Bi (n:=cn) ae ae) I ?_
       rintro _ _ ⟨_,rfl,⟨A95,c96,rfl,ap1⟩,hb⟩
       refine ⟨_,I,?_⟩
       replace σ:=(σ.call hb).j8 ap1 ⟨bV I,bV I,trivial⟩
       refine sk (σ.kd 0 1)<|eS I<|sH call199 I (NY σ.fX I (show iY _ A95 c96 cn from σ.bW) (aD (NV ae) aB) ae (hZ _ (ah su)) ae Wn) I ?_
       rintro _ _ ⟨_,rfl,⟨A98,c99,aj4,rfl,Ve,aj5,aj6⟩,hb⟩
       refine ⟨_,I,?_⟩
       have aj7:=fun a (ha:A98=some a)=>aD σ.below.size (Ve.2.2 a ha)
       replace σ:=σ.mB hb Ve aj5 (oU Ve.2.1 ⟨bV I,bV I,trivial⟩)
       exact sk (σ.kd 0 2)<|o2 results192 I<|⟨(A98,na,c99,aj4),I,aj6,.inr aj7,σ.bW,σ.below⟩
      ·refine iF I I<|gj I<|wQ (fun aj8=>?_) fun aj8=>?_
       ·obtain rfl:op=8:=aj8
        obtain ⟨cm,rfl⟩:=aU (show 0<=cn by omega)
        have KA:1<=cm/\cm<=64:=ae
        obtain ⟨hd9,rfl⟩:=sy (show (if y7 (2 ^ cm) (ea.map zz)=true then some ((ea.map zz).map fun v=>v / 2 ^ cm) else none)=some z from hs)
        have Wn:EN (1*2 ^ cm) (ea.map zz):=by rw [eZ]; exact NW hd9
        refine iT I I<|lj [] [0,5,8,12,17,22,26,28,32,36,40] bI σ fun _ σ=>lS 1 I<|lS 0 I<|eS I<|fk call225 (Ja (n:=cm) ae) I ?_
        rintro _ _ ⟨_,rfl,⟨ap2,ap3,rfl,aj9⟩,hb⟩
        refine ⟨_,I,?_⟩
        replace σ:=(σ.call hb).j8 aj9 ⟨bV I,bV I,trivial⟩
        refine sk (σ.kd 0 1)<|eS I<|sH call199 I (NY σ.fX I (show iY _ ap2 ap3 (1*2 ^ cm) from σ.bW) (aD (U9 ae) aB) (afl _) (hZ _ (ah su)) ae Wn) I ?_
        rintro _ _ ⟨_,rfl,⟨aj',ap4,aka,rfl,Vf,akb,akc⟩,hb⟩
        refine ⟨_,I,?_⟩
        have aft:=fun a (ha:aj'=some a)=>aD σ.below.size (Vf.2.2 a ha)
        replace σ:=σ.mB hb Vf akb (oU Vf.2.1 ⟨bV I,bV I,trivial⟩)
        exact sk (σ.kd 0 2)<|o2 results192 I<|⟨(aj',na,ap4,aka),I,(akc.trans (by rw [eZ])),.inr aft,σ.bW,σ.below⟩
       ·refine iF I I<|o2 results192 I<|?_
        obtain rfl:op=1:=ae
        obtain rfl:=aW (show some (ea.map zz)=some z from hs)
        exact ⟨(Aa,na,ca,ea),I,I,.inl (ah su),σ.dw,σ.below⟩
def CT (B:Nat) (vs us:List LE):Prop:=∀v∈us,v∈vs∨∀a,v.1=some a->B<=a.block
theorem CT.ap5 (B:Nat) (vs:List LE):CT B vs vs:=fun _ h=>.inl h
theorem CT.step {B:Nat} (h:CT B vs us) (hBC:B<=C) (hv:v∈us∨∀a,v.1=some a->C<=a.block):CT B vs (us.set k v):=fun u hu=>by
 rcases dz hu with q | q
 ·exact h u q
 ·subst q
  rcases hv with q | q
  ·exact h u q
  ·exact .inr fun a ha=>aD hBC (q a ha)
theorem CT.new {B:Nat} (h:CT B vs us) (hv:lO C vs) (hBC:C<=B):lO C us:=fun v hv2 a ha=>by
 rcases h v hv2 with q | q
 ·exact hv v q a ha
 ·exact aD hBC (q a ha)
theorem St.abI {own:List PF} (h:St w0 w own ps) (hb:Below w.heap.size w w') (hk:ps[k]?=some (dW FL vs)) (hv:v∈vs∨∀a,v.1=some a->w.heap.size<=a.block) (hF:(FL v).P w') (hn:tO own):St w0 w' own (FL v::ps):=by
 have h3:=h.call hb
 refine h3.l9 _ hF fun o ho b h1 hf=>?_
 rcases hv with q | q
 ·exact h3.apart _ (ah hk) o ho b h1 ⟨v,q,hf⟩
 ·rcases hf with ⟨_,off,e⟩ | hf
  ·have:=q _ e
   have h2:=o.lt (h.mine o ho) h1
   exact absurd this (Nat.not_le.2 h2)
  ·exact oU hF.2.2 hn o ho b h1 (h3.mine o ho) hf
theorem St.akd {α:Type} {f:α->List Value} {F:α->PF} {z:Nat} {es:List α} {own:List PF} (h:St w0 w own ps) (hk:ps[k]?=some (bH f F z A n c es)):St w0 w own (dW F es::ps):=
 h.l9 _ (h.pat hk).2.2 fun o ho b h1 h2=>h.apart _ (ah hk) o ho b h1 (.inr h2)
theorem St.ake {own:List PF} (h:St w0 w own ps) (n:Nat):St w0 w own (dW FL (List.replicate n ((none,0,0,[]):LE))::ps):=
 h.l9 _ (fun e he=>by rw [ei he]; exact L' fN FN 2 w) fun o ho b h1 ⟨e,he,hf⟩=>by
  rw [ei he] at hf
  rcases hf with ⟨h0,_⟩ | ⟨x,hx,_⟩
  ·exact absurd h0 (Nat.lt_irrefl _)
  ·cases hx
theorem zx (h:(dW FL vs).P w) (hR:∀r∈R,r.length=nn) (qw:vs.map lz=R):∀v∈vs,v.2.1=nn:=fun v hv=>by
 have h1:=(h v hv).2.1
 have h2:=hR (lz v) (qw ▸ fK hv)
 unfold lz at h2
 rw [aw] at h2
 exact h1.symm.trans h2
theorem abJ (h:rj b R) (hb:b<=2880000) (qw:vs.map lz=R):∀v∈vs,Zk 90000 (lz v):=fun v hv x hx=>Lp (h _ (qw ▸ fK hv) x hx) hb
theorem Jb {es:List IE} (h:exe R (es.drop k)=some R') (he:es[k]?=some e):∃z,px e.1 e.2.2.2.2 (kh R e.2.2.1) (kh R e.2.2.2.1)=some z/\qf R e=some (R.set e.2.1.toNat z)/\exe (R.set e.2.1.toNat z) (es.drop (k+1))=some R':=by
 rw [oA he,lH] at h
 unfold qf at h ⊢
 cases hr:px e.1 e.2.2.2.2 (kh R e.2.2.1) (kh R e.2.2.2.1) with
 | none=>rw [hr] at h; cases h
 | some z=>rw [hr] at h; exact ⟨z,rfl,rfl,h⟩
theorem uV (h:(fc dD E 1 A n c (fl fL vs)).P w) (hl:vs.length=n) (hE:(dW FL vs).P w):(Gw A n c vs).P w:=⟨aZ h,hl,hE⟩
section
variable {P:Program} {X:Cx P} {w w0:World} {own ps:List PF} {d:Nat} {l:List (Nat×Value)} {C:World->List (Nat×Value)->Prop}
theorem cpE {α:Type} {f:α->List Value} {T2 d2 z:Nat} {x y:Operand} {es jU:List α} (j:Nat) (hs:St w0 w own ps) (hr:Rd z w B m d2 (fl f jU)) (hz:∀e,(f e).length=z) (hl:es.length=n) (mr:jU.length=m) (hq:∀e,(f e).all dD=true) (h1:∀e,∀v∈f e,v.oneCell'=true)
 (hE:∃i,P.info? E=some i/\i.size=z) (e:(Nat.blt d X.N,X.T.ty T,eB l x,eB l y,own[j]?)=(true,.sl E,some (.slice A n c),some (.slice B m d2),some (fc dD E z A n c (fl f es))))
 (h:∀w',zM own j (fc dD E z A n c (fl f (jU.take n++es.drop m))) fun nu=>St w0 w' nu ps->C w' ((d,aM (min m n))::l)):WE X w l (.call ⟨.builtin .copy,#[x,y],#[T,T2]⟩) (some d) C:=by
 have ht:=X.T.tyOk T
 simp only [cP] at e
 obtain ⟨e1,e2,e3,e4,e5⟩:=e
 rw [e2] at ht
 exact ⟨fun h0 hC=>RN h0 hs e1 ht.2 hE e3 e4 e5 hr hz hl mr hq h1 fun a' w' h' rR=>hC a' w' _ (oF _ _ _ _ (h w') rR) h'⟩
end
theorem akf (e:NE):(fN e).all dD=true:=rfl
theorem akg (e:NE):∀v∈fN e,v.oneCell'=true:=fun v hv=>by
 rcases bf.1 hv with rfl | hv
 ·rfl
 ·rw [aL.1 hv]; rfl
theorem F7 (hG:G.length<=g) (hk:k<g):(lT g n G)[k]?=some (if k<G.length then G.getD k [] else List.replicate n 0):=by
 unfold lT
 split
 ·rename_i h
  rw [bQ h,aj,ag h]; rfl
 ·rename_i h
  rw [bU ae,cK,au ae]
theorem akh (h:vs.map lz=G) (he:vs[k]?=some (A,n,c,es)):G.getD k []=es.map zz:=by
 rw [<- h,aj,ay,he]; rfl
theorem Vg {r:Rw} (h:vs.map lz=rm R k g []) (hr:R[k]?=some r) (hk:k<g) (hv:lz v=r):(vs.set k v).map lz=rm R (k+1) g []:=by
 rw [fz,h,hv]
 exact pS hr hk
theorem Vh (n:Nat):(List.replicate n ((none,0,0):NE)).map zz=List.replicate n 0:=en
theorem Zx (h:vs.map lz=R) (he:vs[r]?=some v):lz v=kh R ((r:Nat):Int):=by
 obtain ⟨A,n,c,es⟩:=v
 exact I' h he
theorem Zy {k:Int}:
  Calls prog 160 #[aG k,.slice A n c] w0 fun e w'=>e=.returned (.bool true)/\Below w0.heap.size w0 w':=by
 exact gQ func160 I ntmps160 I fun σ=>o1 results160 I<|⟨I,σ.below⟩
theorem afu {es0:List IE} (qw:vs.map lz=R) (mf:∀e∈es0,gl e g) (pK:exe R es0=some R') (GG:R.length=g/\∀r∈R,r.length=nn) (hn:nn<=10000) (hg:g<=200) (QQ:rj (b+64*0) R) (Wg:b+64*n0<=2880000)
 (hS:St w0 w1 [mc A2 g c2 vs] [dA w1 (mc A2 g c2 vs),dW FL vs,fC A0 n0 c0 es0]):
  Calls prog 158 #[.agg #[.func (.func 193) #[] #[],.func (.func 194) #[] #[],.func (.func 196) #[] #[],.func (.func 198) #[] #[],.func (.func 199) #[] #[]],.agg (lN i g A0 n0 c0 A1 n1 c1),.slice A2 g c2,.func (.func 160) #[] #[]] w1 fun e w'=>∃us,e=.returned (aG (-1))/\St w0 w' [mc A2 g c2 us] [dA w1 (mc A2 g c2 vs),dW FL us]/\us.map lz=R'/\CT w1.heap.size vs us:=by
 refine gQ func158 I ntmps158 I fun σ=>?_
 replace σ:=hS
 have cQ:=σ.fX.2.1
 have hvl:vs.length=g:=by have:=aq List.length qw; rw [aw] at this; exact this.trans GG.1
 refine eE I<|ll σ I fun _ de σ=>eE I<|ll σ I fun _ eQ σ=>Wu I<|lE 0 σ I<|ks (fun mz l w=>∃k:Nat,∃us:List LE,∃Rk:List Rw,n0 - k=mz/\l=[(16,aM k),(2,.slice A2 g c2),(3,.func (.func 160) #[] #[]),(4,cY de),(14,.slice A0 n0 c0),(15,aM n0)]/\St w0 w [mc A2 g c2 us,bk eQ (lN i g A0 n0 c0 A1 n1 c1) 28,bk de #[.func (.func 193) #[] #[],.func (.func 194) #[] #[],.func (.func 196) #[] #[],.func (.func 198) #[] #[],.func (.func 199) #[] #[]] 253] [dA w1 (mc A2 g c2 vs),dW FL us,fC A0 n0 c0 es0]/\k<=n0/\us.length=g/\us.map lz=Rk/\exe Rk (es0.drop k)=some R'/\(Rk.length=g/\∀r∈Rk,r.length=nn)/\rj (b+64*k) Rk/\CT w1.heap.size vs us) ⟨0,vs,R,I,I,σ.pick [2,0,1] [0,1,2] aB,(av _),hvl,qw,pK,GG,QQ,(CT.ap5 _ _)⟩ aT ?_
 rintro _ _ _ ⟨k,us,Rk,rfl,rfl,σ,hk,hul,qw,hrl,GG,QQ,hOL⟩
 refine il I<|wD (fun oL=>?_) fun oL=>?_
 ·have fh:k<n0:=ae
  obtain ⟨⟨op,Fz,ra,rb,cn⟩,eG⟩:∃e,es0[k]?=some e:=⟨_,ag ae⟩
  have hM:=mf _ (ah eG)
  have zt:=hM
  unfold gl at zt
  dsimp only at zt
  obtain ⟨tr,rfl⟩:=aU (show 0<=Fz by omega)
  obtain ⟨zr,PR,F8,Lw⟩:=Jb hrl eG
  dsimp only at PR F8 Lw
  rw [ed] at F8 Lw
  skip
  refine iT I I<|vE I (fun η=>aX (i:=k) η underlying25 (aF.size) I I ae I σ.fX.1)<|cE I (fun η=>cX (v:=#[aG op,aM tr,aG ra,aG rb,aG cn]) (i:=k) (e:=(op,((tr:Nat):Int),ra,rb,cn)) η aF I I lL σ.fX.1 ae eG I)<|eE I<|iR bm σ I fun _ jY σ=>eE I<|fB 0 σ I fun _ σ=>?_
  have ap7:w1.heap.size<=_:=(show (dA w1 (mc A2 g c2 vs)).P _ from σ.bW).1
  refine gE 3 σ I<|gE 0 σ I<|eE I<|fk call192 (ajY (uV σ.l8 hul σ.dw) qw hM (zx σ.dw GG.2 qw) hn hg (abJ QQ ae qw) PR) I ?_
  rintro _ _ ⟨⟨Zz,ZA,ZC,afv⟩,rfl,Vc,aki,akj,hb⟩
  refine ⟨_,I,?_⟩
  have ami:=σ.below.size
  have hnv:=akj.2.1
  replace σ:=σ.abI hb (k:=1) I aki akj ⟨bV I,bX,bV I,bV I,trivial⟩
  refine iF I I<|lE 0 σ I<|vE I (fun η=>aX (i:=tr) η underlying131 (bF.size) I I ae I (aZ σ.l8))<|eE I<|uH 1 tr (e1:=(Zz,ZA,ZC,afv)) lM σ I I ae hul fun _ σ=>?_
  replace σ:=σ.tE (e:=(Zz,ZA,ZC,afv)) (i:=2) (j:=0) I I tr
  refine eE I<|sH call160 I (Zy (k:=((k:Nat):Int)) (A:=Zz) (n:=ZA) (c:=ZC)) I ?_
  rintro _ _ ⟨rfl,hb⟩
  refine ⟨_,I,?_⟩
  replace σ:=σ.call hb
  exact iF I I<|can (j:=1) I ae<|gI ⟨k+1,(us.set tr (Zz,ZA,ZC,afv)),(Rk.set tr zr),I,I,σ.pick [1,2,3] [2,0,4] aB,ae,(by rw [aP]; exact hul),(by rw [fz,qw,Vc]),Lw,(z8 F8 hM GG.1 GG.2),(by have:=Mp F8 hM QQ; exact this.mono ae),(hOL.step ap7 aki)⟩ aT ae
 ·obtain rfl:n0=k:=ae
  rw [bo ae] at hrl
  obtain rfl:Rk=R':=aW hrl
  exact iF I I<|o1 results158 I<|⟨_,I,σ.pick [0] [0,1] aB,qw,hOL⟩
theorem F9 (hG:∀r∈G,r.length=nn) (qw:vs.map lz=G) (h:(dW FL vs).P w):∀v∈vs,v.2.1=nn:=zx h hG qw
theorem qE (hG:G.length<=g) (hn:∀r∈G,r.length=n):(lT g n G).length=g/\∀r∈lT g n G,r.length=n:=⟨mC hG,fun r hr=>by
 unfold lT at hr
 rcases aK.1 hr with h | h
 ·exact hn r h
 ·rw [ei h]; simp⟩
theorem NZ (h:rj b G):rj b (lT g n G):=fun r hr v hv=>by
 unfold lT at hr
 rcases aK.1 hr with q | q
 ·exact h r q v hv
 ·rw [ei q] at hv
  rw [ei hv]
  exact eL (by decide)
theorem Ga:∀(us:List LE) (k:Nat) (A:Option Addr) (n c:Nat) (e e':List NE),fl fL (us.set k (A,n,c,e))=fl fL (us.set k (A,n,c,e'))
 | [],_,_,_,_,_,_=>rfl
 | u::us,0,A,n,c,e,e'=>rfl
 | u::us,k+1,A,n,c,e,e'=>by
  rw [j0,j0,fl,fl,Ga us k A n c e e']
theorem St.ap8 {own:List PF} (h:St w0 w own ps) (hk:own[k]?=some o) (hj:ps[j]?=some (dW FL vs)) (h':St w0 w' [o'] [dA w o,dW FL us]) (hO:CT w.heap.size vs us) (hn:tO own):St w0 w' (own.set k o') (dW FL us::ps):=by
 have h1:=h.kL hk (o':=o') ⟨h'.below,h'.mine,h'.new,h'.nd,fun p hp=>h'.pers p (by rw [aL.1 hp]; exact aJ ..),fun p hp=>h'.apart p (by rw [aL.1 hp]; exact aJ ..)⟩
 have hE:(dW FL us).P w':=h'.pat (k:=1) rfl
 refine h1.l9 _ hE fun e he b hb hf=>?_
 rcases dz he with q | q
 ·obtain ⟨v,hv,Rp⟩:=hf
  rcases hO v hv with p | p
  ·exact h1.apart _ (ah hj) e he b hb ⟨v,p,Rp⟩
  ·rcases Rp with ⟨_,off,e2⟩ | Rp
   ·have:=p _ e2
    have h2:=e.lt (h.mine e q) hb
    exact absurd this (Nat.not_le.2 h2)
   ·exact oU (hE v hv).2.2 hn e q b hb (h1.mine e he) Rp
 ·subst q
  exact h'.apart _ (aQ _ (aJ ..)) e (aJ ..) b hb hf
theorem Ef {w:Nat} {u:LE} (h:vs.map lz=(os.map (kh R)).take w) (ho:os[w]?=some ((r:Nat):Int)) (hu:us.map lz=R) (he:us[r]?=some v) (yi:lz u=lz v):(vs++[u]).map lz=(os.map (kh R)).take (w+1):=
 vC h (by rw [ay,ho]; rfl) (yi.trans (Zx hu he))
theorem ZD {es0:List IE} (h0:(bH fJ FJ 5 A0 n0 c0 es0).P w0) (h1:(bH fI FI 1 A1 n1 c1 es1).P w0) (h2:(bH fL FL 1 A2 i c2 vs).P w0) (dy:mv (i:Nat) (g:Nat) n0 n1 es0 es1) (qw:vs.map lz=G) (hG:∀r∈G,r.length=nn) (AV:1<=nn/\nn<=4096):
  Calls prog 157 #[.agg #[.int .i64 (i:Nat),.int .i64 (g:Nat),.slice A0 n0 c0,.slice A1 n1 c1],.slice A2 i c2] w0 fun e w'=>∃A c vs,e=.returned (.tuple #[.slice A g c,.int .i64 0])/\St w0 w' [fc dD 43 1 A g c (fl fL vs)] [dW FL vs]/\lO w0.heap.size vs/\vs.map lz=lT g nn G:=by
 refine gQ func157 rfl ntmps157 rfl fun σ=>?_
 have cQ:=h0.2.1
 have lu:=h0.1.cap
 have eN:=h0.1.big
 unfold maxLen at eN
 have iI:=h1.2.1
 have oI:=h1.1.cap
 have jB:=h1.1.big
 unfold maxLen at jB
 replace σ:=σ.aY h0
 replace σ:=σ.aY h1
 clear h0 h1
 have q1:=dy.i1
 have rD:=h2.2.1
 have GD:G.length=i:=by rw [<- qw,aw]; exact rD
 replace σ:=σ.aY h2
 obtain ⟨⟨A9,n9,c9,e9⟩,zE⟩:∃e,vs[0]?=some e:=⟨_,ag (by omega)⟩
 replace σ:=σ.elem (k:=0) rfl zE
 replace σ:St w0 _ [] [bH fN FN 2 A9 n9 c9 e9,bH fL FL 1 A2 i c2 vs,bH fI FI 1 A1 n1 c1 es1,bH fJ FJ 5 A0 n0 c0 es0]:=σ
 have hn9:=F9 hG qw h2.2.2 _ (ah zE)
 dsimp only at hn9
 obtain rfl:nn=n9:=hn9.symm
 refine eE rfl<|ll σ rfl fun _ de σ=>gE 0 σ rfl<|eE rfl<|gV call191 (Vb (σ.pat (k:=3) rfl) (σ.pat (k:=2) rfl) dy) σ rfl fun _ σ=>lK rfl<|kB (b':=false) rfl<|iF rfl rfl<|vE rfl (fun η=>aX (i:=0) η underlying131 (bF.size) rfl rfl (by omega) rfl (show (bH fL FL 1 A2 i c2 vs).P _ from (σ.pat (k:=1) rfl)).1)<|cE rfl (fun η=>bE (i:=0) (j:=0) (e:=(A9,nn,c9,e9)) η bF rfl rfl lM (by decide) (show (bH fL FL 1 A2 i c2 vs).P _ from (σ.pat (k:=1) rfl)).1 (by omega) zE rfl)<|lE 0 σ rfl<|eE rfl<|Cn fL ((none,0,0,[]):LE) dD σ iV rfl (by omega) (by unfold maxLen; omega) fun _ eQ σ=>?_
 replace σ:=σ.ake g
 refine ks (fun mz l w=>∃k:Nat,∃us:List LE,g - k=mz/\l=[(26,.int .i64 (k:Nat)),(1,.slice A2 i c2),(7,.int .i64 (nn:Nat)),(8,.slice (some ⟨eQ,0,none⟩) g g),(25,.int .i64 (g:Nat))]/\St w0 w [fc dD 43 1 (some ⟨eQ,0,none⟩) g g (fl fL us),bk de #[.int .i64 (i:Nat),.int .i64 (g:Nat),.slice A0 n0 c0,.slice A1 n1 c1] 28] [dW FL us,bH fN FN 2 A9 nn c9 e9,bH fL FL 1 A2 i c2 vs,bH fI FI 1 A1 n1 c1 es1,bH fJ FJ 5 A0 n0 c0 es0]/\k<=g/\us.map lz=rm (lT g nn G) k g []/\lO w0.heap.size us) ⟨0,(List.replicate g ((none,0,0,[]):LE)),rfl,rfl,σ,(av _),(by rw [K8,en]; rfl),(fun v hv a ha=>by rw [ei hv] at ha; cases ha)⟩ ⟨rfl,rfl,rfl,rfl,rfl,trivial⟩ ?_
 rintro _ _ _ ⟨k,us,rfl,rfl,σ,hk,GH,GF⟩
 refine il rfl<|wD (fun oL=>?_) fun oL=>?_
 ·have fh:k<g:=by omega
  refine iT rfl rfl<|eE rfl<|mkN fN ((none,0,0):NE) dD σ dP rfl qo (by omega) (by unfold maxLen; omega) fun _ jY σ=>?_
  replace σ:=σ.vX (ov nn _) ⟨bX,bX,bV rfl,trivial⟩
  refine vE rfl (fun η=>aX (i:=k) η underlying131 (bF.size) rfl rfl (by omega) rfl (aZ (σ.owns (k:=1) rfl)))<|eE rfl<|uH 1 k (e1:=((some ⟨jY,0,none⟩),nn,nn,([]:List NE))) lM σ rfl rfl (by omega) (by have:=aq List.length GH; rw [aw] at this; exact this.trans (l7 hk (mC (by omega)).symm)) fun _ σ=>il rfl<|wD (fun sI=>?_) fun sI=>?_
  ·obtain ⟨⟨Ak,nk,ck,ek⟩,hxk⟩:∃e,vs[k]?=some e:=⟨_,ag (by omega)⟩
   replace σ:=σ.elem (k:=3) rfl hxk
   replace σ:St w0 _ [fc dD 52 2 (some ⟨jY,0,none⟩) nn nn (fl fN (List.replicate nn ((none,0,0):NE))),fc dD 43 1 (some ⟨eQ,0,none⟩) g g (fl fL (us.set k ((some ⟨jY,0,none⟩),nn,nn,([]:List NE)))),bk de #[.int .i64 (i:Nat),.int .i64 (g:Nat),.slice A0 n0 c0,.slice A1 n1 c1] 28] [bH fN FN 2 Ak nk ck ek,dW FN (List.replicate nn ((none,0,0):NE)),dW FL us,bH fN FN 2 A9 nn c9 e9,bH fL FL 1 A2 i c2 vs,bH fI FI 1 A1 n1 c1 es1,bH fJ FJ 5 A0 n0 c0 es0]:=σ
   have hnk:=F9 hG qw h2.2.2 _ (ah hxk)
   dsimp only at hnk
   obtain rfl:nn=nk:=hnk.symm
   have hlk:=(σ.pat (k:=0) rfl).2.1
   replace σ:=σ.akd (k:=0) rfl
   refine iT rfl rfl<|vE rfl (fun η=>aX (i:=k) η underlying131 (bF.size) rfl rfl (by omega) rfl (show (bH fL FL 1 A2 i c2 vs).P _ from (σ.pat (k:=5) rfl)).1)<|cE rfl (fun η=>bE (i:=k) (j:=0) (e:=(Ak,nn,ck,ek)) η bF rfl rfl lM (by decide) (show (bH fL FL 1 A2 i c2 vs).P _ from (σ.pat (k:=5) rfl)).1 (by omega) hxk rfl)<|lK rfl<|kB (b':=false) (Ds rfl)<|sG rfl<|kB (b':=false) (aC (by omega))<|iF rfl rfl<|lj [8] [0,4,8,13,16,20,24,29,34] (by kernel_rfl) σ fun _ σ=>vE rfl (fun η=>aX (i:=k) η underlying131 (bF.size) rfl rfl (by omega) rfl (aZ (σ.owns (k:=1) rfl)))<|sE rfl (fun η hg=>bE (i:=k) (j:=0) (e:=((some ⟨jY,0,none⟩),nn,nn,([]:List NE))) η bF rfl rfl lM (by decide) (aZ (hg.ow (j:=1) rfl)) (by omega) (iM (by rw [show us.length=g by have:=aq List.length GH; rw [aw] at this; exact this.trans (l7 hk (mC (by omega)).symm)]; exact fh)) rfl)<|vE rfl (fun η=>aX (i:=k) η underlying131 (bF.size) rfl rfl (by omega) rfl (show (bH fL FL 1 A2 i c2 vs).P _ from (σ.pat (k:=5) rfl)).1)<|sE rfl (fun η hg=>bE (i:=k) (j:=0) (e:=(Ak,nn,ck,ek)) η bF rfl rfl lM (by decide) (show (bH fL FL 1 A2 i c2 vs).P _ from (hg.pt (j:=5) rfl)).1 (by omega) hxk rfl)<|eS rfl<|cpE 0 σ (σ.pat (k:=1) rfl).1 jV (by simp) hlk akf akg (az.size) rfl fun _ σ=>sz rfl<|?_
   have hle:ek.length=nn:=hlk
   rw [ax (by omega),show (List.replicate nn ((none,0,0):NE)).drop nn=[] by simp,bq] at σ
   have ZE:∀a:Addr,((some ⟨jY,0,none⟩):Option Addr)=some a->w0.heap.size<=a.block:=fun a ha=>by cases ha; exact sx σ (k:=0) rfl
   rw [Ga us k (some ⟨jY,0,none⟩) nn nn [] ek] at σ
   replace σ:=σ.vh (k:=0) (j:=0) rfl rfl hle
   replace σ:=σ.tE (F:=FL) (e:=((some ⟨jY,0,none⟩),nn,nn,ek)) (i:=5) (j:=0) rfl rfl k
   replace σ:St w0 _ [fc dD 43 1 (some ⟨eQ,0,none⟩) g g (fl fL (us.set k ((some ⟨jY,0,none⟩),nn,nn,ek))),bk de #[.int .i64 (i:Nat),.int .i64 (g:Nat),.slice A0 n0 c0,.slice A1 n1 c1] 28] [dW FL (us.set k ((some ⟨jY,0,none⟩),nn,nn,ek)),bH fN FN 2 (some ⟨jY,0,none⟩) nn nn ek,dW FN ek,bH fN FN 2 Ak nn ck ek,dW FN (List.replicate nn ((none,0,0):NE)),dW FL us,bH fN FN 2 A9 nn c9 e9,bH fL FL 1 A2 i c2 vs,bH fI FI 1 A1 n1 c1 es1,bH fJ FJ 5 A0 n0 c0 es0]:=σ.pick [0,1] [0,1,3,4,5,6,7,8,9,10] (by decide)
   exact can (j:=1) rfl (by omega)<|gI ⟨k+1,(us.set k ((some ⟨jY,0,none⟩),nn,nn,ek)),rfl,rfl,σ.pick [0,1] [0,6,7,8,9] (by decide),(by omega),(Vg GH (by rw [F7 (by omega) fh,au (by omega),akh qw hxk]; rfl) fh rfl),(GF.set ZE)⟩ ⟨rfl,rfl,rfl,rfl,rfl,trivial⟩ (by omega)
  ·have hle:(List.replicate nn ((none,0,0):NE)).length=nn:=by simp
   have ZE:∀a:Addr,((some ⟨jY,0,none⟩):Option Addr)=some a->w0.heap.size<=a.block:=fun a ha=>by cases ha; exact sx σ (k:=0) rfl
   rw [Ga us k (some ⟨jY,0,none⟩) nn nn [] (List.replicate nn ((none,0,0):NE))] at σ
   replace σ:=σ.vh (k:=0) (j:=0) rfl rfl hle
   replace σ:=σ.tE (F:=FL) (e:=((some ⟨jY,0,none⟩),nn,nn,(List.replicate nn ((none,0,0):NE)))) (i:=3) (j:=0) rfl rfl k
   replace σ:St w0 _ [fc dD 43 1 (some ⟨eQ,0,none⟩) g g (fl fL (us.set k ((some ⟨jY,0,none⟩),nn,nn,(List.replicate nn ((none,0,0):NE))))),bk de #[.int .i64 (i:Nat),.int .i64 (g:Nat),.slice A0 n0 c0,.slice A1 n1 c1] 28] [dW FL (us.set k ((some ⟨jY,0,none⟩),nn,nn,(List.replicate nn ((none,0,0):NE)))),bH fN FN 2 (some ⟨jY,0,none⟩) nn nn (List.replicate nn ((none,0,0):NE)),dW FN (List.replicate nn ((none,0,0):NE)),dW FL us,bH fN FN 2 A9 nn c9 e9,bH fL FL 1 A2 i c2 vs,bH fI FI 1 A1 n1 c1 es1,bH fJ FJ 5 A0 n0 c0 es0]:=σ.pick [0,1] [0,1,3,4,5,6,7,8] (by decide)
   exact iF rfl rfl<|can (j:=1) rfl (by omega)<|gI ⟨k+1,(us.set k ((some ⟨jY,0,none⟩),nn,nn,(List.replicate nn ((none,0,0):NE)))),rfl,rfl,σ.pick [0,1] [0,4,5,6,7] (by decide),(by omega),(Vg GH (by rw [F7 (by omega) fh,ak (by omega)]) fh (Vh nn)),(GF.set ZE)⟩ ⟨rfl,rfl,rfl,rfl,rfl,trivial⟩ (by omega)
 ·obtain rfl:g=k:=by omega
  exact iF rfl rfl<|o2 results157 rfl<|⟨_,_,_,rfl,σ.pick [0] [0] (by decide),GF,by rw [GH,yS (mC (by omega))]⟩
theorem N0 {es0:List IE} (h0:(bH fJ FJ 5 A0 n0 c0 es0).P w0) (h1:(bH fI FI 1 A1 n1 c1 es1).P w0) (h2:(bH fL FL 1 A2 i c2 vs).P w0) (dy:mv (i:Nat) (g:Nat) n0 n1 es0 es1) (qw:vs.map lz=G) (hG:∀r∈G,r.length=nn) (AV:1<=nn/\nn<=4096) (QQ:rj (b+64*0) G) (Wg:b+64*n0<=2880000) (pK:exe (lT g nn G) es0=some R'):
  Calls prog 112 #[.agg #[.int .i64 (i:Nat),.int .i64 (g:Nat),.slice A0 n0 c0,.slice A1 n1 c1],.slice A2 i c2] w0 fun e w'=>∃A c vo,e=.returned (.tuple #[.slice A n1 c,.int .i64 0,.int .i64 0])/\St w0 w' [fc dD 43 1 A n1 c (fl fL vo)] [dW FL vo]/\lO w0.heap.size vo/\vo.map lz=es1.map (kh R'):=by
 refine gQ func112 rfl ntmps112 rfl fun σ=>?_
 have cQ:=h0.2.1
 have lu:=h0.1.cap
 have eN:=h0.1.big
 unfold maxLen at eN
 have iI:=h1.2.1
 have oI:=h1.1.cap
 have jB:=h1.1.big
 unfold maxLen at jB
 replace σ:=σ.aY h0
 replace σ:=σ.aY h1
 clear h0 h1
 have q1:=dy.i1
 have q2:=dy.ln
 have rD:=h2.2.1
 have GD:G.length=i:=by rw [<- qw,aw]; exact rD
 replace σ:=σ.aY h2
 refine eE rfl<|ll σ rfl fun _ de σ=>gE 0 σ rfl<|eE rfl<|fk call157 (ZD (σ.pat (k:=2) rfl) (σ.pat (k:=1) rfl) (σ.pat (k:=0) rfl) dy qw hG AV) rfl ?_
 rintro _ _ ⟨Ar,cr,ur,rfl,hSr,hNr,hur⟩
 refine ⟨_,rfl,?_⟩
 have hs1:=σ.below.size
 replace σ:=σ.sw hSr hNr ⟨bV rfl,trivial⟩
 replace hNr:lO w0.heap.size ur:=fun v hv a ha=>aD hs1 (hNr v hv a ha)
 refine lK rfl<|kB (b':=false) rfl<|iF rfl rfl<|lj [3] [5,8,2,14,16] (by kernel_rfl) σ fun _ σ=>gS 1 rfl<|eS rfl<|gV call159 Zw σ rfl fun _ σ=>sk σ.kn<|eS rfl<|fk call158 (afu (i:=i) (n1:=n1) (c1:=c1) (A1:=A1) hur dy.may pK (qE (by omega) hG) (by omega) (by omega) (NZ QQ) Wg (σ.cF (k:=0) rfl [0,3])) rfl ?_
 rintro _ _ ⟨uq,rfl,hSq,huq,hOq⟩
 refine ⟨_,rfl,?_⟩
 have Qe:=σ.below.size
 replace σ:=σ.ap8 (k:=0) rfl (j:=0) rfl hSq hOq ⟨bX,bV rfl,trivial⟩
 have hNq:=hOq.new hNr Qe
 refine sz rfl<|xo rfl<|kB (b':=false) rfl<|iF rfl rfl<|lE 1 σ rfl<|?_
 replace σ:=(σ.fp dD 43 1).rA FL
 refine ks (fun mz l w=>∃x:Nat,∃A4:Option Addr,∃c4:Nat,∃vo:List LE,n1 - x=mz/\l=[(32,.int .i64 (x:Nat)),(10,.slice A4 x c4),(7,.slice Ar g cr),(30,.slice A1 n1 c1),(31,.int .i64 (n1:Nat))]/\St w0 w [fc dD 43 1 A4 x c4 (fl fL vo),fc dD 43 1 Ar g cr (fl fL uq),bk de #[.int .i64 (i:Nat),.int .i64 (g:Nat),.slice A0 n0 c0,.slice A1 n1 c1] 28] [dW FL vo,dW FL uq,bH fL FL 1 A2 i c2 vs,bH fI FI 1 A1 n1 c1 es1,bH fJ FJ 5 A0 n0 c0 es0]/\x<=n1/\vo.map lz=(es1.map (kh R')).take x/\lO w0.heap.size vo) ⟨0,none,0,[],rfl,rfl,σ.pick [0,1,2] [0,1,3,4,5] (by decide),(av _),rfl,(lO.nil _)⟩ ⟨rfl,rfl,rfl,rfl,rfl,trivial⟩ ?_
 rintro _ _ _ ⟨x,A4,c4,vo,rfl,rfl,σ,hx,hvo,Qv⟩
 refine il rfl<|wD (fun mX=>?_) fun mX=>?_
 ·have fh:x<n1:=by omega
  obtain ⟨r0,kf⟩:∃e,es1[x]?=some e:=⟨_,ag (by omega)⟩
  have hr8:=dy.out _ (ah kf)
  obtain ⟨r9,rfl⟩:=aU hr8.1
  have hql:uq.length=g:=by have:=aq List.length huq; rw [aw] at this; rw [this]; exact (z' es0 pK dy.may (qE (by omega) hG).1 (qE (by omega) hG).2).1
  obtain ⟨⟨Aq,nq,cq,eq9⟩,zQ⟩:∃e,uq[r9]?=some e:=⟨_,ag (by omega)⟩
  replace σ:=σ.tD (k:=1) rfl zQ
  replace σ:St w0 _ [fc dD 43 1 A4 x c4 (fl fL vo),fc dD 43 1 Ar g cr (fl fL uq),bk de #[.int .i64 (i:Nat),.int .i64 (g:Nat),.slice A0 n0 c0,.slice A1 n1 c1] 28] [bH fN FN 2 Aq nq cq eq9,dW FL vo,dW FL uq,bH fL FL 1 A2 i c2 vs,bH fI FI 1 A1 n1 c1 es1,bH fJ FJ 5 A0 n0 c0 es0]:=σ
  have Xj:=zx (σ.pat (k:=2) rfl) (z' es0 pK dy.may (qE (by omega) hG).1 (qE (by omega) hG).2).2 huq _ (ah zQ)
  dsimp only at Xj
  obtain rfl:nn=nq:=Xj.symm
  refine iT rfl rfl<|vE rfl (fun η=>aX (i:=x) η underlying26 (bn.size) rfl rfl (by omega) rfl (show (bH fI FI 1 A1 n1 c1 es1).P _ from (σ.pat (k:=4) rfl)).1)<|cE rfl (fun η=>bE (i:=x) (j:=0) (e:=((r9:Nat):Int)) η bn rfl rfl di (by decide) (show (bH fI FI 1 A1 n1 c1 es1).P _ from (σ.pat (k:=4) rfl)).1 (by omega) kf rfl)<|vE rfl (fun η=>aX (i:=r9) η underlying131 (bF.size) rfl rfl (by omega) rfl (aZ (σ.owns (k:=1) rfl)))<|cE rfl (fun η=>bE (i:=r9) (j:=0) (e:=(Aq,nn,cq,eq9)) η bF rfl rfl lM (by decide) (aZ (σ.owns (k:=1) rfl)) (by omega) zQ rfl)<|eE rfl<|fk call161 (F6 (σ.pat (k:=0) rfl) rfl (by omega) (by omega)) rfl ?_
  rintro _ _ ⟨_,rfl,⟨si,rk,zT,rfl,CQ,zP,zS⟩,hb⟩
  refine ⟨_,rfl,?_⟩
  have NS:=fun a (ha:si=some a)=>aD σ.below.size (CQ.2.2 a ha)
  replace σ:=σ.mB hb CQ zP (oU CQ.2.1 ⟨bX,bX,bV rfl,trivial⟩)
  refine eE rfl<|mi (z:=1) #[.slice si nn rk] σ (bF.size) jm rfl (by kernel_rfl) fun _ tU σ=>eE rfl<|oO (new:=[(si,nn,rk,zT)]) 1 0 σ iV rfl (by unfold maxLen; omega) (by omega) fun _ C9 xv σ=>?_
  replace σ:=σ.pX (e:=(si,nn,rk,zT)) (i:=2) (j:=0) rfl rfl
  exact can (j:=1) rfl (by omega)<|gI ⟨x+1,(some ⟨C9,0,none⟩),xv,(vo++[(si,nn,rk,zT)]),rfl,rfl,σ.pick [1,2,3] [0,4,5,6,7] (by decide),(by omega),(Ef hvo kf huq zQ zS),(Qv.snoc (v:=(si,nn,rk,zT)) NS)⟩ ⟨rfl,rfl,rfl,rfl,rfl,trivial⟩ (by omega)
 ·obtain rfl:n1=x:=by omega
  refine iF rfl rfl<|o3 results112 rfl<|?_
  rw [ax (by rw [aw]; omega)] at hvo
  exact ⟨_,_,_,rfl,σ.pick [0] [0] (by decide),Qv,hvo⟩
def sB (e:IE):Prop:=e.1≠6/\e.1≠8
theorem tI {a b c:Int} (h6:op≠6) (h8:op≠8):sB (op,t,a,b,c):=⟨h6,h8⟩
theorem Vi (t a c:Int):sB (sd t a c):=by unfold sd; split; exact tI aB aB; split; exact tI aB aB; split<;>exact tI aB aB
theorem Vj (h:sB e):∀f∈yk e,sB f:=fun f hf=>by
 unfold yk at hf
 split at hf
 ·cases hf
 ·rw [aL.1 hf]; exact h
theorem Gb (t c:Int):∀(m:Nat) (a:Int),∀f∈ze t a c m,sB f
 | 0,_,f,hf=>by cases hf
 | m+1,a,f,hf=>by
  unfold ze at hf
  rcases aK.1 hf with q | q
  ·exact Vj (Vi _ _ _) f q
  ·exact Gb t c m t f q
theorem afy (k:Nat) (t term A B from_:Int) (j:Nat):∀f∈MF k t term A B from_ j,sB f:=fun f hf=>by
 unfold MF at hf
 rcases aK.1 hf with q | q
 ·exact Vj (Vi _ _ _) f q
 ·split at q
  ·rw [aL.1 q]; exact tI aB aB
  ·split at q
   ·rw [aL.1 q]; exact tI aB aB
   ·rcases aK.1 q with p | p
    ·exact Gb _ _ _ _ f p
    ·rw [aL.1 p]; exact tI aB aB
theorem Vk (k:Nat) (t term A B:Int):∀(m:Nat) (from_:Int),∀f∈EG k t term A B from_ m,sB f
 | 0,_,f,hf=>by cases hf
 | m+1,from_,f,hf=>by
  unfold EG at hf
  rcases aK.1 hf with q | q
  ·exact afy _ _ _ _ _ _ _ f q
  ·exact Vk k t term A B m t f q
theorem afz (k:Nat) (term t:Int) (q:Int×Int):∀f∈Dm k term t q,sB f:=fun f hf=>by
 unfold Dm at hf
 split at hf
 ·cases hf
 ·split at hf
  ·rw [aL.1 hf]; exact tI aB aB
  ·split at hf
   ·exact Gb _ _ _ _ f hf
   ·split at hf
    ·exact Gb _ _ _ _ f hf
    ·exact Vk _ _ _ _ _ _ _ f hf
theorem Ly (k:Nat) (term:Int):∀(l:List (Int×Int)) (i:Nat),∀f∈k7 k term i l,sB f
 | [],_,f,hf=>by cases hf
 | q::l,i,f,hf=>by
  unfold k7 at hf
  rcases aK.1 hf with p | p
  ·exact afz _ _ _ _ f p
  ·exact Ly k term l (i+1) f p
theorem Jc (h:sB e):sB (dY e):=by
 obtain ⟨op,t,a,b,c⟩:=e
 unfold sB at h
 unfold dY sB
 dsimp only at h ⊢
 split
 ·split
  ·exact tI aB aB
  ·exact h
 ·split
  ·split
   ·exact tI aB aB
   ·split
    ·exact tI aB aB
    ·split
     ·rw [au ae]; exact tI aB aB
     ·exact h
  ·exact h
theorem afA {f c s d:Int} {q:Int×Int} (hf:f≠6/\f≠8) (hs:s≠6/\s≠8) (h:qB f c s d=some q):q.1≠6/\q.1≠8:=by
 unfold qB at h
 repeat' split at h
 all_goals first
  | (cases h; done)
  | (have e:=aW h; subst e; dsimp only; omega)
theorem ZF {a b x:IE} (ha:sB a) (hb:sB b) (h:jS a b=some x):sB x:=by
 unfold jS at h
 split at h
 ·cases h
 ·cases ht:qB a.1 a.2.2.2.2 b.1 b.2.2.2.2 with
  | none=>rw [ht] at h; cases h
  | some q=>
   rw [ht] at h
   obtain rfl:=aW h
   exact Jc (afA ha hb ht)
theorem Eg:∀(st:List IE) (b:IE),(∀e∈st,sB e)->sB b->∀e∈iW st b,sB e
 | [],b,_,hb,e,he=>by
  unfold iW at he
  split at he
  ·cases he
  ·rw [aL.1 he]; exact hb
 | a::st,b,hs,hb,e,he=>by
  unfold iW at he
  split at he
  ·exact hs e he
  ·split at he
   ·rcases bf.1 he with rfl | he
    ·exact hb
    ·exact hs e he
   ·next x hx=>exact Eg st x (fun e he=>hs e (aQ _ he)) (ZF (hs a (aJ ..)) hb hx) e he
theorem Vm {es:List IE} (h:∀e∈es,sB e):∀e∈oy es,sB e:=by
 have go:∀(l st:List IE),(∀e∈l,sB e)->(∀e∈st,sB e)->∀e∈l.foldl (fun st e=>iW st (dY e)) st,sB e:=by
  intro l
  induction l with
  | nil=>intro st _ hs; exact hs
  | cons x l ih=>intro st hl hs; exact ih _ (fun e he=>hl e (aQ _ he)) (Eg st _ hs (Jc (hl x (aJ ..))))
 intro e he
 exact go es [] h (fun _ q=>by cases q) e (List.mem_reverse.1 he)
theorem PS {es:List IE} (h:∀e∈es,sB e):∀e∈pY i g es,sB e:=by
 have go:∀(l:List IE) (s:Tb×List IE),(∀e∈l,sB e)->(∀e∈s.2,sB e)->∀e∈(l.foldl lx s).2,sB e:=by
  intro l
  induction l with
  | nil=>intro s _ hs; exact hs
  | cons x l ih=>
   intro s hl hs
   refine ih _ (fun e he=>hl e (aQ _ he)) ?_
   unfold lx
   dsimp only
   split
   ·exact hs
   ·intro e he
    rcases aK.1 he with q | q
    ·exact hs e q
    ·rw [aL.1 q]
     split
     ·exact tI aB aB
     ·exact hl x (aJ ..)
 exact go es _ h (fun _ q=>by cases q)
theorem Vn {p:List IE×List Int} (h:∀e∈p.1,sB e):∀e∈(EX i g p).1,sB e:=fun e he=>PS (Vm h) e (sa _ _ e he)
theorem N1 {i g:Nat}:∀(n:Nat) (p:List IE×List Int),(∀e∈p.1,sB e)->∀e∈(lA i g n p).1,sB e
 | 0,p,h=>h
 | n+1,p,h=>by
  unfold lA
  split
  ·exact Vn h
  ·exact N1 n _ (Vn h)
theorem Jd {u:List Int}:∀(es:List IE) (qs:List (Int×Int)) (k:Nat) (p:Pk),(∀e∈es,sB e)->∀e∈(mE u k p es qs).2,sB e
 | [],qs,k,p,_,e,he=>by cases qs<;>cases he
 | x::es,[],k,p,_,e,he=>by cases he
 | x::es,q::qs,k,p,h,e,he=>by
  unfold mE at he
  dsimp only at he
  rcases bf.1 he with rfl | he
  ·exact h x (aJ ..)
  ·exact Jd es qs _ _ (fun e he=>h e (aQ _ he)) e he
theorem N2 {es:List IE} (h:∀e∈es,sB e):∀e∈kW i g es os,sB e:=fun e he=>Jd _ _ _ _ (N1 16 (es,os) h) e he
theorem ZG {t:Nat} {p:Pt} (h:pU p) (hk:k<=15) (ht:t<k):(p8 k p t).natAbs<2 ^ 64:=by
 unfold p8
 rw [dL]
 have h1:(p.1 ^ t).natAbs*(p.2 ^ (k - 1 - t)).natAbs<=16 ^ t*16 ^ (k - 1 - t):=bR (aff h.1 t) (aff h.2 _)
 rw [<- eh] at h1
 have h2:16 ^ (t+(k - 1 - t))<=16 ^ 14:=bS aB ae
 exact fa (aD h1 h2) aB
theorem afB {es:List Pt} (h:lI es):rj (64+64*0) (C8 es):=fun r hr v hv=>by
 obtain ⟨p,hp,rfl⟩:=bG.1 hr
 obtain ⟨t,ht,rfl⟩:=bG.1 hv
 exact ZG (h.tQ p hp).1 h.some_.2 (eR.1 ht)
theorem afC (k:Nat):rj (64+64*0) (zf k):=fun r hr v hv=>by
 obtain ⟨p,hp,rfl⟩:=bG.1 hr
 obtain ⟨t,ht,rfl⟩:=bG.1 hv
 unfold C7
 split<;>decide
theorem ZH (es:List Pt):∀r∈C8 es,r.length=es.length:=fun r hr=>by
 obtain ⟨p,_,rfl⟩:=bG.1 hr
 exact td _ _
theorem afD:(List.replicate n (0:Int)).set j 1=rf n (C7 j):=by
 unfold rf C7
 apply jM fW
 intro t h1 h2
 rw [List.getElem_set,List.getElem_map,List.getElem_range,List.getElem_replicate]
 split
 ·rename_i q; subst q; rw [au rfl]
 ·rename_i q; rw [ak (fw q)]
theorem Vo {r:Rw} (h:vs.map lz=R) (he:vs[j]?=some (A,n,c,es)) (hr:R[j]?=some r):es.map zz=r:=by
 rw [<- h,ay,he] at hr
 exact aW hr
theorem akm {es:List Pt} (h:Co es) {p:Pt} (he:es[j]?=some p):yl p.1/\yl p.2:=h.2.2 p (ah he)
theorem PT {es0:List IE} (h0:(fC A0 n0 c0 es0).P w0) (h1:(fg A1 n2 c1 es1).P w0) (h2:(jD A2 n2 c2 jU).P w0) (dy:mv (n2:Nat) (g:Nat) n0 n2 es0 es1) (yc:lI jU) (hpr:oY n2 g n2 (C8 jU) es0 es1 (zf n2)):
  Calls prog 77 #[.agg (lN n2 g A0 n0 c0 A1 n2 c1),.slice A2 n2 c2] w0 fun e w'=>e=.returned (.tuple #[.bool true,aG 0])/\Below w0.heap.size w0 w':=by
 refine gQ func77 I ntmps77 I fun σ=>?_
 have cQ:=h0.2.1
 have iI:=h1.2.1
 have rD:=h2.2.1
 replace σ:=σ.aY h0
 replace σ:=σ.aY h1
 replace σ:=σ.aY h2
 have q1:=dy.i1
 have q2:=dy.ln
 have q3:=yc.some_
 obtain ⟨R',pK,Bs⟩:=hpr.run
 refine eE I<|ll σ I fun _ de σ=>eE I<|fk call116 (Zt σ.bW yc) I ?_
 rintro _ _ ⟨Ag,cg,ug,rfl,hSg,hNg,hug⟩
 refine ⟨_,I,?_⟩
 replace σ:=σ.sw hSg hNg ⟨bV I,trivial⟩
 have Gz:ug.length=n2:=by have:=aq List.length hug; rw [aw] at this; exact this.trans (by unfold C8; rw [aw]; exact rD)
 refine lK I<|kB (b':=false) I<|iF I I<|gE 1 σ I<|eE I<|gV call41 (kR σ.kC σ.fX dy) σ I fun _ σ=>lK I<|kB (b':=false) I<|iF I I<|lE 1 σ I<|lK I<|kB (b':=false) (Ds I)<|lE 1 σ I<|lK I<|kB (b':=false) (Ds I)<|iF I I<|gE 1 σ I<|eE I<|fk call112 (N0 σ.kC σ.fX (uV σ.jr Gz σ.bW) dy hug (by rw [<- rD]; exact ZH jU) ⟨by omega,by omega⟩ (afB yc) ae pK) rfl ?_
 rintro _ _ ⟨Ao,co,uo,rfl,hSo,Qv,ZI⟩
 refine ⟨_,I,?_⟩
 replace σ:=σ.sw hSo Qv ⟨bX,bV I,trivial⟩
 rw [Bs] at ZI
 refine lK I<|kB (b':=false) I<|iF I I<|ks (fun mz l w=>∃j:Nat,n2 - j=mz/\l=[(54,aM j),(1,.slice A2 n2 c2),(52,.slice Ao n2 co),(53,aM n2)]/\St w0 w [mc Ao n2 co uo,mc Ag n2 cg ug,bk de (lN n2 g A0 n0 c0 A1 n2 c1) 28] [dW FL uo,dW FL ug,jD A2 n2 c2 jU,fg A1 n2 c1 es1,fC A0 n0 c0 es0]/\j<=n2) ⟨0,I,I,σ,(av _)⟩ aT ?_
 rintro _ _ _ ⟨j,rfl,rfl,σ,hj⟩
 refine il I<|wD (fun mX=>?_) fun mX=>?_
 ·have fh:j<n2:=ae
  have qy:uo.length=n2:=by have:=aq List.length ZI; rw [aw,oC] at this; exact this
  obtain ⟨⟨Ax,nx,cx,ex⟩,hxo⟩:∃e,uo[j]?=some e:=⟨_,ag ae⟩
  replace σ:=σ.tD (k:=0) I hxo
  refine iT I I<|vE I (fun η=>aX (i:=j) η underlying131 (bF.size) I I ae I (aZ σ.jr))<|cE I (fun η=>bE (i:=j) (j:=0) (e:=(Ax,nx,cx,ex)) η bF I I lM aB (aZ σ.jr) ae hxo I)<|eE I<|fk call117 (Hh (n:=n2) (k:=j) ae ae) I ?_
  rintro _ _ ⟨_,rfl,⟨si,rk,zT,rfl,CQ,zP,zS⟩,hb⟩
  refine ⟨_,I,?_⟩
  have NS:=fun a (ha:si=some a)=>aD σ.below.size (CQ.2.2 a ha)
  replace σ:=σ.mB hb CQ zP (oU CQ.2.1 ⟨bX,bX,bV I,trivial⟩)
  exact eE I<|gV call118 (Lx σ.dw (Vo ZI hxo (abH ae)) σ.bW (zS.trans afD)) σ I fun _ σ=>iF I I<|can (j:=1) I ae<|gI ⟨j+1,I,I,σ.pick [0,1,2] [2,3,4,5,6] aB,ae⟩ aT ae
 ·exact iF I I<|o2 results77 I<|⟨I,σ.below⟩
theorem Je {es0:List IE} (h0:(fC A0 n0 c0 es0).P w0) (h1:(fg A1 n2 c1 es1).P w0) (h2:(jD A2 n2 c2 jU).P w0) (hk:1<=kk/\kk<=8) (dy:mv (kk:Nat) (g:Nat) n0 n2 es0 es1) (yc:Co jU) (ve:∀e∈es0,sB e) (hpr:oY kk g kk (zf kk) es0 es1 (jU.map fun q=>rf kk (p8 kk q))):
  Calls prog 74 #[.agg (lN kk g A0 n0 c0 A1 n2 c1),aM kk,.slice A2 n2 c2] w0 fun e w'=>e=.returned (.tuple #[.bool true,aG 0])/\Below w0.heap.size w0 w':=by
 refine gQ func74 I ntmps74 I fun σ=>?_
 have cQ:=h0.2.1
 have iI:=h1.2.1
 have rD:=h2.2.1
 replace σ:=σ.aY h0
 replace σ:=σ.aY h1
 replace σ:=σ.aY h2
 have q1:=dy.i1
 have q2:=dy.ln
 obtain ⟨R',pK,Bs⟩:=hpr.run
 refine eE I<|ll σ I fun _ de σ=>il I<|kB (b':=false) (aC ae)<|sG I<|kB (b':=false) (aC ae)<|eE I<|gV call82 (D4 σ.bW) σ I fun _ σ=>kB (b':=true) (a8 yc)<|iF I I<|gE 0 σ I<|eE I<|gV call41 (kR σ.fX σ.dw dy) σ I fun _ σ=>lK I<|kB (b':=false) I<|iF I I<|lE 0 σ I<|lK I<|kB (b':=false) (Ds I)<|lE 0 σ I<|lK I<|kB (b':=false) (Ds I)<|iF I I<|lE 0 σ I<|ks (fun mz l w=>∃k:Nat,n0 - k=mz/\l=[(54,aM k),(1,aM kk),(2,.slice A2 n2 c2),(3,cY de),(52,.slice A0 n0 c0),(53,aM n0)]/\St w0 w [bk de (lN kk g A0 n0 c0 A1 n2 c1) 28] [jD A2 n2 c2 jU,fg A1 n2 c1 es1,fC A0 n0 c0 es0]/\k<=n0) ⟨0,I,I,σ,(av _)⟩ aT ?_
 rintro _ _ _ ⟨k,rfl,rfl,σ,hk⟩
 refine il I<|wD (fun mX=>?_) fun mX=>?_
 ·have fh:k<n0:=ae
  obtain ⟨⟨op,tr,ra,rb,cn⟩,eG⟩:∃e,es0[k]?=some e:=⟨_,ag ae⟩
  have ZJ:=ve _ (ah eG)
  unfold sB at ZJ
  dsimp only at ZJ
  exact iT I I<|vE I (fun η=>aX (i:=k) η underlying25 (aF.size) I I ae I σ.fX.1)<|cE I (fun η=>cX (v:=#[aG op,aG tr,aG ra,aG rb,aG cn]) (i:=k) (e:=(op,tr,ra,rb,cn)) η aF I I lL σ.fX.1 ae eG I)<|eE I<|iR bm σ I fun _ jh σ=>eE I<|fB 0 σ I fun _ σ=>lE 0 σ I<|gj I<|kB (b':=false) (du.2 ZJ.1)<|lE 0 σ I<|gj I<|kB (b':=false) (du.2 ZJ.2)<|iF I I<|can (j:=1) I ae<|gI ⟨k+1,I,I,σ.pick [1] [0,1,2] aB,ae⟩ aT ae
 ·refine iF I I<|lj [] [1,4,10,14,16,20,24,28,32,36,40] bI σ fun _ σ=>gS 0 I<|eS I<|fk call113 (U3 (k:=kk) ae) I ?_
  rintro _ _ ⟨Ag,cg,ug,rfl,hSg,hNg,hug⟩
  refine ⟨_,I,?_⟩
  replace σ:=σ.sw hSg hNg ⟨bV I,trivial⟩
  have Gz:ug.length=kk:=by have:=aq List.length hug; rw [aw,oC] at this; exact this
  refine sk (σ.kd 1 1)<|eS I<|fk call112 (N0 σ.kC σ.fX (uV σ.jr Gz σ.bW) dy hug (Hz kk) ⟨by omega,by omega⟩ (afC kk) ae pK) I ?_
  rintro _ _ ⟨Ao,co,uo,rfl,hSo,Qv,ZI⟩
  refine ⟨_,I,?_⟩
  replace σ:=σ.sw hSo Qv ⟨bX,bV I,trivial⟩
  rw [Bs] at ZI
  refine sk (σ.kd 2 2)<|lK I<|kB (b':=false) I<|iF I I<|ks (fun mz l w=>∃j:Nat,n2 - j=mz/\l=[(79,aM j),(1,aM kk),(12,.slice Ao n2 co),(77,.slice A2 n2 c2),(78,aM n2)]/\St w0 w [mc Ao n2 co uo,mc Ag kk cg ug,bk de (lN kk g A0 n0 c0 A1 n2 c1) 28] [dW FL uo,dW FL ug,jD A2 n2 c2 jU,fg A1 n2 c1 es1,fC A0 n0 c0 es0]/\j<=n2) ⟨0,I,I,σ,(av _)⟩ aT ?_
  rintro _ _ _ ⟨j,rfl,rfl,σ,hj⟩
  refine il I<|wD (fun rP=>?_) fun rP=>?_
  ·have fh:j<n2:=ae
   obtain ⟨⟨pa,pb⟩,vQ⟩:∃e,jU[j]?=some e:=⟨_,ag ae⟩
   have qy:uo.length=n2:=by have:=aq List.length ZI; rw [aw,aw] at this; exact this.trans rD
   obtain ⟨⟨Ax,nx,cx,ex⟩,hxo⟩:∃e,uo[j]?=some e:=⟨_,ag ae⟩
   replace σ:=σ.tD (k:=0) I hxo
   replace σ:St w0 _ [mc Ao n2 co uo,mc Ag kk cg ug,bk de (lN kk g A0 n0 c0 A1 n2 c1) 28] [pf Ax nx cx ex,dW FL uo,dW FL ug,jD A2 n2 c2 jU,fg A1 n2 c1 es1,fC A0 n0 c0 es0]:=σ
   have Qt:=Vo ZI hxo (r:=rf kk (p8 kk (pa,pb))) (by rw [ay,vQ]; rfl)
   have JL:=σ.bW.2.1
   have hx8:=aq List.length Qt
   rw [aw,td] at hx8
   obtain rfl:kk=nx:=ae
   refine iT I I<|vE I (fun η=>aX (i:=j) η underlying22 (aO.size) I I ae I σ.kC.1)<|cE I (fun η=>cX (v:=#[aG pa,aG pb]) (i:=j) (e:=(pa,pb)) η aO I I iX σ.kC.1 ae vQ I)<|eE I<|iR b6 σ I fun _ sf σ=>eE I<|fB 0 σ I fun _ σ=>gE 0 σ I<|eE I<|fk call114 (Ed (n:=kk) (akm yc vQ) ae) I ?_
   rintro _ _ ⟨KR,ID,akp,rfl,afG,aqb,afH,hb⟩
   refine ⟨_,I,?_⟩
   have atE:=fun a (ha:KR=some a)=>aD σ.below.size (afG.2.2 a ha)
   replace σ:=σ.mB hb afG aqb (oU afG.2.1 ⟨bV I,bX,bX,bV I,trivial⟩)
   refine vE I (fun η=>aX (i:=j) η underlying131 (bF.size) I I ae I (aZ σ.l8))<|cE I (fun η=>bE (i:=j) (j:=0) (e:=(Ax,kk,cx,ex)) η bF I I lM aB (aZ σ.l8) ae hxo I)<|ks (fun mz l w=>∃t9:Nat,kk - t9=mz/\l=[(95,aM t9),(1,aM kk),(12,.slice Ao n2 co),(16,.slice KR kk ID),(77,.slice A2 n2 c2),(78,aM n2),(79,aM j),(93,.slice Ax kk cx),(94,aM kk)]/\St w0 w [bk sf #[aG pa,aG pb] 61,mc Ao n2 co uo,mc Ag kk cg ug,bk de (lN kk g A0 n0 c0 A1 n2 c1) 28] [pf KR kk ID akp,pf Ax kk cx ex,dW FL uo,dW FL ug,jD A2 n2 c2 jU,fg A1 n2 c1 es1,fC A0 n0 c0 es0]/\t9<=kk) ⟨0,I,I,σ,(av _)⟩ aT ?_
   rintro _ _ _ ⟨t9,rfl,rfl,σ,ht⟩
   refine il I<|wD (fun KO=>?_) fun KO=>?_
   ·have axK:t9<kk:=ae
    obtain ⟨⟨Au,cu,zu⟩,heu⟩:∃e,ex[t9]?=some e:=⟨_,ag ae⟩
    replace σ:=σ.elem (k:=1) I heu
    obtain ⟨⟨Aw,cw,zw⟩,hew⟩:∃e,akp[t9]?=some e:=⟨_,ag ae⟩
    replace σ:=σ.elem (k:=1) I hew
    obtain rfl:zu=zw:=Za Qt afH heu hew
    exact iT I I<|vE I (fun η=>aX (i:=t9) η underlying43 (az.size) I I ae I σ.kC.1)<|cE I (fun η=>cX (i:=t9) (e:=(Au,cu,zu)) η az I I jV σ.kC.1 ae heu I)<|eE I<|iR bA σ I fun _ Qp σ=>eE I<|fB 0 σ I fun _ σ=>lj [] [1,4,8,12,17,22,24] bI σ fun _ σ=>gS 0 I<|vE I (fun η=>aX (i:=t9) η underlying43 (az.size) I I ae I σ.fX.1)<|sE I (fun η hg=>cX (i:=t9) (e:=(Aw,cw,zu)) η az I I jV (hg.pt (j:=2) I).1 ae hew I)<|eS I<|gV call115 (aau (x:=zu) (y:=zu) (show iY _ Au cu zu from σ.dw) (show iY _ Aw cw zu from σ.bW)) σ I fun _ σ=>sk σ.kn<|lK I<|kB (b':=false) (by rw [Int.sub_self]; rfl)<|iF rfl rfl<|can (j:=1) rfl ae<|gI ⟨t9+1,rfl,rfl,σ.pick [1,2,3,4] [2,3,4,5,6,7,8] aB,ae⟩ aT ae
   ·exact iF I I<|can (j:=1) I ae<|gI ⟨j+1,I,I,σ.pick [1,2,3] [2,3,4,5,6] aB,ae⟩ aT ae
  ·exact iF I I<|o2 results74 I<|⟨I,σ.below⟩
theorem qi {α:Type} {f:α->List Value} {z:Nat} {es:List α} (h:(fc dD E z A n c (fl f es)).P w) (hl:es.length=n):(bH f (fun _=>kF) z A n c es).P w:=⟨aZ h,hl,fun _ _=>trivial⟩
theorem N3 {es:List Pt} (h:rp k1 k2 es) (hp:lI es):Co es:=⟨hp.some_.1,hp.some_.2,h.2.2⟩
theorem afI (h0:(jD A0 n0 c0 es0).P w0) (hD:me w0) (hn:n0<=9223372036854775807):
  Calls prog 27 #[aG k1,aG k2,.slice A0 n0 c0] w0 fun e w'=>((e=.returned (.tuple #[.agg #[aG 0,aG 0,bM,aG 0,aG 0,bM,bM,aG 0,aG 0,bM,bM,aG 0,aG 0,bM,bM],aG 70])/\¬rp k1 k2 es0/\Below w0.heap.size w0 w')∨(e=.returned (.tuple #[.agg #[aG 0,aG 0,bM,aG 0,aG 0,bM,bM,aG 0,aG 0,bM,bM,aG 0,aG 0,bM,bM],aG 71])/\rp k1 k2 es0/\(¬((n0:Nat):Int)=k1+k2 - 1∨Jf es0∨wa es0)/\Below w0.heap.size w0 w')∨(rp k1 k2 es0/\((n0:Nat):Int)=k1+k2 - 1/\lI es0/\∃u1 u2:Nat,k1=((u1:Nat):Int)/\k2=((u2:Nat):Int)/\∃Ap cp A1 m1 d1 B1 e1 A2 m2 d2 B2 e2 A3 m3 d3 B3 e3,e=.returned (.tuple #[.agg #[aM u1,aM u2,.slice Ap n0 cp,aM u1,aM (u1+n0+1),.slice A1 m1 d1,.slice B1 n0 e1,aM u2,aM (u2+n0+1),.slice A2 m2 d2,.slice B2 n0 e2,aM n0,aM (3*n0+1),.slice A3 m3 d3,.slice B3 n0 e3],aG 0])/\St w0 w' [lp Ap n0 cp es0,dQ A1 m1 d1 (k7 u1 ((u1+n0:Nat):Int) 0 es0),cI B1 n0 e1 (lQ u1 n0),dQ A2 m2 d2 (k7 u2 ((u2+n0:Nat):Int) 0 es0),cI B2 n0 e2 (lQ u2 n0),dQ A3 m3 d3 (qC es0),cI B3 n0 e3 (tZ n0)] []/\(k7 u1 ((u1+n0:Nat):Int) 0 es0).length=m1/\(k7 u2 ((u2+n0:Nat):Int) 0 es0).length=m2/\(qC es0).length=m3)):=by
 refine gQ func27 I ntmps27 I fun σ=>?_
 replace σ:=σ.nG hD
 have cQ:=h0.2.1
 have lu:=h0.1.cap
 have eN:=h0.1.big
 unfold maxLen at eN
 replace σ:=σ.aY h0
 refine eE I<|iR dJ σ I fun _ de σ=>eE I<|fk call39 (Vs (k1:=k1) (k2:=k2) σ.bW ae) I ?_
 rintro _ _ ⟨v9,er9,rfl,h9,hb⟩
 refine ⟨_,I,?_⟩
 replace σ:=σ.call hb
 rcases h9 with ⟨rfl,hnL⟩|⟨rfl,hL,Lz⟩|⟨rfl,hL,yd,yc⟩
 ·exact lK I<|kB (b':=true) I<|iT I I<|vE I (fun η=>eV (c:=#[aG 0,aG 0,bM,aG 0,aG 0,bM,bM,aG 0,aG 0,bM,bM,aG 0,aG 0,bM,bM]) jo η I I)<|eE I<|fB 0 σ I fun _ σ=>oR (fun e=>lk results27 (RV.cell e iG I σ.gq I) (RV.tmp e I))<|.inl ⟨I,hnL,σ.below⟩
 ·exact lK I<|kB (b':=true) I<|iT I I<|vE I (fun η=>eV (c:=#[aG 0,aG 0,bM,aG 0,aG 0,bM,bM,aG 0,aG 0,bM,bM,aG 0,aG 0,bM,bM]) jo η I I)<|eE I<|fB 0 σ I fun _ σ=>oR (fun e=>lk results27 (RV.cell e iG I σ.gq I) (RV.tmp e I))<|.inr (.inl ⟨I,hL,Lz,σ.below⟩)
 ·obtain ⟨u1,rfl⟩:=aU (show 0<=k1 by have:=hL.1; omega)
  obtain ⟨u2,rfl⟩:=aU (show 0<=k2 by have:=hL.2.1; omega)
  have hL1:=hL.1
  have hL2:=hL.2.1
  have LA:=N3 hL yc
  have hq3:=yc.some_
  refine lK I<|kB (b':=false) I<|iF I I<|eE I<|fk call20 (tB σ.bW ae) I ?_
  rintro _ _ ⟨zk,wW,rfl,xf⟩
  refine ⟨_,I,?_⟩
  replace σ:=σ.more xf
  refine vE I (fun η=>eV (c:=#[aM u1,aM u2,.slice zk n0 wW,aG 0,aG 0,bM,bM,aG 0,aG 0,bM,bM,aG 0,aG 0,bM,bM]) jo η I bI)<|eE I<|iR dJ σ I fun _ zo σ=>eE I<|fB 0 σ I fun _ σ=>eE I<|fk call47 (Cs (kk:=u1) σ.bW σ.dw ae ae LA) I ?_
  rintro _ _ ⟨A1,m1,d1,B1,e1,rfl,hTw,mJ,hb⟩
  refine ⟨_,I,?_⟩
  replace σ:=σ.ahY hb hTw
  refine eE I<|fB 2 σ I fun _ σ=>lK I<|kB (b':=false) I<|iF I I<|eE I<|fk call47 (Cs (kk:=u2) σ.bW σ.dw ae ae LA) I ?_
  rintro _ _ ⟨A2,m2,d2,B2,e2,rfl,hTw,mr,hb⟩
  refine ⟨_,I,?_⟩
  replace σ:=σ.ahY hb hTw
  refine eE I<|fB 4 σ I fun _ σ=>lK I<|kB (b':=false) I<|iF I I<|eE I<|fk call48 (K3 σ.bW yc) I ?_
  rintro _ _ ⟨A3,m3,d3,B3,e3,rfl,hS3,ua⟩
  refine ⟨_,I,?_⟩
  replace σ:=σ.more hS3
  exact eE I<|fB 6 σ I fun _ σ=>lK I<|kB (b':=false) I<|iF I I<|gE 6 σ I<|eE I<|fB 8 σ I fun _ σ=>oR (fun e=>lk results27 (RV.cell e iG I (σ.pV (k:=8) I) I) (RV.tmp e I))<|.inr (.inr ⟨hL,yd,yc,u1,u2,I,I,zk,wW,A1,m1,d1,B1,e1,A2,m2,d2,B2,e2,A3,m3,d3,B3,e3,I,σ.pick [7,4,5,2,3,0,1] [] aB,mJ,mr,ua⟩)
def Qw (i:Nat) (p:Nat×List IE×List Int) (b:Bool):Nat×List IE×List Int:=match b with
 | true=>(pN i p.1 p.2.1 p.2.2,kW i p.1 p.2.1 p.2.2,oB i p.1 p.2.1 p.2.2)
 | false=>p
theorem Eh (hl:l.length=n) (h1:1<=k) (h8:k<=8) (hP:Co l):oY k (k+n+1) k (zf k) (k7 k ((k+n:Nat):Int) 0 l) (lQ k n) (l.map fun q=>rf k (p8 k q))/\(k7 k ((k+n:Nat):Int) 0 l).length<=960:=by
 subst hl
 refine ⟨ah9 h1 hP.2.2,?_⟩
 have:=MH ((k+l.length:Nat):Int) h8 l 0
 have:=hP.2.1
 omega
theorem Gf (hl:l.length=n) (h1:1<=k) (h8:k<=8) (hP:Co l) (hm:(k7 k ((k+n:Nat):Int) 0 l).length=m):mv (k:Nat) ((k+n+1:Nat):Int) m n (k7 k ((k+n:Nat):Int) 0 l) (lQ k n):=by
 obtain ⟨hp,hq⟩:=Eh hl h1 h8 hP
 have h2:=hP.1
 have h3:=hP.2.1
 exact ⟨⟨by omega,by omega,by omega⟩,⟨by omega,by omega,by omega⟩,hp.may,hp.out⟩
theorem N4 (hl:l.length=n) (hP:lI l):oY n (3*n+1) n (C8 l) (qC l) (tZ n) (zf n):=by
 subst hl
 exact aib hP
theorem Vt (hl:l.length=n) (hP:lI l) (hm:(qC l).length=m):mv (n:Nat) ((3*n+1:Nat):Int) m n (qC l) (tZ n):=by
 have hp:=N4 hl hP
 have h2:=hP.some_
 have h3:=ac8 h2.2
 exact ⟨⟨by omega,by omega,by omega⟩,⟨by omega,by omega,by omega⟩,hp.may,hp.out⟩
theorem CU (k n:Nat):(lQ k n).length=n:=by unfold lQ; split<;>simp
theorem N5 (n:Nat):(tZ n).length=n:=by unfold tZ; simp
theorem Gg (hl:l.length=n):(C8 l).length=n:=by unfold C8; rw [aw]; exact hl
theorem Ji:
  Calls prog 28 #[cY g] w0 fun e w'=>∃h,e=.returned (.slice (cS h) 3 3)/\St w0 w' [bk h #[.pointer (some ⟨g,3,none⟩),.pointer (some ⟨g,7,none⟩),.pointer (some ⟨g,11,none⟩)] 77] []:=by
 exact gQ func28 I ntmps28 I fun σ=>lj [] [0,4,8,12,16,20,24,28,32,38,40] bI σ fun _ σ=>eS I<|mi #[.pointer (some ⟨g,3,none⟩),.pointer (some ⟨g,7,none⟩),.pointer (some ⟨g,11,none⟩)] σ (eC.size) xB I bI fun _ de σ=>sk (σ.kd 1 0)<|o1 results28 I<|⟨_,I,σ.pick [0] [] aB⟩
theorem LB (h0:(jD A0 n0 c0 es0).P w0) (hD:me w0) (hn:n0<=9223372036854775807):
  Calls prog 7 #[aG k1,aG k2,.slice A0 n0 c0] w0 fun e w'=>((e=.returned (.tuple #[.agg #[aG 0,aG 0,bM,aG 0,aG 0,bM,bM,aG 0,aG 0,bM,bM,aG 0,aG 0,bM,bM],aG 70])/\¬rp k1 k2 es0/\Below w0.heap.size w0 w')∨(e=.returned (.tuple #[.agg #[aG 0,aG 0,bM,aG 0,aG 0,bM,bM,aG 0,aG 0,bM,bM,aG 0,aG 0,bM,bM],aG 71])/\rp k1 k2 es0/\(¬((n0:Nat):Int)=k1+k2 - 1∨Jf es0∨wa es0)/\Below w0.heap.size w0 w')∨(rp k1 k2 es0/\((n0:Nat):Int)=k1+k2 - 1/\lI es0/\∃u1 u2:Nat,k1=((u1:Nat):Int)/\k2=((u2:Nat):Int)/\∃Ap cp X1 x1 y1 Z1 z1 X2 x2 y2 Z2 z2 X3 x3 y3 Z3 z3,e=.returned (.tuple #[.agg #[aM u1,aM u2,.slice Ap n0 cp,aM u1,aM (pN u1 (u1+n0+1) (k7 u1 ((u1+n0:Nat):Int) 0 es0) (lQ u1 n0)),.slice X1 x1 y1,.slice Z1 n0 z1,aM u2,aM (pN u2 (u2+n0+1) (k7 u2 ((u2+n0:Nat):Int) 0 es0) (lQ u2 n0)),.slice X2 x2 y2,.slice Z2 n0 z2,aM n0,aM (pN n0 (3*n0+1) (qC es0) (tZ n0)),.slice X3 x3 y3,.slice Z3 n0 z3],aG 0])/\St w0 w' [lp Ap n0 cp es0,dQ X1 x1 y1 (kW u1 (u1+n0+1) (k7 u1 ((u1+n0:Nat):Int) 0 es0) (lQ u1 n0)),cI Z1 n0 z1 (oB u1 (u1+n0+1) (k7 u1 ((u1+n0:Nat):Int) 0 es0) (lQ u1 n0)),dQ X2 x2 y2 (kW u2 (u2+n0+1) (k7 u2 ((u2+n0:Nat):Int) 0 es0) (lQ u2 n0)),cI Z2 n0 z2 (oB u2 (u2+n0+1) (k7 u2 ((u2+n0:Nat):Int) 0 es0) (lQ u2 n0)),dQ X3 x3 y3 (kW n0 (3*n0+1) (qC es0) (tZ n0)),cI Z3 n0 z3 (oB n0 (3*n0+1) (qC es0) (tZ n0))] []/\(kW u1 (u1+n0+1) (k7 u1 ((u1+n0:Nat):Int) 0 es0) (lQ u1 n0)).length=x1/\(kW u2 (u2+n0+1) (k7 u2 ((u2+n0:Nat):Int) 0 es0) (lQ u2 n0)).length=x2/\(kW n0 (3*n0+1) (qC es0) (tZ n0)).length=x3)):=by
 refine gQ func7 I ntmps7 I fun σ=>?_
 replace σ:=σ.nG hD
 have cQ:=h0.2.1
 have lu:=h0.1.cap
 have eN:=h0.1.big
 unfold maxLen at eN
 replace σ:=σ.aY h0
 clear h0
 refine eE I<|iR dJ σ I fun _ de σ=>eE I<|fk call27 (afI (k1:=k1) (k2:=k2) σ.bW σ.dw hn) I ?_
 rintro _ _ (⟨rfl,hnL,hb⟩|⟨rfl,hL,Lz,hb⟩|⟨hL,yd,yc,u1,u2,rfl,rfl,Ap,cp,A1,m1,d1,B1,e1,A2,m2,d2,B2,e2,A3,m3,d3,B3,e3,rfl,hSr,mJ,mr,ua⟩)
 ·refine ⟨_,I,?_⟩
  replace σ:=σ.call hb
  exact eE I<|iR dJ σ I fun _ eQ σ=>eE I<|fB 0 σ I fun _ σ=>lK I<|kB (b':=true) I<|iT I I<|vE I (fun η=>eV (c:=#[aG 0,aG 0,bM,aG 0,aG 0,bM,bM,aG 0,aG 0,bM,bM,aG 0,aG 0,bM,bM]) jo η I I)<|eE I<|fB 1 σ I fun _ σ=>oR (fun e=>lk results7 (RV.cell e iG I σ.vN I) (RV.tmp e I))<|.inl ⟨I,hnL,σ.below⟩
 ·refine ⟨_,I,?_⟩
  replace σ:=σ.call hb
  exact eE I<|iR dJ σ I fun _ jh σ=>eE I<|fB 0 σ I fun _ σ=>lK I<|kB (b':=true) I<|iT I I<|vE I (fun η=>eV (c:=#[aG 0,aG 0,bM,aG 0,aG 0,bM,bM,aG 0,aG 0,bM,bM,aG 0,aG 0,bM,bM]) jo η I I)<|eE I<|fB 1 σ I fun _ σ=>oR (fun e=>lk results7 (RV.cell e iG I σ.vN I) (RV.tmp e I))<|.inr (.inl ⟨I,hL,Lz,σ.below⟩)
 ·refine ⟨_,I,?_⟩
  replace σ:=σ.more hSr
  have hL1:=hL.1
  have hL2:=hL.2.1
  have LA:=N3 hL yc
  have hq3:=yc.some_
  have vW:=Gf cQ ae ae LA mJ (k:=u1)
  have zG:=Gf cQ ae ae LA mr (k:=u2)
  have OW:=Vt cQ yc ua
  have hp1:=(Eh cQ (k:=u1) ae ae LA).1
  have Cp:=(Eh cQ (k:=u2) ae ae LA).1
  have hp3:=N4 cQ yc
  refine eE I<|iR dJ σ I fun _ jY σ=>eE I<|fB 0 σ I fun _ σ=>lK I<|kB (b':=false) I<|iF I I<|eE I<|fk call28 (Ji (g:=jY)) I ?_
  rintro _ _ ⟨Gh,rfl,tp⟩
  refine ⟨_,I,?_⟩
  replace σ:=σ.more tp
  refine ks (fun mz l w=>∃j:Nat,∃X1:Option Addr,∃x1:Nat,∃y1:Nat,∃Z1:Option Addr,∃z1:Nat,∃X2:Option Addr,∃x2:Nat,∃y2:Nat,∃Z2:Option Addr,∃z2:Nat,∃X3:Option Addr,∃x3:Nat,∃y3:Nat,∃Z3:Option Addr,∃z3:Nat,3 - j=mz/\l=[(27,aM j),(6,cY de),(8,cY jY),(25,.slice (cS Gh) 3 3),(26,aG 3)]/\St w0 w [bk jY #[aM u1,aM u2,.slice Ap n0 cp,aM u1,aM ((Qw u1 (u1+n0+1,(k7 u1 ((u1+n0:Nat):Int) 0 es0),(lQ u1 n0)) (Nat.blt 0 j)).1),.slice X1 x1 y1,.slice Z1 n0 z1,aM u2,aM ((Qw u2 (u2+n0+1,(k7 u2 ((u2+n0:Nat):Int) 0 es0),(lQ u2 n0)) (Nat.blt 1 j)).1),.slice X2 x2 y2,.slice Z2 n0 z2,aM n0,aM ((Qw n0 (3*n0+1,(qC es0),(tZ n0)) (Nat.blt 2 j)).1),.slice X3 x3 y3,.slice Z3 n0 z3] 30,dQ X1 x1 y1 ((Qw u1 (u1+n0+1,(k7 u1 ((u1+n0:Nat):Int) 0 es0),(lQ u1 n0)) (Nat.blt 0 j)).2.1),cI Z1 n0 z1 ((Qw u1 (u1+n0+1,(k7 u1 ((u1+n0:Nat):Int) 0 es0),(lQ u1 n0)) (Nat.blt 0 j)).2.2),dQ X2 x2 y2 ((Qw u2 (u2+n0+1,(k7 u2 ((u2+n0:Nat):Int) 0 es0),(lQ u2 n0)) (Nat.blt 1 j)).2.1),cI Z2 n0 z2 ((Qw u2 (u2+n0+1,(k7 u2 ((u2+n0:Nat):Int) 0 es0),(lQ u2 n0)) (Nat.blt 1 j)).2.2),dQ X3 x3 y3 ((Qw n0 (3*n0+1,(qC es0),(tZ n0)) (Nat.blt 2 j)).2.1),cI Z3 n0 z3 ((Qw n0 (3*n0+1,(qC es0),(tZ n0)) (Nat.blt 2 j)).2.2),bk Gh #[.pointer (some ⟨jY,3,none⟩),.pointer (some ⟨jY,7,none⟩),.pointer (some ⟨jY,11,none⟩)] 77,lp Ap n0 cp es0,bk de #[aG 0,aG 0,bM,aG 0,aG 0,bM,bM,aG 0,aG 0,bM,bM,aG 0,aG 0,bM,bM] 30] [jD A0 n0 c0 es0,oP]/\j<=3/\(Qw u1 (u1+n0+1,(k7 u1 ((u1+n0:Nat):Int) 0 es0),(lQ u1 n0)) (Nat.blt 0 j)).2.1.length=x1/\(Qw u2 (u2+n0+1,(k7 u2 ((u2+n0:Nat):Int) 0 es0),(lQ u2 n0)) (Nat.blt 1 j)).2.1.length=x2/\(Qw n0 (3*n0+1,(qC es0),(tZ n0)) (Nat.blt 2 j)).2.1.length=x3) ⟨0,A1,m1,d1,B1,e1,A2,m2,d2,B2,e2,A3,m3,d3,B3,e3,I,I,σ.pick [1,3,4,5,6,7,8,0,2,9] [0,1] aB,(av _),mJ,mr,ua⟩ aT ?_
  rintro _ _ _ ⟨j,X1,x1,y1,Z1,z1,X2,x2,y2,Z2,z2,X3,x3,y3,Z3,z3,rfl,rfl,σ,hj,Cf,Fw,PU⟩
  rcases (show j=0∨j=1∨j=2∨j=3 by omega) with rfl|rfl|rfl|rfl
  ·replace σ:St w0 _ [bk jY #[aM u1,aM u2,.slice Ap n0 cp,aM u1,aM (u1+n0+1),.slice X1 x1 y1,.slice Z1 n0 z1,aM u2,aM (u2+n0+1),.slice X2 x2 y2,.slice Z2 n0 z2,aM n0,aM (3*n0+1),.slice X3 x3 y3,.slice Z3 n0 z3] 30,dQ X1 x1 y1 (k7 u1 ((u1+n0:Nat):Int) 0 es0),cI Z1 n0 z1 (lQ u1 n0),dQ X2 x2 y2 (k7 u2 ((u2+n0:Nat):Int) 0 es0),cI Z2 n0 z2 (lQ u2 n0),dQ X3 x3 y3 (qC es0),cI Z3 n0 z3 (tZ n0),bk Gh #[.pointer (some ⟨jY,3,none⟩),.pointer (some ⟨jY,7,none⟩),.pointer (some ⟨jY,11,none⟩)] 77,lp Ap n0 cp es0,bk de #[aG 0,aG 0,bM,aG 0,aG 0,bM,bM,aG 0,aG 0,bM,bM,aG 0,aG 0,bM,bM] 30] [jD A0 n0 c0 es0,oP]:=σ
   replace Cf:(k7 u1 ((u1+n0:Nat):Int) 0 es0).length=x1:=Cf
   replace Fw:(k7 u2 ((u2+n0:Nat):Int) 0 es0).length=x2:=Fw
   replace PU:(qC es0).length=x3:=PU
   refine il I<|kB (b':=true) aB<|iT I I<|vE I (fun η=>oq (i:=0) (p:=0) η underlying74 (eC.size) I I ae ae)<|lE 7 σ I<|cE I (fun η=>fT (cs:=[aM u1,aM (u1+n0+1),.slice X1 x1 y1,.slice Z1 n0 z1]) η bC I σ.gq I I)<|eE I<|fk call29 (Lg (i:=u1) (g:=u1+n0+1) (qi σ.l8 Cf) (qi σ.pI (CU _ _)) σ.dw (show mv (u1:Nat) ((u1+n0+1:Nat):Int) x1 n0 (k7 u1 ((u1+n0:Nat):Int) 0 es0) (lQ u1 n0) from by rw [<- Cf]; rw [<- mJ] at vW; exact vW) (oC _) hp1) rfl ?_
   rintro _ _ ⟨A57,m58,d59,B60,e61,rfl,wZ,xc⟩
   refine ⟨_,I,?_⟩
   replace σ:=σ.more wZ
   replace σ:=σ.pick [0,1,2,5,6,7,8,9,10,11] [0,1] aB
   replace σ:St w0 _ [dQ A57 m58 d59 (kW u1 (u1+n0+1) (k7 u1 ((u1+n0:Nat):Int) 0 es0) (lQ u1 n0)),cI B60 n0 e61 (oB u1 (u1+n0+1) (k7 u1 ((u1+n0:Nat):Int) 0 es0) (lQ u1 n0)),bk jY #[aM u1,aM u2,.slice Ap n0 cp,aM u1,aM (u1+n0+1),.slice X1 x1 y1,.slice Z1 n0 z1,aM u2,aM (u2+n0+1),.slice X2 x2 y2,.slice Z2 n0 z2,aM n0,aM (3*n0+1),.slice X3 x3 y3,.slice Z3 n0 z3] 30,dQ X2 x2 y2 (k7 u2 ((u2+n0:Nat):Int) 0 es0),cI Z2 n0 z2 (lQ u2 n0),dQ X3 x3 y3 (qC es0),cI Z3 n0 z3 (tZ n0),bk Gh #[.pointer (some ⟨jY,3,none⟩),.pointer (some ⟨jY,7,none⟩),.pointer (some ⟨jY,11,none⟩)] 77,lp Ap n0 cp es0,bk de #[aG 0,aG 0,bM,aG 0,aG 0,bM,bM,aG 0,aG 0,bM,bM,aG 0,aG 0,bM,bM] 30] [jD A0 n0 c0 es0,oP]:=σ
   exact eE I<|iR cM σ I fun _ K7 σ=>eE I<|fB 0 σ I fun _ σ=>lK I<|kB (b':=false) I<|iF I I<|gE 0 σ I<|eE I<|fB 3 σ I fun _ σ=>can (i:=0) (j:=1) I ae<|gI ⟨1,A57,m58,d59,B60,e61,X2,x2,y2,Z2,z2,X3,x3,y3,Z3,z3,I,I,σ.pick [3,1,2,4,5,6,7,8,9,10] [0,1] aB,ae,xc,Fw,PU⟩ aT ae
  ·replace σ:St w0 _ [bk jY #[aM u1,aM u2,.slice Ap n0 cp,aM u1,aM (pN u1 (u1+n0+1) (k7 u1 ((u1+n0:Nat):Int) 0 es0) (lQ u1 n0)),.slice X1 x1 y1,.slice Z1 n0 z1,aM u2,aM (u2+n0+1),.slice X2 x2 y2,.slice Z2 n0 z2,aM n0,aM (3*n0+1),.slice X3 x3 y3,.slice Z3 n0 z3] 30,dQ X1 x1 y1 (kW u1 (u1+n0+1) (k7 u1 ((u1+n0:Nat):Int) 0 es0) (lQ u1 n0)),cI Z1 n0 z1 (oB u1 (u1+n0+1) (k7 u1 ((u1+n0:Nat):Int) 0 es0) (lQ u1 n0)),dQ X2 x2 y2 (k7 u2 ((u2+n0:Nat):Int) 0 es0),cI Z2 n0 z2 (lQ u2 n0),dQ X3 x3 y3 (qC es0),cI Z3 n0 z3 (tZ n0),bk Gh #[.pointer (some ⟨jY,3,none⟩),.pointer (some ⟨jY,7,none⟩),.pointer (some ⟨jY,11,none⟩)] 77,lp Ap n0 cp es0,bk de #[aG 0,aG 0,bM,aG 0,aG 0,bM,bM,aG 0,aG 0,bM,bM,aG 0,aG 0,bM,bM] 30] [jD A0 n0 c0 es0,oP]:=σ
   replace Cf:(kW u1 (u1+n0+1) (k7 u1 ((u1+n0:Nat):Int) 0 es0) (lQ u1 n0)).length=x1:=Cf
   replace Fw:(k7 u2 ((u2+n0:Nat):Int) 0 es0).length=x2:=Fw
   replace PU:(qC es0).length=x3:=PU
   refine il I<|kB (b':=true) aB<|iT I I<|vE I (fun η=>oq (i:=1) (p:=1) η underlying74 (eC.size) I I ae ae)<|lE 7 σ I<|cE I (fun η=>fT (cs:=[aM u2,aM (u2+n0+1),.slice X2 x2 y2,.slice Z2 n0 z2]) η bC I σ.gq I I)<|eE I<|fk call29 (Lg (i:=u2) (g:=u2+n0+1) (qi σ.wF Fw) (qi σ.Dh (CU _ _)) σ.dw (show mv (u2:Nat) ((u2+n0+1:Nat):Int) x2 n0 (k7 u2 ((u2+n0:Nat):Int) 0 es0) (lQ u2 n0) from by rw [<- Fw]; rw [<- mr] at zG; exact zG) (oC _) Cp) rfl ?_
   rintro _ _ ⟨A65,m66,d67,B68,e69,rfl,Fq,aqg⟩
   refine ⟨_,I,?_⟩
   replace σ:=σ.more Fq
   replace σ:=σ.pick [0,1,2,3,4,7,8,9,10,11] [0,1] aB
   replace σ:St w0 _ [dQ A65 m66 d67 (kW u2 (u2+n0+1) (k7 u2 ((u2+n0:Nat):Int) 0 es0) (lQ u2 n0)),cI B68 n0 e69 (oB u2 (u2+n0+1) (k7 u2 ((u2+n0:Nat):Int) 0 es0) (lQ u2 n0)),bk jY #[aM u1,aM u2,.slice Ap n0 cp,aM u1,aM (pN u1 (u1+n0+1) (k7 u1 ((u1+n0:Nat):Int) 0 es0) (lQ u1 n0)),.slice X1 x1 y1,.slice Z1 n0 z1,aM u2,aM (u2+n0+1),.slice X2 x2 y2,.slice Z2 n0 z2,aM n0,aM (3*n0+1),.slice X3 x3 y3,.slice Z3 n0 z3] 30,dQ X1 x1 y1 (kW u1 (u1+n0+1) (k7 u1 ((u1+n0:Nat):Int) 0 es0) (lQ u1 n0)),cI Z1 n0 z1 (oB u1 (u1+n0+1) (k7 u1 ((u1+n0:Nat):Int) 0 es0) (lQ u1 n0)),dQ X3 x3 y3 (qC es0),cI Z3 n0 z3 (tZ n0),bk Gh #[.pointer (some ⟨jY,3,none⟩),.pointer (some ⟨jY,7,none⟩),.pointer (some ⟨jY,11,none⟩)] 77,lp Ap n0 cp es0,bk de #[aG 0,aG 0,bM,aG 0,aG 0,bM,bM,aG 0,aG 0,bM,bM,aG 0,aG 0,bM,bM] 30] [jD A0 n0 c0 es0,oP]:=σ
   exact eE I<|iR cM σ I fun _ g72 σ=>eE I<|fB 0 σ I fun _ σ=>lK I<|kB (b':=false) I<|iF I I<|gE 0 σ I<|eE I<|fB 3 σ I fun _ σ=>can (i:=1) (j:=1) I ae<|gI ⟨2,X1,x1,y1,Z1,z1,A65,m66,d67,B68,e69,X3,x3,y3,Z3,z3,I,I,σ.pick [3,4,5,1,2,6,7,8,9,10] [0,1] aB,ae,Cf,aqg,PU⟩ aT ae
  ·replace σ:St w0 _ [bk jY #[aM u1,aM u2,.slice Ap n0 cp,aM u1,aM (pN u1 (u1+n0+1) (k7 u1 ((u1+n0:Nat):Int) 0 es0) (lQ u1 n0)),.slice X1 x1 y1,.slice Z1 n0 z1,aM u2,aM (pN u2 (u2+n0+1) (k7 u2 ((u2+n0:Nat):Int) 0 es0) (lQ u2 n0)),.slice X2 x2 y2,.slice Z2 n0 z2,aM n0,aM (3*n0+1),.slice X3 x3 y3,.slice Z3 n0 z3] 30,dQ X1 x1 y1 (kW u1 (u1+n0+1) (k7 u1 ((u1+n0:Nat):Int) 0 es0) (lQ u1 n0)),cI Z1 n0 z1 (oB u1 (u1+n0+1) (k7 u1 ((u1+n0:Nat):Int) 0 es0) (lQ u1 n0)),dQ X2 x2 y2 (kW u2 (u2+n0+1) (k7 u2 ((u2+n0:Nat):Int) 0 es0) (lQ u2 n0)),cI Z2 n0 z2 (oB u2 (u2+n0+1) (k7 u2 ((u2+n0:Nat):Int) 0 es0) (lQ u2 n0)),dQ X3 x3 y3 (qC es0),cI Z3 n0 z3 (tZ n0),bk Gh #[.pointer (some ⟨jY,3,none⟩),.pointer (some ⟨jY,7,none⟩),.pointer (some ⟨jY,11,none⟩)] 77,lp Ap n0 cp es0,bk de #[aG 0,aG 0,bM,aG 0,aG 0,bM,bM,aG 0,aG 0,bM,bM,aG 0,aG 0,bM,bM] 30] [jD A0 n0 c0 es0,oP]:=σ
   replace Cf:(kW u1 (u1+n0+1) (k7 u1 ((u1+n0:Nat):Int) 0 es0) (lQ u1 n0)).length=x1:=Cf
   replace Fw:(kW u2 (u2+n0+1) (k7 u2 ((u2+n0:Nat):Int) 0 es0) (lQ u2 n0)).length=x2:=Fw
   replace PU:(qC es0).length=x3:=PU
   refine il I<|kB (b':=true) aB<|iT I I<|vE I (fun η=>oq (i:=2) (p:=2) η underlying74 (eC.size) I I ae ae)<|lE 7 σ I<|cE I (fun η=>fT (cs:=[aM n0,aM (3*n0+1),.slice X3 x3 y3,.slice Z3 n0 z3]) η bC I σ.gq I I)<|eE I<|fk call29 (Lg (i:=n0) (g:=3*n0+1) (qi σ.JW PU) (qi σ.OA (N5 _)) σ.dw (show mv (n0:Nat) ((3*n0+1:Nat):Int) x3 n0 (qC es0) (tZ n0) from by rw [<- PU]; rw [<- ua] at OW; exact OW) (Gg cQ) hp3) rfl ?_
   rintro _ _ ⟨A73,m74,d75,B76,e77,rfl,KP,YG⟩
   refine ⟨_,I,?_⟩
   replace σ:=σ.more KP
   replace σ:=σ.pick [0,1,2,3,4,5,6,9,10,11] [0,1] aB
   replace σ:St w0 _ [dQ A73 m74 d75 (kW n0 (3*n0+1) (qC es0) (tZ n0)),cI B76 n0 e77 (oB n0 (3*n0+1) (qC es0) (tZ n0)),bk jY #[aM u1,aM u2,.slice Ap n0 cp,aM u1,aM (pN u1 (u1+n0+1) (k7 u1 ((u1+n0:Nat):Int) 0 es0) (lQ u1 n0)),.slice X1 x1 y1,.slice Z1 n0 z1,aM u2,aM (pN u2 (u2+n0+1) (k7 u2 ((u2+n0:Nat):Int) 0 es0) (lQ u2 n0)),.slice X2 x2 y2,.slice Z2 n0 z2,aM n0,aM (3*n0+1),.slice X3 x3 y3,.slice Z3 n0 z3] 30,dQ X1 x1 y1 (kW u1 (u1+n0+1) (k7 u1 ((u1+n0:Nat):Int) 0 es0) (lQ u1 n0)),cI Z1 n0 z1 (oB u1 (u1+n0+1) (k7 u1 ((u1+n0:Nat):Int) 0 es0) (lQ u1 n0)),dQ X2 x2 y2 (kW u2 (u2+n0+1) (k7 u2 ((u2+n0:Nat):Int) 0 es0) (lQ u2 n0)),cI Z2 n0 z2 (oB u2 (u2+n0+1) (k7 u2 ((u2+n0:Nat):Int) 0 es0) (lQ u2 n0)),bk Gh #[.pointer (some ⟨jY,3,none⟩),.pointer (some ⟨jY,7,none⟩),.pointer (some ⟨jY,11,none⟩)] 77,lp Ap n0 cp es0,bk de #[aG 0,aG 0,bM,aG 0,aG 0,bM,bM,aG 0,aG 0,bM,bM,aG 0,aG 0,bM,bM] 30] [jD A0 n0 c0 es0,oP]:=σ
   exact eE I<|iR cM σ I fun _ g80 σ=>eE I<|fB 0 σ I fun _ σ=>lK I<|kB (b':=false) I<|iF I I<|gE 0 σ I<|eE I<|fB 3 σ I fun _ σ=>can (i:=2) (j:=1) I ae<|gI ⟨3,X1,x1,y1,Z1,z1,X2,x2,y2,Z2,z2,A73,m74,d75,B76,e77,I,I,σ.pick [3,4,5,6,7,1,2,8,9,10] [0,1] aB,ae,Cf,Fw,YG⟩ aT ae
  ·replace σ:St w0 _ [bk jY #[aM u1,aM u2,.slice Ap n0 cp,aM u1,aM (pN u1 (u1+n0+1) (k7 u1 ((u1+n0:Nat):Int) 0 es0) (lQ u1 n0)),.slice X1 x1 y1,.slice Z1 n0 z1,aM u2,aM (pN u2 (u2+n0+1) (k7 u2 ((u2+n0:Nat):Int) 0 es0) (lQ u2 n0)),.slice X2 x2 y2,.slice Z2 n0 z2,aM n0,aM (pN n0 (3*n0+1) (qC es0) (tZ n0)),.slice X3 x3 y3,.slice Z3 n0 z3] 30,dQ X1 x1 y1 (kW u1 (u1+n0+1) (k7 u1 ((u1+n0:Nat):Int) 0 es0) (lQ u1 n0)),cI Z1 n0 z1 (oB u1 (u1+n0+1) (k7 u1 ((u1+n0:Nat):Int) 0 es0) (lQ u1 n0)),dQ X2 x2 y2 (kW u2 (u2+n0+1) (k7 u2 ((u2+n0:Nat):Int) 0 es0) (lQ u2 n0)),cI Z2 n0 z2 (oB u2 (u2+n0+1) (k7 u2 ((u2+n0:Nat):Int) 0 es0) (lQ u2 n0)),dQ X3 x3 y3 (kW n0 (3*n0+1) (qC es0) (tZ n0)),cI Z3 n0 z3 (oB n0 (3*n0+1) (qC es0) (tZ n0)),bk Gh #[.pointer (some ⟨jY,3,none⟩),.pointer (some ⟨jY,7,none⟩),.pointer (some ⟨jY,11,none⟩)] 77,lp Ap n0 cp es0,bk de #[aG 0,aG 0,bM,aG 0,aG 0,bM,bM,aG 0,aG 0,bM,bM,aG 0,aG 0,bM,bM] 30] [jD A0 n0 c0 es0,oP]:=σ
   replace Cf:(kW u1 (u1+n0+1) (k7 u1 ((u1+n0:Nat):Int) 0 es0) (lQ u1 n0)).length=x1:=Cf
   replace Fw:(kW u2 (u2+n0+1) (k7 u2 ((u2+n0:Nat):Int) 0 es0) (lQ u2 n0)).length=x2:=Fw
   replace PU:(kW n0 (3*n0+1) (qC es0) (tZ n0)).length=x3:=PU
   exact il I<|kB (b':=false) aB<|iF I I<|gE 0 σ I<|eE I<|fB 9 σ I fun _ σ=>oR (fun e=>lk results7 (RV.cell e iG I (σ.pV (k:=9) I) I) (RV.tmp e I))<|.inr (.inr ⟨hL,yd,yc,u1,u2,I,I,Ap,cp,X1,x1,y1,Z1,z1,X2,x2,y2,Z2,z2,X3,x3,y3,Z3,z3,I,σ.pick [8,1,2,3,4,5,6] [] aB,Cf,Fw,PU⟩)
structure Un where
 k1:Nat
 k2:Nat
 n:Nat
 Ap:Option Addr
 cp:Nat
 ps:List Pt
 gL:Nat
 A0:Option Addr
 n0:Nat
 c0:Nat
 e0:List IE
 A1:Option Addr
 c1:Nat
 e1:List Int
 gR:Nat
 A3:Option Addr
 n3:Nat
 c3:Nat
 e3:List IE
 A4:Option Addr
 c4:Nat
 e4:List Int
 gB:Nat
 A5:Option Addr
 n5:Nat
 c5:Nat
 e5:List IE
 A6:Option Addr
 c6:Nat
 e6:List Int
structure Un.Ok (u:Un):Prop where
 xg:(1<=u.k1/\u.k1<=8)/\(1<=u.k2/\u.k2<=8)/\∀p∈u.ps,pU p
 num:u.n+1=u.k1+u.k2
 xw:lI u.ps
 len:u.ps.length=u.n
 cL:mv (u.k1:Nat) (u.gL:Nat) u.n0 u.n u.e0 u.e1
 cR:mv (u.k2:Nat) (u.gR:Nat) u.n3 u.n u.e3 u.e4
 cB:mv (u.n:Nat) (u.gB:Nat) u.n5 u.n u.e5 u.e6
 pL:oY u.k1 u.gL u.k1 (zf u.k1) u.e0 u.e1 (u.ps.map fun q=>rf u.k1 (p8 u.k1 q))
 pR:oY u.k2 u.gR u.k2 (zf u.k2) u.e3 u.e4 (u.ps.map fun q=>rf u.k2 (p8 u.k2 q))
 pB:oY u.n u.gB u.n (C8 u.ps) u.e5 u.e6 (zf u.n)
 nL:∀e∈u.e0,sB e
 nR:∀e∈u.e3,sB e
structure Un.Mem (u:Un) (w:World):Prop where
 mP:(jD u.Ap u.n u.cp u.ps).P w
 m0:(fC u.A0 u.n0 u.c0 u.e0).P w
 m1:(fg u.A1 u.n u.c1 u.e1).P w
 m3:(fC u.A3 u.n3 u.c3 u.e3).P w
 m4:(fg u.A4 u.n u.c4 u.e4).P w
 m5:(fC u.A5 u.n5 u.c5 u.e5).P w
 m6:(fg u.A6 u.n u.c6 u.e6).P w
variable {u:Un}
theorem Un.Ok.aks (h:u.Ok):Co u.ps:=⟨h.xw.some_.1,h.xw.some_.2,h.xg.2.2⟩
theorem ZK (h:lI l):¬wa l:=CE h
theorem akt (h0:(jD u.Ap u.n u.cp u.ps).P w0) (dy:u.Ok):Calls prog 39 #[aM u.k1,aM u.k2,.slice u.Ap u.n u.cp] w0 fun e w'=>∃v:Value,e=.returned (.tuple #[v,aG 0])/\Below w0.heap.size w0 w':=by
 have h1:=dy.xg
 have h2:=dy.num
 refine (Vs h0 ae).mono ?_
 rintro e w' ⟨v,er,he,hc,hb⟩
 rcases hc with ⟨_,q⟩ | ⟨_,_,q⟩ | ⟨rfl,_⟩
 ·exact absurd ⟨⟨by omega,by omega⟩,⟨by omega,by omega⟩,h1.2.2⟩ q
 ·rcases q with q | ⟨p,hp,q⟩ | q
  ·omega
  ·exact absurd q (dy.xw.tQ p hp).2
  ·exact absurd q (ZK dy.xw)
 ·exact ⟨v,he,hb⟩
theorem aku (dy:u.Ok) (hm:u.Mem w0) (hU:(bk gU #[aM u.k1,aM u.k2,.slice u.Ap u.n u.cp,aM u.k1,aM u.gL,.slice u.A0 u.n0 u.c0,.slice u.A1 u.n u.c1,aM u.k2,aM u.gR,.slice u.A3 u.n3 u.c3,.slice u.A4 u.n u.c4,aM u.n,aM u.gB,.slice u.A5 u.n5 u.c5,.slice u.A6 u.n u.c6] 30).P w0):
  Calls prog 73 #[.agg (lN u.k1 u.gL u.A0 u.n0 u.c0 u.A1 u.n u.c1),cY gU] w0 fun e w'=>e=.returned (.tuple #[.bool true,aG 0])/\Below w0.heap.size w0 w':=by
 refine gQ func73 I ntmps73 I fun σ=>?_
 replace σ:=σ.aY hm.m6
 replace σ:=σ.aY hm.m5
 replace σ:=σ.aY hm.m4
 replace σ:=σ.aY hm.m3
 replace σ:=σ.aY hm.m1
 replace σ:=σ.aY hm.m0
 replace σ:=σ.aY hm.mP
 replace σ:=σ.lZ (bk gU #[aM u.k1,aM u.k2,.slice u.Ap u.n u.cp,aM u.k1,aM u.gL,.slice u.A0 u.n0 u.c0,.slice u.A1 u.n u.c1,aM u.k2,aM u.gR,.slice u.A3 u.n3 u.c3,.slice u.A4 u.n u.c4,aM u.n,aM u.gB,.slice u.A5 u.n5 u.c5,.slice u.A6 u.n u.c6] 30) hU
 exact eE I<|ll σ I fun _ de σ=>gE 0 σ I<|cE I (fun η=>cC η bn I (ou σ.bW) I)<|cE I (fun η=>cC η rJ I (ou σ.bW) I)<|eE I<|gV call74 (Je σ.fX σ.kC σ.dw dy.xg.1 dy.cL dy.aks dy.nL dy.pL) σ I fun _ σ=>o2 results73 I<|⟨I,σ.below⟩
theorem akv (dy:u.Ok) (hm:u.Mem w0) (hU:(bk gU #[aM u.k1,aM u.k2,.slice u.Ap u.n u.cp,aM u.k1,aM u.gL,.slice u.A0 u.n0 u.c0,.slice u.A1 u.n u.c1,aM u.k2,aM u.gR,.slice u.A3 u.n3 u.c3,.slice u.A4 u.n u.c4,aM u.n,aM u.gB,.slice u.A5 u.n5 u.c5,.slice u.A6 u.n u.c6] 30).P w0):
  Calls prog 75 #[.agg (lN u.k2 u.gR u.A3 u.n3 u.c3 u.A4 u.n u.c4),cY gU] w0 fun e w'=>e=.returned (.tuple #[.bool true,aG 0])/\Below w0.heap.size w0 w':=by
 refine gQ func75 I ntmps75 I fun σ=>?_
 replace σ:=σ.aY hm.m6
 replace σ:=σ.aY hm.m5
 replace σ:=σ.aY hm.m4
 replace σ:=σ.aY hm.m3
 replace σ:=σ.aY hm.m1
 replace σ:=σ.aY hm.m0
 replace σ:=σ.aY hm.mP
 replace σ:=σ.lZ (bk gU #[aM u.k1,aM u.k2,.slice u.Ap u.n u.cp,aM u.k1,aM u.gL,.slice u.A0 u.n0 u.c0,.slice u.A1 u.n u.c1,aM u.k2,aM u.gR,.slice u.A3 u.n3 u.c3,.slice u.A4 u.n u.c4,aM u.n,aM u.gB,.slice u.A5 u.n5 u.c5,.slice u.A6 u.n u.c6] 30) hU
 exact eE I<|ll σ I fun _ de σ=>gE 0 σ I<|cE I (fun η=>cC η bn I (ou σ.bW) I)<|cE I (fun η=>cC η rJ I (ou σ.bW) I)<|eE I<|gV call74 (Je σ.nX σ.rK σ.dw dy.xg.2.1 dy.cR dy.aks dy.nR dy.pR) σ I fun _ σ=>o2 results75 I<|⟨I,σ.below⟩
theorem akw (dy:u.Ok) (hm:u.Mem w0) (hU:(bk gU #[aM u.k1,aM u.k2,.slice u.Ap u.n u.cp,aM u.k1,aM u.gL,.slice u.A0 u.n0 u.c0,.slice u.A1 u.n u.c1,aM u.k2,aM u.gR,.slice u.A3 u.n3 u.c3,.slice u.A4 u.n u.c4,aM u.n,aM u.gB,.slice u.A5 u.n5 u.c5,.slice u.A6 u.n u.c6] 30).P w0):
  Calls prog 76 #[.agg (lN u.n u.gB u.A5 u.n5 u.c5 u.A6 u.n u.c6),cY gU] w0 fun e w'=>e=.returned (.tuple #[.bool true,aG 0])/\Below w0.heap.size w0 w':=by
 refine gQ func76 I ntmps76 I fun σ=>?_
 replace σ:=σ.aY hm.m6
 replace σ:=σ.aY hm.m5
 replace σ:=σ.aY hm.m4
 replace σ:=σ.aY hm.m3
 replace σ:=σ.aY hm.m1
 replace σ:=σ.aY hm.m0
 replace σ:=σ.aY hm.mP
 replace σ:=σ.lZ (bk gU #[aM u.k1,aM u.k2,.slice u.Ap u.n u.cp,aM u.k1,aM u.gL,.slice u.A0 u.n0 u.c0,.slice u.A1 u.n u.c1,aM u.k2,aM u.gR,.slice u.A3 u.n3 u.c3,.slice u.A4 u.n u.c4,aM u.n,aM u.gB,.slice u.A5 u.n5 u.c5,.slice u.A6 u.n u.c6] 30) hU
 exact eE I<|ll σ I fun _ de σ=>gE 0 σ I<|cE I (fun η=>cC η rJ I (ou σ.bW) I)<|eE I<|gV call77 (PT σ.rX (σ.pat (k:=7) I) σ.dw dy.cB dy.xw dy.pB) σ I fun _ σ=>o2 results76 I<|⟨I,σ.below⟩
theorem Vu:
  Calls prog 40 #[.agg #[aM u.k1,aM u.k2,.slice u.Ap u.n u.cp,aM u.k1,aM u.gL,.slice u.A0 u.n0 u.c0,.slice u.A1 u.n u.c1,aM u.k2,aM u.gR,.slice u.A3 u.n3 u.c3,.slice u.A4 u.n u.c4,aM u.n,aM u.gB,.slice u.A5 u.n5 u.c5,.slice u.A6 u.n u.c6]] w0 fun e w'=>∃gU gP,e=.returned (.slice (cS gP) 3 3)/\St w0 w' [bk gP #[aM u.k1,aM u.gL,.slice u.A0 u.n0 u.c0,.slice u.A1 u.n u.c1,.func (.func 73) #[] #[cY gU],aM u.k2,aM u.gR,.slice u.A3 u.n3 u.c3,.slice u.A4 u.n u.c4,.func (.func 75) #[] #[cY gU],aM u.n,aM u.gB,.slice u.A5 u.n5 u.c5,.slice u.A6 u.n u.c6,.func (.func 76) #[] #[cY gU]] 108,bk gU #[aM u.k1,aM u.k2,.slice u.Ap u.n u.cp,aM u.k1,aM u.gL,.slice u.A0 u.n0 u.c0,.slice u.A1 u.n u.c1,aM u.k2,aM u.gR,.slice u.A3 u.n3 u.c3,.slice u.A4 u.n u.c4,aM u.n,aM u.gB,.slice u.A5 u.n5 u.c5,.slice u.A6 u.n u.c6] 30] []:=by
 exact gQ func40 I ntmps40 I fun σ=>eE I<|ll σ I fun _ de σ=>cE I (fun η=>fT (cs:=[aM u.k1,aM u.gL,.slice u.A0 u.n0 u.c0,.slice u.A1 u.n u.c1]) η bC I σ.gq I I)<|vE I (fun η=>fi (us:=#[]) (vs:=#[cY de]) η I I)<|vE I (fun η=>eV (c:=#[aM u.k1,aM u.gL,.slice u.A0 u.n0 u.c0,.slice u.A1 u.n u.c1,.func (.func 73) #[] #[cY de]]) nv η I I)<|cE I (fun η=>fT (cs:=[aM u.k2,aM u.gR,.slice u.A3 u.n3 u.c3,.slice u.A4 u.n u.c4]) η bC I σ.gq I I)<|vE I (fun η=>fi (us:=#[]) (vs:=#[cY de]) η I I)<|vE I (fun η=>eV (c:=#[aM u.k2,aM u.gR,.slice u.A3 u.n3 u.c3,.slice u.A4 u.n u.c4,.func (.func 75) #[] #[cY de]]) nv η I I)<|cE I (fun η=>fT (cs:=[aM u.n,aM u.gB,.slice u.A5 u.n5 u.c5,.slice u.A6 u.n u.c6]) η bC I σ.gq I I)<|vE I (fun η=>fi (us:=#[]) (vs:=#[cY de]) η I I)<|vE I (fun η=>eV (c:=#[aM u.n,aM u.gB,.slice u.A5 u.n5 u.c5,.slice u.A6 u.n u.c6,.func (.func 76) #[] #[cY de]]) nv η I I)<|eE I<|mi (z:=5) #[aM u.k1,aM u.gL,.slice u.A0 u.n0 u.c0,.slice u.A1 u.n u.c1,.func (.func 73) #[] #[cY de],aM u.k2,aM u.gR,.slice u.A3 u.n3 u.c3,.slice u.A4 u.n u.c4,.func (.func 75) #[] #[cY de],aM u.n,aM u.gB,.slice u.A5 u.n5 u.c5,.slice u.A6 u.n u.c6,.func (.func 76) #[] #[cY de]] σ (jf.size) k8 I bI fun _ eQ σ=>o1 results40 I<|⟨_,_,I,σ.pick [0,1] [] aB⟩
theorem Gi (dy:u.Ok) (hm:u.Mem w0):
  Calls prog 22 #[.agg #[aM u.k1,aM u.k2,.slice u.Ap u.n u.cp,aM u.k1,aM u.gL,.slice u.A0 u.n0 u.c0,.slice u.A1 u.n u.c1,aM u.k2,aM u.gR,.slice u.A3 u.n3 u.c3,.slice u.A4 u.n u.c4,aM u.n,aM u.gB,.slice u.A5 u.n5 u.c5,.slice u.A6 u.n u.c6]] w0 fun e w'=>e=.returned (.tuple #[aG 0,aG 0])/\Below w0.heap.size w0 w':=by
 refine gQ func22 I ntmps22 I fun σ=>?_
 replace σ:=σ.aY hm.m6
 replace σ:=σ.aY hm.m5
 replace σ:=σ.aY hm.m4
 replace σ:=σ.aY hm.m3
 replace σ:=σ.aY hm.m1
 replace σ:=σ.aY hm.m0
 replace σ:=σ.aY hm.mP
 refine eE I<|ll σ I fun _ de σ=>lE 0 σ I<|lE 0 σ I<|lE 0 σ I<|eE I<|fk call39 (akt σ.bW dy) I ?_
 rintro _ _ ⟨v9,rfl,hb⟩
 refine ⟨_,I,?_⟩
 replace σ:=σ.call hb
 refine lK I<|kB (b':=false) I<|iF I I<|gE 0 σ I<|eE I<|fk call40 (Vu (u:=u)) I ?_
 rintro _ _ ⟨gU,gP,rfl,hSp⟩
 refine ⟨_,I,?_⟩
 replace σ:=σ.more hSp
 refine ks (fun mz l w=>∃j:Nat,3 - j=mz/\l=[(27,aM j),(25,.slice (cS gP) 3 3),(26,aG 3)]/\St w0 w [bk gP #[aM u.k1,aM u.gL,.slice u.A0 u.n0 u.c0,.slice u.A1 u.n u.c1,.func (.func 73) #[] #[cY gU],aM u.k2,aM u.gR,.slice u.A3 u.n3 u.c3,.slice u.A4 u.n u.c4,.func (.func 75) #[] #[cY gU],aM u.n,aM u.gB,.slice u.A5 u.n5 u.c5,.slice u.A6 u.n u.c6,.func (.func 76) #[] #[cY gU]] 108,bk gU #[aM u.k1,aM u.k2,.slice u.Ap u.n u.cp,aM u.k1,aM u.gL,.slice u.A0 u.n0 u.c0,.slice u.A1 u.n u.c1,aM u.k2,aM u.gR,.slice u.A3 u.n3 u.c3,.slice u.A4 u.n u.c4,aM u.n,aM u.gB,.slice u.A5 u.n5 u.c5,.slice u.A6 u.n u.c6] 30,bk de #[aM u.k1,aM u.k2,.slice u.Ap u.n u.cp,aM u.k1,aM u.gL,.slice u.A0 u.n0 u.c0,.slice u.A1 u.n u.c1,aM u.k2,aM u.gR,.slice u.A3 u.n3 u.c3,.slice u.A4 u.n u.c4,aM u.n,aM u.gB,.slice u.A5 u.n5 u.c5,.slice u.A6 u.n u.c6] 30] [jD u.Ap u.n u.cp u.ps,fC u.A0 u.n0 u.c0 u.e0,fg u.A1 u.n u.c1 u.e1,fC u.A3 u.n3 u.c3 u.e3,fg u.A4 u.n u.c4 u.e4,fC u.A5 u.n5 u.c5 u.e5,fg u.A6 u.n u.c6 u.e6]/\j<=3) ⟨0,I,I,σ,(av _)⟩ aT ?_
 rintro _ _ _ ⟨j,rfl,rfl,σ,hj⟩
 rcases (show j=0∨j=1∨j=2∨j=3 by omega) with rfl|rfl|rfl|rfl
 ·refine il I<|kB (b':=true) aB<|iT I I<|vE I (fun η=>oq (i:=0) (p:=0) η underlying104 (jf.size) I I ae ae)<|cE I (fun η=>fT (cs:=[aM u.k1,aM u.gL,.slice u.A0 u.n0 u.c0,.slice u.A1 u.n u.c1,.func (.func 73) #[] #[cY gU]]) η jf I σ.gq I I)<|eE I<|iR k8 σ I fun _ eQ σ=>eE I<|fB 0 σ I fun _ σ=>cE I (fun η=>fT (cs:=[aM u.k1,aM u.gL,.slice u.A0 u.n0 u.c0,.slice u.A1 u.n u.c1]) η bC I σ.gq I I)<|eE I<|gV call41 (kR σ.dw σ.fX dy.cL) σ I fun _ σ=>lK I<|kB (b':=false) I<|iF I I<|lE 0 σ I<|cE I (fun η=>fT (cs:=[aM u.k1,aM u.gL,.slice u.A0 u.n0 u.c0,.slice u.A1 u.n u.c1]) η bC I σ.gq I I)<|eE I<|sH call73 I (aku dy ⟨σ.bW,σ.dw,σ.fX,σ.kC,σ.nX,σ.rK,σ.rX⟩ σ.pI) I ?_
  rintro _ _ ⟨rfl,hb⟩
  refine ⟨_,I,?_⟩
  replace σ:=σ.call hb
  exact lK I<|kB (b':=false) I<|iF I I<|can (j:=1) I ae<|gI ⟨1,I,I,σ.pick [1,2,3] [0,1,2,3,4,5,6] aB,ae⟩ aT ae
 ·refine il I<|kB (b':=true) aB<|iT I I<|vE I (fun η=>oq (i:=1) (p:=5) η underlying104 (jf.size) I I ae ae)<|cE I (fun η=>fT (cs:=[aM u.k2,aM u.gR,.slice u.A3 u.n3 u.c3,.slice u.A4 u.n u.c4,.func (.func 75) #[] #[cY gU]]) η jf I σ.gq I I)<|eE I<|iR k8 σ I fun _ jh σ=>eE I<|fB 0 σ I fun _ σ=>cE I (fun η=>fT (cs:=[aM u.k2,aM u.gR,.slice u.A3 u.n3 u.c3,.slice u.A4 u.n u.c4]) η bC I σ.gq I I)<|eE I<|gV call41 (kR σ.kC σ.nX dy.cR) σ I fun _ σ=>lK I<|kB (b':=false) I<|iF I I<|lE 0 σ I<|cE I (fun η=>fT (cs:=[aM u.k2,aM u.gR,.slice u.A3 u.n3 u.c3,.slice u.A4 u.n u.c4]) η bC I σ.gq I I)<|eE I<|sH call75 I (akv dy ⟨σ.bW,σ.dw,σ.fX,σ.kC,σ.nX,σ.rK,σ.rX⟩ σ.pI) I ?_
  rintro _ _ ⟨rfl,hb⟩
  refine ⟨_,I,?_⟩
  replace σ:=σ.call hb
  exact lK I<|kB (b':=false) I<|iF I I<|can (j:=1) I ae<|gI ⟨2,I,I,σ.pick [1,2,3] [0,1,2,3,4,5,6] aB,ae⟩ aT ae
 ·refine il I<|kB (b':=true) aB<|iT I I<|vE I (fun η=>oq (i:=2) (p:=10) η underlying104 (jf.size) I I ae ae)<|cE I (fun η=>fT (cs:=[aM u.n,aM u.gB,.slice u.A5 u.n5 u.c5,.slice u.A6 u.n u.c6,.func (.func 76) #[] #[cY gU]]) η jf I σ.gq I I)<|eE I<|iR k8 σ I fun _ jY σ=>eE I<|fB 0 σ I fun _ σ=>cE I (fun η=>fT (cs:=[aM u.n,aM u.gB,.slice u.A5 u.n5 u.c5,.slice u.A6 u.n u.c6]) η bC I σ.gq I I)<|eE I<|gV call41 (kR σ.rK σ.rX dy.cB) σ I fun _ σ=>lK I<|kB (b':=false) I<|iF I I<|lE 0 σ I<|cE I (fun η=>fT (cs:=[aM u.n,aM u.gB,.slice u.A5 u.n5 u.c5,.slice u.A6 u.n u.c6]) η bC I σ.gq I I)<|eE I<|sH call76 I (akw dy ⟨σ.bW,σ.dw,σ.fX,σ.kC,σ.nX,σ.rK,σ.rX⟩ σ.pI) I ?_
  rintro _ _ ⟨rfl,hb⟩
  refine ⟨_,I,?_⟩
  replace σ:=σ.call hb
  exact lK I<|kB (b':=false) I<|iF I I<|can (j:=1) I ae<|gI ⟨3,I,I,σ.pick [1,2,3] [0,1,2,3,4,5,6] aB,ae⟩ aT ae
 ·exact il I<|kB (b':=false) aB<|iF I I<|o2 results22 I<|⟨I,σ.below⟩
abbrev uW (u:Un):Array Value:=#[.int .i64 (u.k1:Nat),.int .i64 (u.k2:Nat),.slice u.Ap u.n u.cp,.int .i64 (u.k1:Nat),.int .i64 (u.gL:Nat),.slice u.A0 u.n0 u.c0,.slice u.A1 u.n u.c1,.int .i64 (u.k2:Nat),.int .i64 (u.gR:Nat),.slice u.A3 u.n3 u.c3,.slice u.A4 u.n u.c4,.int .i64 (u.n:Nat),.int .i64 (u.gB:Nat),.slice u.A5 u.n5 u.c5,.slice u.A6 u.n u.c6]
def tW:PF:=⟨x',fun b=>b=0,fun h e=>by
 subst e
 have:=h 0 aB
 rcases aV 0 (World.heap _).size with q | q
 ·exact q
 ·exact absurd this (by simp [World.cell?,eF q]),fun h _ hk j hj=>(World.cell?_of_block (hk 0 I)).trans (h j hj)⟩
theorem St.Jj (h:St w0 w0 [] ps) (hw:x' w0):St w0 w0 [] (tW::ps):=h.l9 tW hw fun e he=>by cases he
theorem rE {c z:Int} (h:px op c [x] [y]=some [z]):(op=2->z=-x)/\(op=3->z=x+y)/\(op=4->z=x - y)/\(op=5->z=x*c)/\(op=6->x%c=0/\z=x / c)/\(op=7->z=x*2 ^ c.toNat)/\(op=8->x%2 ^ c.toNat=0/\z=x / 2 ^ c.toNat)/\(¬(2<=op/\op<=8)->z=x):=by
 refine ⟨fun e=>?_,fun e=>?_,fun e=>?_,fun e=>?_,fun e=>?_,fun e=>?_,fun e=>?_,fun e=>?_⟩
 ·subst e; simpa [px] using h.symm
 ·subst e; simpa [px] using h.symm
 ·subst e; simpa [px] using h.symm
 ·subst e; simpa [px] using h.symm
 ·subst e
  have h':(if y7 c [x] then some ([x].map fun v=>v / c) else none)=some [z]:=h
  obtain ⟨h1,h2⟩:=sy h'
  exact ⟨by simpa [y7] using h1,by simpa using h2.symm⟩
 ·subst e; simpa [px] using h.symm
 ·subst e
  have h':(if y7 (2 ^ c.toNat) [x] then some ([x].map fun v=>v / 2 ^ c.toNat) else none)=some [z]:=h
  obtain ⟨h1,h2⟩:=sy h'
  exact ⟨by simpa [y7] using h1,by simpa using h2.symm⟩
 ·unfold px at h
  rw [ak ae,ak ae,ak ae,ak ae,ak ae,ak ae,ak ae] at h
  simpa using h.symm
theorem Vv (hx:iY w0 A c x) (hn:zl x<=1000000) (hs:n<=65536) (hd:x%2 ^ n=0) (hT:x' w0):
  Calls prog 222 #[.agg #[.bool (neg x),.slice A (zl x) c],aM n] w0 fun e w'=>∃v,e=.returned (.tuple #[v,aG 0])/\sL w' v (x / 2 ^ n)/\Below w0.heap.size w0 w':=by
 by_cases h0:x=0
 ·subst h0
  refine (PM hx ae).mono ?_
  rintro e w' ⟨he,hb⟩
  exact ⟨_,he,⟨none,0,by rw [Int.zero_ediv],by rw [Int.zero_ediv]; exact uz _⟩,hb⟩
 ·exact Zv hx hn hs h0 (iC hd) hT
theorem afJ (hx:iY w0 A c x) (hy:iY w0 B d y):
  Calls prog 216 #[.agg #[.bool (neg x),.slice A (zl x) c],.agg #[.bool (neg y),.slice B (zl y) d]] w0 fun e w'=>∃v,e=.returned v/\sL w' v (-x)/\Below w0.heap.size w0 w':=by
 refine gQ func216 I ntmps216 I fun σ=>?_
 replace σ:=σ.j8 hy trivial
 replace σ:=σ.j8 hx trivial
 refine eE I<|ll σ I fun _ de σ=>eE I<|ll σ I fun _ eQ σ=>eE I<|iR bA σ I fun _ jh σ=>gE 2 σ I<|eE I<|fk call62 (QN (z:=x) (show iY _ A c x from σ.bW)) I ?_
 rintro _ _ ⟨_,rfl,⟨xe,uL,rfl,uU⟩,hb⟩
 refine ⟨_,I,?_⟩
 replace σ:=(σ.call hb).j8 uU ⟨bV I,bV I,bV I,trivial⟩
 exact eE I<|fB 0 σ I fun _ σ=>oR (fun e=>iJ results216 (RV.cell e az I σ.gq I))<|⟨_,I,⟨xe,uL,I,σ.bW⟩,σ.below⟩
theorem akx (hx:iY w0 A c x) (hy:iY w0 B d y):
  Calls prog 223 #[.agg #[.bool (neg x),.slice A (zl x) c],.agg #[.bool (neg y),.slice B (zl y) d]] w0 fun e w'=>∃v,e=.returned v/\sL w' v (x)/\Below w0.heap.size w0 w':=by
 refine gQ func223 I ntmps223 I fun σ=>?_
 replace σ:=σ.j8 hy trivial
 replace σ:=σ.j8 hx trivial
 exact eE I<|ll σ I fun _ de σ=>eE I<|ll σ I fun _ eQ σ=>eE I<|iR bA σ I fun _ jh σ=>gE 2 σ I<|eE I<|fB 0 σ I fun _ σ=>oR (fun e=>iJ results223 (RV.cell e az I σ.gq I))<|⟨_,I,⟨A,c,I,σ.bW⟩,σ.below⟩
theorem Vw {gi:Nat} (hi:(bk gi #[aG op,aG tr,aG ra,aG rb,aG cn] 116).P w0) (hx:iY w0 A c x) (hy:iY w0 B d y) (hzx:zl x<=90000) (hcn:-512<=cn/\cn<=512):
  Calls prog 217 #[.agg #[.bool (neg x),.slice A (zl x) c],.agg #[.bool (neg y),.slice B (zl y) d],cY gi] w0 fun e w'=>∃v,e=.returned v/\sL w' v (x*cn)/\Below w0.heap.size w0 w':=by
 refine gQ func217 I ntmps217 I fun σ=>?_
 replace σ:=σ.j8 hy trivial
 replace σ:=σ.j8 hx trivial
 replace σ:=σ.lZ (bk gi #[aG op,aG tr,aG ra,aG rb,aG cn] 116) hi
 refine eE I<|ll σ I fun _ de σ=>eE I<|ll σ I fun _ eQ σ=>eE I<|iR bA σ I fun _ jh σ=>gE 2 σ I<|cE I (fun η=>cC η bn I (ou σ.bW) I)<|eE I<|fk call162 (Ex (x:=x) (n:=cn) (show iY _ A c x from σ.dw) ae ae ae) I ?_
 rintro _ _ ⟨_,rfl,⟨xe,uL,rfl,uU⟩,hb⟩
 refine ⟨_,I,?_⟩
 replace σ:=(σ.call hb).j8 uU ⟨bV I,bV I,bV I,trivial⟩
 exact eE I<|fB 0 σ I fun _ σ=>oR (fun e=>iJ results217 (RV.cell e az I σ.gq I))<|⟨_,I,⟨xe,uL,I,σ.bW⟩,σ.below⟩
theorem afL {gi:Nat} (hi:(bk gi #[aG op,aG tr,aG ra,aG rb,aM cm] 116).P w0) (hx:iY w0 A c x) (hy:iY w0 B d y) (hzx:zl x<=90000) (KA:cm<=64):
  Calls prog 220 #[.agg #[.bool (neg x),.slice A (zl x) c],.agg #[.bool (neg y),.slice B (zl y) d],cY gi] w0 fun e w'=>∃v,e=.returned v/\sL w' v (x*2 ^ cm)/\Below w0.heap.size w0 w':=by
 refine gQ func220 I ntmps220 I fun σ=>?_
 replace σ:=σ.j8 hy trivial
 replace σ:=σ.j8 hx trivial
 replace σ:=σ.lZ (bk gi #[aG op,aG tr,aG ra,aG rb,aM cm] 116) hi
 refine eE I<|ll σ I fun _ de σ=>eE I<|ll σ I fun _ eQ σ=>eE I<|iR bA σ I fun _ jh σ=>gE 2 σ I<|cE I (fun η=>cC η bn I (ou σ.bW) I)<|eE I<|fk call58 (NU (n:=cm) (show iY _ A c x from σ.dw) ae ae) I ?_
 rintro _ _ ⟨_,rfl,⟨xe,uL,rfl,uU⟩,hb⟩
 refine ⟨_,I,?_⟩
 replace σ:=(σ.call hb).j8 uU ⟨bV I,bV I,bV I,trivial⟩
 exact eE I<|iR bA σ I fun _ xW σ=>eE I<|fB 0 σ I fun _ σ=>gE 0 σ I<|eE I<|fB 1 σ I fun _ σ=>oR (fun e=>iJ results220 (RV.cell e az I σ.vN I))<|⟨_,I,⟨xe,uL,I,σ.bW⟩,σ.below⟩
theorem ZM {gi:Nat} (hi:(bk gi #[aG op,aG tr,aG ra,aG rb,aG cn] 116).P w0) (hx:iY w0 A c x) (hy:iY w0 B d y) (hzx:zl x<=90000) (hcn:-512<=cn/\cn<=512) (vK:cn≠0) (Wn:x%cn=0):
  Calls prog 218 #[.agg #[.bool (neg x),.slice A (zl x) c],.agg #[.bool (neg y),.slice B (zl y) d],cY gi] w0 fun e w'=>∃v,e=.returned (.tuple #[v,.bool true])/\sL w' v (x / cn)/\Below w0.heap.size w0 w':=by
 refine gQ func218 I ntmps218 I fun σ=>?_
 replace σ:=σ.j8 hy trivial
 replace σ:=σ.j8 hx trivial
 replace σ:=σ.lZ (bk gi #[aG op,aG tr,aG ra,aG rb,aG cn] 116) hi
 refine eE I<|ll σ I fun _ de σ=>eE I<|ll σ I fun _ eQ σ=>eE I<|iR bA σ I fun _ jh σ=>gE 2 σ I<|cE I (fun η=>cC η bn I (ou σ.bW) I)<|eE I<|fk call219 (ZL (show iY _ A c x from σ.dw) hzx ae ae vK Wn) I ?_
 rintro _ _ ⟨_,rfl,⟨xe,uL,rfl,uU⟩,hb⟩
 refine ⟨_,I,?_⟩
 replace σ:=(σ.call hb).j8 uU ⟨bV I,bV I,bV I,trivial⟩
 exact eE I<|iR bA σ I fun _ xW σ=>eE I<|fB 0 σ I fun _ σ=>gE 0 σ I<|gj I<|kB (b':=true) I<|eE I<|fB 1 σ I fun _ σ=>oR (fun e=>lk results218 (RV.cell e az I σ.vN I) (RV.tmp e I))<|⟨_,I,⟨xe,uL,I,σ.bW⟩,σ.below⟩
theorem afM {gi:Nat} (hi:(bk gi #[aG op,aG tr,aG ra,aG rb,aM cm] 116).P w0) (hx:iY w0 A c x) (hy:iY w0 B d y) (hT:x' w0) (hzx:zl x<=90000) (KA:cm<=64) (Wn:x%2 ^ cm=0):
  Calls prog 221 #[.agg #[.bool (neg x),.slice A (zl x) c],.agg #[.bool (neg y),.slice B (zl y) d],cY gi] w0 fun e w'=>∃v,e=.returned (.tuple #[v,.bool true])/\sL w' v (x / 2 ^ cm)/\Below w0.heap.size w0 w':=by
 refine gQ func221 I ntmps221 I fun σ=>?_
 replace σ:=σ.j8 hy trivial
 replace σ:=σ.j8 hx trivial
 replace σ:=σ.lZ (bk gi #[aG op,aG tr,aG ra,aG rb,aM cm] 116) hi
 replace σ:=σ.Jj hT
 refine eE I<|ll σ I fun _ de σ=>eE I<|ll σ I fun _ eQ σ=>eE I<|iR bA σ I fun _ jh σ=>gE 2 σ I<|cE I (fun η=>cC η bn I (ou σ.dw) I)<|eE I<|fk call222 (Vv (n:=cm) (show iY _ A c x from σ.fX) ae ae Wn (show x' _ from σ.bW)) I ?_
 rintro _ _ ⟨_,rfl,⟨xe,uL,rfl,uU⟩,hb⟩
 refine ⟨_,I,?_⟩
 replace σ:=(σ.call hb).j8 uU ⟨bV I,bV I,bV I,trivial⟩
 exact eE I<|iR bA σ I fun _ xW σ=>eE I<|fB 0 σ I fun _ σ=>gE 0 σ I<|gj I<|kB (b':=true) I<|eE I<|fB 1 σ I fun _ σ=>oR (fun e=>lk results221 (RV.cell e az I σ.vN I) (RV.tmp e I))<|⟨_,I,⟨xe,uL,I,σ.bW⟩,σ.below⟩
theorem vD {E:PF} {gf:Nat} {z:Int} (hF:(bk gf #[.func (.func f) first caps] 300).P w0) (hE:E.P w0) (Xt:∀args w,(callFunc f args).run prog w=.ok (.enter f args) w) (hx:iY w0 A c x) (hy:iY w0 B d y) (hf:∀w,E.P w->iY w A c x->iY w B d y->Calls prog f (first++#[.agg #[.bool (neg x),.slice A (zl x) c],.agg #[.bool (neg y),.slice B (zl y) d]]++caps) w fun e w'=>∃v,e=.returned v/\sL w' v z/\Below w.heap.size w w'):
  Calls prog 215 #[.agg #[.bool (neg x),.slice A (zl x) c],.agg #[.bool (neg y),.slice B (zl y) d],cY gf] w0 fun e w'=>∃v,e=.returned (.tuple #[v,.bool true])/\sL w' v (z)/\Below w0.heap.size w0 w':=by
 refine gQ func215 I ntmps215 I fun σ=>?_
 replace σ:=σ.j8 hy trivial
 replace σ:=σ.j8 hx trivial
 replace σ:=σ.lZ E hE
 replace σ:=σ.lZ (bk gf #[.func (.func f) first caps] 300) hF
 refine eE I<|ll σ I fun _ de σ=>eE I<|ll σ I fun _ eQ σ=>eE I<|iR bA σ I fun _ jh σ=>cE I (fun η=>cC η jW I (ou σ.bW) I)<|gE 2 σ I<|gE 1 σ I<|eE I<|sH Xt I (hf _ σ.dw σ.fX σ.kC) fW ?_
 rintro _ _ ⟨_,rfl,⟨xe,uL,rfl,uU⟩,hb⟩
 refine ⟨_,I,?_⟩
 replace σ:=(σ.call hb).j8 uU ⟨bV I,bV I,bV I,trivial⟩
 exact eE I<|fB 0 σ I fun _ σ=>oR (fun e=>lk results215 (RV.cell e az I σ.gq I) (RV.tmp e I))<|⟨_,I,⟨xe,uL,I,σ.bW⟩,σ.below⟩
theorem vF {f:Fn}:
  Calls prog 214 #[.func f first caps] w0 fun e w'=>∃gf,e=.returned (.func (.func 215) #[] #[cY gf])/\St w0 w' [bk gf #[.func f first caps] 300] []:=by
 exact gQ func214 I ntmps214 I fun σ=>eE I<|ll σ I fun _ de σ=>vE I (fun η=>fi η I I)<|o1 results214 I<|⟨_,I,σ.pick [0] [] aB⟩
section
variable {P:Program} {N:Nat} {dq:List Deferred} {a:Act} {l:List (Nat×Value)} {w:World} {d:Nat} {ty:TypeId} {pos:String} {af:Array Edge} {gd:Option (Nat×Bool)}
theorem ye {x:Operand} (h:b7 dq N a l) (hT:P.underlying T=some (.pointer te)) (hx:eB l x=some (.pointer p)):
  (execOp a.eval ⟨some d,.binOp .eql T x (.const (.pointer none)) yt,ty,pos,af,gd⟩).run P w=.ok (.value (.bool p.isNone)) w:=by
 refine cV h hx (by rfl) ?_
 have:=run_eql_pointer_nil w T p (by rw [hT]; simp [Program.pointee,hT])
 simp [eqGuard,this]
theorem ZN {x:Operand} (h:b7 dq N a l) (hT:P.underlying T=some (.pointer te)) (hx:eB l x=some (.pointer p)):
  (execOp a.eval ⟨some d,.binOp .neq T x (.const (.pointer none)) yt,ty,pos,af,gd⟩).run P w=.ok (.value (.bool (!p.isNone))) w:=by
 refine cV h hx (by rfl) ?_
 have:=run_neq_pointer_nil w T p (by rw [hT]; simp [Program.pointee,hT])
 simp [eqGuard,this]
end
theorem Jk {l:List PF} (h:tO l):NoU (star l):=fun w b o i hP ⟨e,he,hb⟩=>h.at e he w b o i (hP.1 e he) hb
def aky (op cn:Int) (f:FuncId) (caps:Array Value) (E:PF):Prop:=∀(W:World) (A B:Option Addr) (c d:Nat) (x y z:Int),E.P W->x' W->iY W A c x->iY W B d y->zl x<=90000->zl y<=90000->px op cn [x] [y]=some [z]->
 Calls prog f (#[.agg #[.bool (neg x),.slice A (zl x) c],.agg #[.bool (neg y),.slice B (zl y) d]]++caps) W fun e w'=>∃v,e=.returned (.tuple #[v,.bool true])/\sL w' v z/\Below W.heap.size W w'
theorem nW {vs us:Array Value} {R:Ending->World->Prop} (h:vs++caps=us) (hc:Calls prog f us w R):Calls prog f (vs++caps) w R:=h ▸ hc
theorem sC {vs us:Array Value} {R:Ending->World->Prop} (h:first++vs++caps=us) (hc:Calls prog f us w R):Calls prog f (first++vs++caps) w R:=h ▸ hc
theorem afN {c:Int} {xs ys zs:Rw} {t:Nat} (h:px op c xs ys=some zs) (hl:ys.length=xs.length) (hx:xs[t]?=some x) (hy:ys[t]?=some y):∃z,zs[t]?=some z/\px op c [x] [y]=some [z]:=by
 have hmx:=ah hx
 by_cases o2:op=2
 ·subst o2
  rw [<- aW (show some (xs.map fun v=>-v)=some zs from h),ay,hx]
  exact ⟨_,I,I⟩
 by_cases o3:op=3
 ·subst o3
  rw [<- aW (show some (List.zipWith (fun a b=>a+b) xs ys)=some zs from h),List.getElem?_zipWith,hx,hy]
  exact ⟨_,I,I⟩
 by_cases o4:op=4
 ·subst o4
  rw [<- aW (show some (List.zipWith (fun a b=>a - b) xs ys)=some zs from h),List.getElem?_zipWith,hx,hy]
  exact ⟨_,I,I⟩
 by_cases o5:op=5
 ·subst o5
  rw [<- aW (show some (xs.map fun v=>v*c)=some zs from h),ay,hx]
  exact ⟨_,I,I⟩
 by_cases o7:op=7
 ·subst o7
  rw [<- aW (show some (xs.map fun v=>v*2 ^ c.toNat)=some zs from h),ay,hx]
  exact ⟨_,I,I⟩
 by_cases o6:op=6
 ·subst o6
  obtain ⟨h1,h2⟩:=sy (show (if y7 (c) xs=true then some (xs.map fun v=>v / c) else none)=some zs from h)
  rw [<- h2,ay,hx]
  have h3:y7 (c) [x]=true:=by have:=vm.1 h1 x hmx; simpa [y7] using this
  exact ⟨_,I,(show (if y7 (c) [x]=true then some ([x].map fun v=>v / c) else none)=some _ by rw [au h3]; rfl)⟩
 by_cases o8:op=8
 ·subst o8
  obtain ⟨h1,h2⟩:=sy (show (if y7 (2 ^ c.toNat) xs=true then some (xs.map fun v=>v / 2 ^ c.toNat) else none)=some zs from h)
  rw [<- h2,ay,hx]
  have h3:y7 (2 ^ c.toNat) [x]=true:=by have:=vm.1 h1 x hmx; simpa [y7] using this
  exact ⟨_,I,(show (if y7 (2 ^ c.toNat) [x]=true then some ([x].map fun v=>v / 2 ^ c.toNat) else none)=some _ by rw [au h3]; rfl)⟩
 unfold px at h ⊢
 rw [ak o2,ak o3,ak o4,ak o5,ak o6,ak o7,ak o8] at h ⊢
 rw [<- aW h]
 exact ⟨_,hx,I⟩
theorem ZO {g:Int} (hM:gl (op,tr,ra,rb,cn) g):
  Calls prog 187 #[.agg #[aG op,aG tr,aG ra,aG rb,aG cn]] w0 fun e w'=>∃(f:FuncId) (caps:Array Value) (E:PF),e=.returned (.func (.func f) #[] caps)/\St w0 w' [E] []/\NoU E/\(∀args w,(callFunc f args).run prog w=.ok (.enter f args) w)/\aky op cn f caps E:=by
 have zt:=hM
 unfold gl at zt
 dsimp only at zt
 refine gQ func187 I ntmps187 I fun σ=>eE I<|ll σ I fun _ de σ=>lE 0 σ I<|gj I<|wQ (fun mX=>?_) fun mX=>?_
 ·obtain rfl:op=2:=mX
  refine iT I I<|eE I<|sH call214 I (vF (f:=.func 216) (first:=#[]) (caps:=#[])) I ?_
  rintro _ _ ⟨aqh,rfl,xf⟩
  refine ⟨_,I,?_⟩
  replace σ:=σ.more xf
  exact o1 results187 I<|⟨_,_,bk aqh #[.func (.func 216) #[] #[]] 300,I,σ.pick [0] [] aB,bV I,fun _ _=>I,fun W A B c d x y z hE hT hx hy h1 h2 hr=>by obtain rfl:=(rE hr).1 rfl; exact nW rfl (vD (E:=kF) hE trivial (fun _ _=>rfl) hx hy fun w _ hx hy=>sC fW (afJ hx hy))⟩
 ·refine iF I I<|gj I<|wQ (fun sI=>?_) fun sI=>?_
  ·obtain rfl:op=3:=sI
   refine iT I I<|eE I<|sH call214 I (vF (f:=.func 63) (first:=#[]) (caps:=#[])) I ?_
   rintro _ _ ⟨aqi,rfl,uM⟩
   refine ⟨_,I,?_⟩
   replace σ:=σ.more uM
   exact o1 results187 I<|⟨_,_,bk aqi #[.func (.func 63) #[] #[]] 300,I,σ.pick [0] [] aB,bV I,fun _ _=>I,fun W A B c d x y z hE hT hx hy h1 h2 hr=>by obtain rfl:=(rE hr).2.1 rfl; exact nW rfl (vD (E:=kF) hE trivial (fun _ _=>rfl) hx hy fun w _ hx hy=>sC fW (DF hx hy ae ae))⟩
  ·refine iF I I<|gj I<|wQ (fun tt=>?_) fun tt=>?_
   ·obtain rfl:op=4:=tt
    refine iT I I<|eE I<|sH call214 I (vF (f:=.func 104) (first:=#[]) (caps:=#[])) I ?_
    rintro _ _ ⟨aqj,rfl,KS⟩
    refine ⟨_,I,?_⟩
    replace σ:=σ.more KS
    exact o1 results187 I<|⟨_,_,bk aqj #[.func (.func 104) #[] #[]] 300,I,σ.pick [0] [] aB,bV I,fun _ _=>I,fun W A B c d x y z hE hT hx hy h1 h2 hr=>by obtain rfl:=(rE hr).2.2.1 rfl; exact nW rfl (vD (E:=kF) hE trivial (fun _ _=>rfl) hx hy fun w _ hx hy=>sC fW (QS hx hy ae ae))⟩
   ·refine iF I I<|gj I<|wQ (fun yL=>?_) fun yL=>?_
    ·obtain rfl:op=5:=yL
     refine iT I I<|vE I (fun η=>fi (us:=#[]) (vs:=#[cY de]) η I I)<|eE I<|sH call214 I (vF (f:=.func 217) (first:=#[]) (caps:=#[cY de])) I ?_
     rintro _ _ ⟨aqk,rfl,KF⟩
     refine ⟨_,I,?_⟩
     replace σ:=σ.more KF
     exact o1 results187 I<|⟨_,_,star [bk aqk #[.func (.func 217) #[] #[cY de]] 300,bk de #[aG 5,aG tr,aG ra,aG rb,aG cn] 116],I,(σ.pick [0,1] [] aB).pack 2,Jk ⟨bV I,bV I,trivial⟩,fun _ _=>I,fun W A B c d x y z hE hT hx hy h1 h2 hr=>by obtain rfl:=(rE hr).2.2.2.1 rfl; exact nW rfl (vD (E:=bk de #[aG 5,aG tr,aG ra,aG rb,aG cn] 116) (hE.1 _ (aJ ..)) (hE.1 _ (aQ _ (aJ ..))) (fun _ _=>rfl) hx hy fun w hi hx hy=>sC fW (Vw hi hx hy h1 ae))⟩
    ·refine iF I I<|gj I<|wQ (fun JG=>?_) fun JG=>?_
     ·obtain rfl:op=6:=JG
      exact iT I I<|vE I (fun η=>fi (us:=#[]) (vs:=#[cY de]) η I I)<|o1 results187 I<|⟨_,_,bk de #[aG 6,aG tr,aG ra,aG rb,aG cn] 116,I,σ.pick [0] [] aB,bV I,fun _ _=>I,fun W A B c d x y z hE hT hx hy h1 h2 hr=>by have hq:=(rE hr).2.2.2.2.1 rfl; rw [hq.2]; exact nW rfl (ZM hE hx hy h1 ae ae hq.1)⟩
     ·refine iF I I<|gj I<|wQ (fun IA=>?_) fun IA=>?_
      ·obtain rfl:op=7:=IA
       obtain ⟨cm,rfl⟩:=aU (show 0<=cn by omega)
       have KA:cm<=64:=ae
       refine iT I I<|vE I (fun η=>fi (us:=#[]) (vs:=#[cY de]) η I I)<|eE I<|sH call214 I (vF (f:=.func 220) (first:=#[]) (caps:=#[cY de])) I ?_
       rintro _ _ ⟨aql,rfl,Vx⟩
       refine ⟨_,I,?_⟩
       replace σ:=σ.more Vx
       exact o1 results187 I<|⟨_,_,star [bk aql #[.func (.func 220) #[] #[cY de]] 300,bk de #[aG 7,aG tr,aG ra,aG rb,aM cm] 116],I,(σ.pick [0,1] [] aB).pack 2,Jk ⟨bV I,bV I,trivial⟩,fun _ _=>I,fun W A B c d x y z hE hT hx hy h1 h2 hr=>by obtain rfl:=(rE hr).2.2.2.2.2.1 rfl; exact nW rfl (vD (E:=bk de #[aG 7,aG tr,aG ra,aG rb,aM cm] 116) (hE.1 _ (aJ ..)) (hE.1 _ (aQ _ (aJ ..))) (fun _ _=>rfl) hx hy fun w hi hx hy=>sC fW (afL hi hx hy h1 KA))⟩
      ·refine iF I I<|gj I<|wQ (fun h68=>?_) fun h68=>?_
       ·obtain rfl:op=8:=h68
        obtain ⟨cm,rfl⟩:=aU (show 0<=cn by omega)
        have KA:cm<=64:=ae
        exact iT I I<|vE I (fun η=>fi (us:=#[]) (vs:=#[cY de]) η I I)<|o1 results187 I<|⟨_,_,bk de #[aG 8,aG tr,aG ra,aG rb,aM cm] 116,I,σ.pick [0] [] aB,bV I,fun _ _=>I,fun W A B c d x y z hE hT hx hy h1 h2 hr=>by have hq:=(rE hr).2.2.2.2.2.2.1 rfl; rw [hq.2]; rw [ed]; exact nW rfl (afM hE hx hy hT h1 KA (by have:=hq.1; rwa [ed] at this))⟩
       ·refine iF I I<|eE I<|sH call214 I (vF (f:=.func 223) (first:=#[]) (caps:=#[])) I ?_
        rintro _ _ ⟨aqm,rfl,Fq⟩
        refine ⟨_,I,?_⟩
        replace σ:=σ.more Fq
        exact o1 results187 I<|⟨_,_,bk aqm #[.func (.func 223) #[] #[]] 300,I,σ.pick [0] [] aB,bV I,fun _ _=>I,fun W A B c d x y z hE hT hx hy h1 h2 hr=>by obtain rfl:=(rE hr).2.2.2.2.2.2.2 ae; exact nW rfl (vD (E:=kF) hE trivial (fun _ _=>rfl) hx hy fun w _ hx hy=>sC fW (akx hx hy))⟩
def vmF (gM i g:Nat) (A0:Option Addr) (n0 c0:Nat) (A1:Option Addr) (n1 c1:Nat) (Ar:Option Addr) (cr k:Nat) (us:List LE):PF:=
 star [bk gM #[aM i,aM g,.slice A0 n0 c0,.slice A1 n1 c1,.slice Ar g cr,aM k] 238,mc Ar g cr us]
theorem aqn (z:Rw) (n:Nat):(List.replicate n ((none,0,0):NE)).map zz=rm z 0 n 0:=by rw [K8,en]
theorem N6 {t:Nat} (h:es.map zz=rm z t n 0) (hz:z[t]?=some x) (ht:t<n):(es.set t (A,c,x)).map zz=rm z (t+1) n 0:=by
 rw [fz,h]
 exact pS hz ht
theorem N7 {t:Nat} (h:es[t]?=some (A,c,x)):(es.map zz)[t]?=some x:=by rw [ay,h]; rfl
theorem ZP {es0:List IE} {tr:Nat} (hk:k<n0) (qw:us.map lz=R) (GG:R.length=g/\∀r∈R,r.length=nn) (hn:nn<=10000) (hg:g<=200) (eG:es0[k]?=some (op,((tr:Nat):Int),zI,yj,cn)) (hM:gl (op,((tr:Nat):Int),zI,yj,cn) g) (hs:px op cn (kh R zI) (kh R yj)=some z) (Zh:z.length=nn) (hZ:∀v∈us,Zk 90000 (lz v)) (hk9:k<=100000)
 (hS:St w0 w1 [vmF gM i g A0 n0 c0 A1 n1 c1 Ar cr k us] [dA w1 (vmF gM i g A0 n0 c0 A1 n1 c1 Ar cr k us),dW FL us,fC A0 n0 c0 es0,tW]):
  Calls prog 148 #[cY gM] w1 fun e w'=>e=.returned (aG 0)/\∃v,lz v=z/\St w0 w' [vmF gM i g A0 n0 c0 A1 n1 c1 Ar cr (k+1) (us.set tr v)] [dA w1 (vmF gM i g A0 n0 c0 A1 n1 c1 Ar cr k us),dW FL (us.set tr v)]:=by
 refine gQ func148 I ntmps148 I fun σ=>?_
 replace σ:=hS
 have cQ:=σ.fX.2.1
 have zt:=hM
 unfold gl at zt
 dsimp only at zt
 obtain ⟨ra,rfl⟩:=aU (show 0<=zI by omega)
 obtain ⟨rb,rfl⟩:=aU (show 0<=yj by by_cases q:op=3∨op=4<;>omega)
 have W5:rb<g:=by by_cases q:op=3∨op=4<;>omega
 have hul:us.length=g:=by have:=aq List.length qw; rw [aw] at this; exact this.trans GG.1
 replace σ:=σ.unpack
 have AV:=zx σ.dw GG.2 qw
 obtain ⟨⟨Aa,na,ca,ea⟩,su⟩:∃e,us[ra]?=some e:=⟨_,ag ae⟩
 replace σ:=σ.tD (k:=1) I su
 obtain ⟨⟨Ab,nb,cb,eb⟩,BO⟩:∃e,us[rb]?=some e:=⟨_,ag ae⟩
 replace σ:=σ.tD (k:=2) I BO
 replace σ:St w0 _ [bk gM #[aM i,aM g,.slice A0 n0 c0,.slice A1 n1 c1,.slice Ar g cr,aM k] 238,mc Ar g cr us] [pf Ab nb cb eb,pf Aa na ca ea,dA w1 (vmF gM i g A0 n0 c0 A1 n1 c1 Ar cr k us),dW FL us,fC A0 n0 c0 es0,tW]:=σ
 have hna:=AV _ (ah su)
 dsimp only at hna
 obtain rfl:nn=na:=hna.symm
 have hnb:=AV _ (ah BO)
 dsimp only at hnb
 obtain rfl:nn=nb:=hnb.symm
 have hla:=σ.dw.2.1
 have hlb:=σ.bW.2.1
 rw [<- I' qw su,<- I' qw BO] at hs
 have hZa:=hZ _ (ah su)
 have hZb:=hZ _ (ah BO)
 refine vE I (fun η=>ye η underlying233 I)<|iF I I<|lj [] [0,4,8,13,16,20,24,28,33,36,40,44] bI σ fun _ σ=>lS 0 I<|lS 0 I<|gj I<|kB (b':=false) (du.2 ae)<|iF I I<|lj [12] [0,4,8,12,17,20,24,28,33,36,41,46,50] bI σ fun _ σ=>lS 0 I<|lS 0 I<|vE I (fun η=>aX (i:=k) η underlying25 (aF.size) I I ae I σ.nX.1)<|sE I (fun η hg=>cX (v:=#[aG op,aM tr,aM ra,aM rb,aG cn]) (i:=k) (e:=(op,((tr:Nat):Int),((ra:Nat):Int),((rb:Nat):Int),cn)) η aF I I lL (hg.pt (j:=4) I).1 ae eG I)<|eS I<|iR bm σ I fun _ de σ=>sk (σ.kd 1 0)<|eS I<|fB 0 σ I fun _ σ=>sz I<|gE 0 σ I<|eE I<|fk call187 (ZO hM) I ?_
 rintro _ _ ⟨f9,akz,E9,rfl,hS9,hU9,akA,hD9⟩
 refine ⟨_,I,?_⟩
 replace σ:=σ.more hS9
 refine lj [] [0,4,8,13,16,21,24,29,32,36,40,45,48,53,56,61,64,68] bI σ fun _ σ=>lS 2 I<|lS 1 I<|vE I (fun η=>aX (i:=ra) η underlying131 (bF.size) I I ae I (aZ σ.wF))<|sE I (fun η hg=>bE (i:=ra) (j:=0) (e:=(Aa,nn,ca,ea)) η bF I I lM aB (aZ (hg.ow (j:=3) I)) ae su I)<|lS 2 I<|lS 1 I<|vE I (fun η=>aX (i:=rb) η underlying131 (bF.size) I I ae I (aZ σ.wF))<|sE I (fun η hg=>bE (i:=rb) (j:=0) (e:=(Ab,nn,cb,eb)) η bF I I lM aB (aZ (hg.ow (j:=3) I)) ae BO I)<|eE I<|mkN fN ((none,0,0):NE) dD (n:=nn) σ dP I qo ae (by unfold maxLen; omega) fun _ eQ σ=>?_
 replace σ:=σ.vX (ov nn _) ⟨bX,hU9,bV I,bV I,bX,trivial⟩
 refine ks (fun mz l w=>∃t:Nat,∃eo:List NE,nn - t=mz/\l=[(60,aM t),(0,cY gM),(3,cY de),(4,.func (.func f9) #[] akz),(5,.slice Aa nn ca),(6,.slice Ab nn cb),(7,.slice (cS eQ) nn nn),(59,aM nn)]/\St w0 w [Dq (cS eQ) nn nn eo,E9,bk de #[aG op,aM tr,aM ra,aM rb,aG cn] 116,bk gM #[aM i,aM g,.slice A0 n0 c0,.slice A1 n1 c1,.slice Ar g cr,aM k] 238,mc Ar g cr us] [dW FN eo,pf Ab nn cb eb,pf Aa nn ca ea,dA w1 (vmF gM i g A0 n0 c0 A1 n1 c1 Ar cr k us),dW FL us,fC A0 n0 c0 es0,tW]/\t<=nn/\eo.map zz=rm z t nn 0) ⟨0,(List.replicate nn ((none,0,0):NE)),I,I,σ,(av _),(aqn z nn)⟩ aT ?_
 rintro _ _ _ ⟨t,eo,rfl,rfl,σ,ht,heo⟩
 refine il I<|wD (fun oL=>?_) fun oL=>?_
 ·have fh:t<nn:=ae
  obtain ⟨⟨Ax,cx,x⟩,hex⟩:∃e,ea[t]?=some e:=⟨_,ag ae⟩
  replace σ:=σ.elem (k:=2) I hex
  obtain ⟨⟨Ay,cy,y⟩,hey⟩:∃e,eb[t]?=some e:=⟨_,ag ae⟩
  replace σ:=σ.elem (k:=2) I hey
  obtain ⟨z9,hz9,hr9⟩:=afN hs (by rw [aw,aw,hla,hlb]) (N7 hex) (N7 hey)
  have hzx:=hZa x (ah (N7 hex))
  have hzy:=hZb y (ah (N7 hey))
  refine iT I I<|lj [14] [0,4,8,12,17,20,24,28,33,3,0,0,0,0,0,0] bI σ fun _ σ=>vE I (fun η=>aX (i:=t) η underlying43 (az.size) I I ae I σ.nX.1)<|sE I (fun η hg=>cX (i:=t) (e:=(Ax,cx,x)) η az I I jV (hg.pt (j:=4) I).1 ae hex I)<|vE I (fun η=>aX (i:=t) η underlying43 (az.size) I I ae I σ.kC.1)<|sE I (fun η hg=>cX (i:=t) (e:=(Ay,cy,y)) η az I I jV (hg.pt (j:=3) I).1 ae hey I)<|Wv [(9,[40,44,48,54,58,60]),(13,[38,40,44,48,58,60])] bI fW ⟨⟨⟨_,_,_,_,_,I,?_⟩,by kernel_rfl,rfl⟩,⟨⟨_,_,_,_,_,I,?_⟩,by kernel_rfl,rfl⟩,trivial⟩
  ·refine sH akA I (hD9 _ _ _ _ _ _ _ _ σ.l8 (show x' _ from σ.pat (k:=8) I) (show iY _ Ax cx x from σ.dw) (show iY _ Ay cy y from σ.bW) hzx hzy hr9) (by simp [fN]) ?_
   rintro _ _ ⟨_,rfl,⟨xe,uL,rfl,uU⟩,hb⟩
   refine ⟨_,I,?_⟩
   replace σ:=(σ.call hb).j8 uU ⟨bX,hU9,bV I,bV I,bX,trivial⟩
   refine sk (σ.kd 0 1)<|eS I<|iR bA σ I fun _ xW σ=>sk (σ.kd 1 1)<|eS I<|fB 0 σ I fun _ σ=>sz I<|iF I I<|gE 0 σ I<|vE I (fun η=>aX (i:=t) η underlying43 (az.size) I I ae I (aZ σ.l8))<|eE I<|srE 1 t (e1:=(xe,uL,z9)) jV σ I I aB ae (by have:=aq List.length heo; rw [aw] at this; exact this.trans (l7 ht Zh.symm)) fun _ σ=>?_
   replace σ:=σ.tE (e:=(xe,uL,z9)) (i:=3) (j:=0) I I t
   exact can (j:=1) I ae<|gI ⟨t+1,(eo.set t (xe,uL,z9)),I,I,σ.pick [1,2,3,4,5] [0,5,6,7,8,9,10] aB,ae,(N6 heo hz9 fh)⟩ aT ae
  ·refine iR bA σ I fun _ qt σ=>sk (σ.kd 1 0)<|eS I<|sH akA I (hD9 _ _ _ _ _ _ _ _ σ.pI (show x' _ from σ.pat (k:=8) I) (show iY _ Ax cx x from σ.dw) (show iY _ Ay cy y from σ.bW) hzx hzy hr9) (by simp [fN]) ?_
   rintro _ _ ⟨_,rfl,⟨Qm,JF,rfl,afH⟩,hb⟩
   refine ⟨_,I,?_⟩
   replace σ:=(σ.call hb).j8 afH ⟨bV I,bX,hU9,bV I,bV I,bX,trivial⟩
   refine sk (σ.kd 1 1)<|eS I<|fB 0 σ I fun _ σ=>sz I<|iF I I<|gE 0 σ I<|vE I (fun η=>aX (i:=t) η underlying43 (az.size) I I ae I (aZ σ.l8))<|eE I<|srE 1 t (e1:=(Qm,JF,z9)) jV σ I I aB ae (by have:=aq List.length heo; rw [aw] at this; exact this.trans (l7 ht Zh.symm)) fun _ σ=>?_
   replace σ:=σ.tE (e:=(Qm,JF,z9)) (i:=3) (j:=0) I I t
   exact can (j:=1) I ae<|gI ⟨t+1,(eo.set t (Qm,JF,z9)),I,I,σ.pick [1,2,3,4,5] [0,5,6,7,8,9,10] aB,ae,(N6 heo hz9 fh)⟩ aT ae
 ·obtain rfl:nn=t:=ae
  refine iF I I<|?_
  have hle:eo.length=nn:=by have:=aq List.length heo; rw [aw] at this; exact this.trans (l7 (ar _) Zh.symm)
  replace σ:=σ.vh (k:=0) (j:=0) I I hle
  replace σ:St w0 _ [E9,bk de #[aG op,aM tr,aM ra,aM rb,aG cn] 116,bk gM #[aM i,aM g,.slice A0 n0 c0,.slice A1 n1 c1,.slice Ar g cr,aM k] 238,mc Ar g cr us] [pf (cS eQ) nn nn eo,dW FN eo,pf Ab nn cb eb,pf Aa nn ca ea,dA w1 (vmF gM i g A0 n0 c0 A1 n1 c1 Ar cr k us),dW FL us,fC A0 n0 c0 es0,tW]:=σ.pick [0,1,2,3] [0,2,3,4,5,6,7,8] aB
  refine lj [8] [0,4,8,13,16,21,24,28,34] bI σ fun _ σ=>lS 2 I<|lS 1 I<|vE I (fun η=>aX (i:=tr) η underlying131 (bF.size) I I ae I (aZ σ.wF))<|eS I<|uH 3 tr (e1:=(((cS eQ),nn,nn,eo):LE)) lM σ I I ae hul fun _ σ=>sz I<|?_
  replace σ:=σ.tE (e:=(((cS eQ),nn,nn,eo):LE)) (i:=5) (j:=0) I I tr
  exact lE 2 σ I<|can (j:=1) I ae<|eE I<|mK 2 σ I fun _ σ=>o1 results148 I<|⟨I,((cS eQ),nn,nn,eo),heo.trans (yS Zh),(σ.pick [2,3] [5,0] aB).pack 2⟩
theorem ZQ (hk:k=n0) (hb:(bk gM #[aM i,aM g,.slice A0 n0 c0,.slice A1 n1 c1,.slice Ar g cr,aM k] 238).P w0):
  Calls prog 148 #[cY gM] w0 fun e w'=>e=.returned (aG 4)/\Below w0.heap.size w0 w':=by
 refine gQ func148 I ntmps148 I fun σ=>?_
 replace σ:=σ.lZ _ hb
 exact vE I (fun η=>ye η underlying233 I)<|iF I I<|lj [] [0,4,8,13,16,20,24,28,33,36,40,44] bI σ fun _ σ=>sE I (fun η hg=>cC η bn I (ou (hg.pt (j:=0) I)) I)<|sE I (fun η hg=>cC η mh I (ou (hg.pt (j:=0) I)) I)<|gj I<|kB (b':=true) (eA.2 ae)<|iT I I<|o1 results148 I<|⟨I,σ.below⟩
theorem St.aqp {p:PF} (h:St w0 w [o] ps) (h':St w0 w' [o'] [dA w o,p]):St w0 w' [o'] (p::ps):=by
 have h1:=h.kL (k:=0) rfl (o':=o') ⟨h'.below,h'.mine,h'.new,h'.nd,fun q hq=>h'.pers q (by rw [aL.1 hq]; exact aJ ..),fun q hq=>h'.apart q (by rw [aL.1 hq]; exact aJ ..)⟩
 exact h1.l9 p (h'.pat (k:=1) I) fun e he=>h'.apart p (aQ _ (aJ ..)) e he
theorem Vy {tr:Nat} (h:px op cn (kh R ra) (kh R rb)=some z) (hR:R.length=g/\∀r∈R,r.length=nn) (hM:gl (op,((tr:Nat):Int),ra,rb,cn) g):z.length=nn:=by
 unfold gl at hM
 dsimp only at hM
 exact Hk h (yB hR.1 hR.2 ae ae) fun q=>yB hR.1 hR.2 ae ae
theorem Vz (hi:G.length=i) (_:i<=g):(lT g n G).take i=G:=by
 unfold lT
 rw [iu ae,ax (by omega)]
theorem VA {q:Nat} (hq:G.length<=q) (hg:q<g):(lT g n G)[q]?=some (List.replicate n 0):=by
 rw [F7 ae hg,ak ae]
theorem afO (h:vs.map lz=G) (he:vs[j]?=some (A,n,c,es)):G[j]?=some (es.map zz):=by
 rw [<- h,ay,he]; rfl
theorem ZR (hk:k=n0) (hb:(bk gM #[aM i,aM g,.slice A0 n0 c0,.slice A1 n1 c1,.slice Ar g cr,aM k] 238).P w0):
  Calls prog 188 #[cY gM] w0 fun e w'=>e=.returned (.bool true)/\Below w0.heap.size w0 w':=by
 refine gQ func188 I ntmps188 I fun σ=>?_
 replace σ:=σ.lZ _ hb
 exact lj [] [0,4,8,12,16,20,25,28,32,36,40,45,48,52,56,60] bI σ fun _ σ=>vE I (fun η=>ZN η underlying233 I)<|sE I (fun η hg=>cC η bn I (ou (hg.pt (j:=0) I)) I)<|sE I (fun η hg=>cC η mh I (ou (hg.pt (j:=0) I)) I)<|gj I<|o1 results188 I<|⟨aq (fun b=>Ending.returned (Value.bool b)) (eA.2 ae),σ.below⟩
theorem ZS (hk:k=n0) (hb:(bk gM #[aM i,aM g,.slice A0 n0 c0,.slice A1 n1 c1,.slice Ar g cr,aM k] 238).P w0) (h1:(fg A1 n1 c1 es1).P w0) (hR:(Gw Ar g cr us).P w0) (qw:us.map lz=R) (GG:R.length=g/\∀r∈R,r.length=nn) (axP:1<=nn/\nn<=10000) (ho:∀r∈es1,0<=r/\r<g) (Wp:n1<=1000):
  Calls prog 149 #[cY gM] w0 fun e w'=>∃A c vo,e=.returned (.tuple #[.slice A n1 c,aG 0])/\St w0 w' [mc A n1 c vo] [dW FL vo]/\lO w0.heap.size vo/\vo.map lz=es1.map (kh R):=by
 refine gQ func149 I ntmps149 I fun σ=>?_
 have iI:=h1.2.1
 replace σ:=σ.lZ _ hb
 replace σ:=σ.aY h1
 replace σ:=σ.aY hR
 have hql:=hR.2.1
 have AV:=zx hR.2.2 GG.2 qw
 refine vE I (fun η=>ye η underlying233 I)<|iF I I<|eE I<|gV call188 (ZR hk σ.fX) σ I fun _ σ=>iF I I<|cE I (fun η=>cC η rv I (ou σ.fX) I)<|?_
 replace σ:=(σ.fp dD 43 1).rA FL
 refine ks (fun mz l w=>∃x:Nat,∃A4:Option Addr,∃c4:Nat,∃vo:List LE,n1 - x=mz/\l=[(20,aM x),(4,.slice A4 x c4),(0,cY gM),(18,.slice A1 n1 c1),(19,aM n1)]/\St w0 w [mc A4 x c4 vo] [dW FL vo,Gw Ar g cr us,fg A1 n1 c1 es1,bk gM #[aM i,aM g,.slice A0 n0 c0,.slice A1 n1 c1,.slice Ar g cr,aM k] 238]/\x<=n1/\vo.map lz=(es1.map (kh R)).take x/\lO w0.heap.size vo) ⟨0,none,0,[],I,I,σ,(av _),I,(lO.nil _)⟩ aT ?_
 rintro _ _ _ ⟨x,A4,c4,vo,rfl,rfl,σ,hx,hvo,Qv⟩
 refine il I<|wD (fun lC=>?_) fun lC=>?_
 ·have fh:x<n1:=ae
  obtain ⟨r0,kf⟩:∃e,es1[x]?=some e:=⟨_,ag ae⟩
  have hr8:=ho _ (ah kf)
  obtain ⟨r9,rfl⟩:=aU hr8.1
  obtain ⟨⟨Aq,nq,cq,eq9⟩,zQ⟩:∃e,us[r9]?=some e:=⟨_,ag ae⟩
  replace σ:=σ.elem (k:=1) I zQ
  replace σ:St w0 _ [mc A4 x c4 vo] [pf Aq nq cq eq9,dW FL vo,Gw Ar g cr us,fg A1 n1 c1 es1,bk gM #[aM i,aM g,.slice A0 n0 c0,.slice A1 n1 c1,.slice Ar g cr,aM k] 238]:=σ
  have Xj:=AV _ (ah zQ)
  dsimp only at Xj
  obtain rfl:nn=nq:=Xj.symm
  refine iT I I<|vE I (fun η=>aX (i:=x) η underlying26 (bn.size) I I ae I σ.kC.1)<|cE I (fun η=>bE (i:=x) (j:=0) (e:=((r9:Nat):Int)) η bn I I di aB σ.kC.1 ae kf I)<|cE I (fun η=>cC η kM I (ou σ.nX) I)<|vE I (fun η=>aX (i:=r9) η underlying131 (bF.size) I I ae I σ.fX.1)<|cE I (fun η=>bE (i:=r9) (j:=0) (e:=(Aq,nn,cq,eq9)) η bF I I lM aB σ.fX.1 ae zQ I)<|eE I<|fk call161 (F6 σ.bW I ae ae) I ?_
  rintro _ _ ⟨_,rfl,⟨zk,wW,Va,rfl,PN,Cy,Lu⟩,hb⟩
  refine ⟨_,I,?_⟩
  have akB:=fun a (ha:zk=some a)=>aD σ.below.size (PN.2.2 a ha)
  replace σ:=σ.mB hb PN Cy (oU PN.2.1 ⟨bX,trivial⟩)
  refine eE I<|mi (z:=1) #[.slice zk nn wW] σ (bF.size) jm I bI fun _ qt σ=>eE I<|oO (new:=[(zk,nn,wW,Va)]) 1 0 σ iV I (by unfold maxLen; omega) ae fun _ tU JF σ=>?_
  replace σ:=σ.pX (e:=(zk,nn,wW,Va)) (i:=2) (j:=0) I I
  exact can (j:=1) I ae<|gI ⟨x+1,(cS tU),JF,(vo++[(zk,nn,wW,Va)]),I,I,σ.pick [1] [0,4,5,6] aB,ae,(Ef hvo kf qw zQ Lu),(Qv.snoc (v:=(zk,nn,wW,Va)) akB)⟩ aT ae
 ·obtain rfl:n1=x:=ae
  refine iF I I<|o2 results149 I<|?_
  rw [ax (by rw [aw]; omega)] at hvo
  exact ⟨_,_,_,I,σ.pick [0] [0] aB,Qv,hvo⟩
theorem afP {es0:List IE} (h0:(fC A0 n0 c0 es0).P w0) (h1:(fg A1 n1 c1 es1).P w0) (h2:(Gw A2 i c2 vs).P w0) (dy:mv (i:Nat) (g:Nat) n0 n1 es0 es1) (qw:vs.map lz=G) (hG:∀r∈G,r.length=nn) (AV:1<=nn/\nn<=4096):
  Calls prog 147 #[.agg (lN i g A0 n0 c0 A1 n1 c1),.slice A2 i c2] w0 fun e w'=>∃gM A5 c5 A6 c6 Ar cr us,e=.returned (.tuple #[cY gM,aG 0])/\St w0 w' [bk gM #[aM i,aM g,.slice A5 n0 c5,.slice A6 n1 c6,.slice Ar g cr,aM 0] 238,mc Ar g cr us,dQ A5 n0 c5 es0,cI A6 n1 c6 es1] [dW FL us]/\lO w0.heap.size us/\us.map lz=lT g nn G:=by
 refine gQ func147 I ntmps147 I fun σ=>?_
 have cQ:=h0.2.1
 have lu:=h0.1.cap
 have eN:=h0.1.big
 unfold maxLen at eN
 have iI:=h1.2.1
 have oI:=h1.1.cap
 have jB:=h1.1.big
 unfold maxLen at jB
 replace σ:=σ.aY h0
 replace σ:=σ.aY h1
 have q1:=dy.i1
 have q2:=dy.ln
 have rD:=h2.2.1
 have GD:G.length=i:=by rw [<- qw,aw]; exact rD
 replace σ:=σ.aY h2
 obtain ⟨⟨A9,n9,c9,e9⟩,zE⟩:∃e,vs[0]?=some e:=⟨_,ag ae⟩
 replace σ:=σ.elem (k:=0) I zE
 have hn9:=F9 hG qw h2.2.2 _ (ah zE)
 dsimp only at hn9
 obtain rfl:nn=n9:=hn9.symm
 refine eE I<|ll σ I fun _ de σ=>gE 0 σ I<|eE I<|gV call41 (kR σ.kC σ.fX dy) σ I fun _ σ=>lK I<|kB (b':=false) I<|iF I I<|lE 0 σ I<|lK I<|kB (b':=false) (Ds I)<|iF I I<|vE I (fun η=>aX (i:=0) η underlying131 (bF.size) I I ae I σ.dw.1)<|cE I (fun η=>bE (i:=0) (j:=0) (e:=(A9,nn,c9,e9)) η bF I I lM aB σ.dw.1 ae zE I)<|gE 0 σ I<|eE I<|fk call50 (rC σ.kC σ.fX ae ae) I ?_
 rintro _ _ ⟨A5,c5,A6,c6,rfl,hSc⟩
 refine ⟨_,I,?_⟩
 replace σ:=σ.more hSc
 refine vE I (fun η=>eV (c:=#[aM i,aM g,.slice A5 n0 c5,.slice A6 n1 c6,bM,aG 0]) vR η I I)<|eE I<|ll σ I fun _ eQ σ=>?_
 replace σ:=(σ.fp dD 43 1).rA FL
 refine ks (fun mz l w=>∃j:Nat,∃A4:Option Addr,∃c4:Nat,∃us:List LE,i - j=mz/\l=[(35,aM j),(2,cY de),(8,aM nn),(9,cY eQ),(33,.slice A2 i c2),(34,aM i)]/\St w0 w [bk eQ #[aM i,aM g,.slice A5 n0 c5,.slice A6 n1 c6,.slice A4 j c4,aM 0] 238,mc A4 j c4 us,dQ A5 n0 c5 es0,cI A6 n1 c6 es1,bk de (lN i g A0 n0 c0 A1 n1 c1) 28] [dW FL us,pf A9 nn c9 e9,Gw A2 i c2 vs,fg A1 n1 c1 es1,fC A0 n0 c0 es0]/\j<=i/\us.map lz=G.take j/\lO w0.heap.size us) ⟨0,none,0,[],I,I,σ.pick [1,0,2,3,4] [0,1,2,3,4] aB,(av _),I,(lO.nil _)⟩ aT ?_
 rintro _ _ _ ⟨j,A4,c4,us,rfl,rfl,σ,hj,GH,GF⟩
 refine il I<|wD (fun oL=>?_) fun oL=>?_
 ·have fh:j<i:=ae
  obtain ⟨⟨Ax,nx,cx,ex⟩,hxj⟩:∃e,vs[j]?=some e:=⟨_,ag ae⟩
  replace σ:=σ.elem (k:=2) I hxj
  replace σ:St w0 _ [bk eQ #[aM i,aM g,.slice A5 n0 c5,.slice A6 n1 c6,.slice A4 j c4,aM 0] 238,mc A4 j c4 us,dQ A5 n0 c5 es0,cI A6 n1 c6 es1,bk de (lN i g A0 n0 c0 A1 n1 c1) 28] [pf Ax nx cx ex,dW FL us,pf A9 nn c9 e9,Gw A2 i c2 vs,fg A1 n1 c1 es1,fC A0 n0 c0 es0]:=σ
  have hnx:=F9 hG qw h2.2.2 _ (ah hxj)
  dsimp only at hnx
  obtain rfl:nn=nx:=hnx.symm
  refine iT I I<|vE I (fun η=>aX (i:=j) η underlying131 (bF.size) I I ae I σ.kC.1)<|cE I (fun η=>bE (i:=j) (j:=0) (e:=(Ax,nn,cx,ex)) η bF I I lM aB σ.kC.1 ae hxj I)<|lK I<|kB (b':=false) (Ds I)<|sG I<|kB (b':=false) (aC ae)<|iF I I<|lj [8,11] [0,4,8,12,17,20,26,30,34,36,40,46] bI σ fun _ σ=>lS 0 I<|eS I<|fk call161 (F6 σ.bW I ae ae) I ?_
  rintro _ _ ⟨_,rfl,⟨xe,uL,PO,rfl,Lv,Dr,Vc⟩,hb⟩
  refine ⟨_,I,?_⟩
  have Vd:=fun a (ha:xe=some a)=>aD σ.below.size (Lv.2.2 a ha)
  replace σ:=σ.mB hb Lv Dr (oU Lv.2.1 ⟨bV I,bX,bX,bX,bV I,trivial⟩)
  refine sk (σ.kd 0 1)<|eS I<|mi (z:=1) #[.slice xe nn uL] σ (bF.size) jm I bI fun _ C9 σ=>sk (σ.kd 1 1)<|eS I<|oO (new:=[(xe,nn,uL,PO)]) 2 0 σ iV I (by unfold maxLen; omega) ae fun _ D8 c62 σ=>sz rfl<|?_
  replace σ:=σ.pX (e:=(xe,nn,uL,PO)) (i:=2) (j:=0) I I
  exact eS I<|mK 1 σ I fun _ σ=>sz I<|can (j:=1) I ae<|gI ⟨j+1,(cS D8),c62,(us++[(xe,nn,uL,PO)]),I,I,σ.pick [1,2,3,4,5] [0,4,5,6,7] aB,ae,(vC GH (afO qw hxj) Vc),(GF.snoc (v:=(xe,nn,uL,PO)) Vd)⟩ aT ae
 ·obtain rfl:i=j:=ae
  refine iF I I<|ks (fun mz l w=>∃q:Nat,∃A4:Option Addr,∃c4:Nat,∃us:List LE,g - q=mz/\l=[(2,cY de),(8,aM nn),(9,cY eQ)]/\St w0 w [bk eQ #[aM i,aM g,.slice A5 n0 c5,.slice A6 n1 c6,.slice A4 q c4,aM 0] 238,mc A4 q c4 us,dQ A5 n0 c5 es0,cI A6 n1 c6 es1,bk de (lN i g A0 n0 c0 A1 n1 c1) 28] [dW FL us,pf A9 nn c9 e9,Gw A2 i c2 vs,fg A1 n1 c1 es1,fC A0 n0 c0 es0]/\i<=q/\q<=g/\us.map lz=(lT g nn G).take q/\lO w0.heap.size us) ⟨i,A4,c4,us,I,I,σ,(ar _),ae,(by rw [Vz GD ae]; rw [ax (by omega)] at GH; exact GH),GF⟩ aT ?_
  rintro _ _ _ ⟨q,A4,c4,us,rfl,rfl,σ,Wf,hq2,GH,GF⟩
  refine lj [] [0,4,8,13,16,20,25,28] bI σ fun _ σ=>lS 0 I<|lS 4 I<|il I<|wD (fun Eu=>?_) fun Eu=>?_
  ·have aqq:q<g:=ae
   refine iT I I<|lj [8,11] [0,4,8,12,17,20,26,30,34,36,40,46] bI σ fun _ σ=>lS 0 I<|eS I<|mkN fN ((none,0,0):NE) dD (n:=nn) σ dP I qo ae (by unfold maxLen; omega) fun _ K7 σ=>sk (σ.kd 1 0)<|?_
   replace σ:=σ.vX (ov nn _) ⟨bX,bV I,bX,bX,bX,bV I,trivial⟩
   have ZE:∀a:Addr,((cS K7):Option Addr)=some a->w0.heap.size<=a.block:=fun a ha=>by cases ha; exact sx σ (k:=0) rfl
   replace σ:=σ.vh (k:=0) (j:=0) I I fW
   refine eS I<|mi (z:=1) #[.slice (cS K7) nn nn] σ (bF.size) jm I bI fun _ Nj σ=>sk (σ.kd 1 3)<|eS I<|oO (new:=[(((cS K7),nn,nn,(List.replicate nn ((none,0,0):NE))):LE)]) 2 0 σ iV I (by unfold maxLen; omega) ae fun _ g66 TG σ=>sz rfl<|?_
   replace σ:=σ.pX (e:=(((cS K7),nn,nn,(List.replicate nn ((none,0,0):NE))):LE)) (i:=3) (j:=0) I I
   exact eS I<|mK 1 σ I fun _ σ=>sz I<|gI ⟨q+1,(cS g66),TG,(us++[(((cS K7),nn,nn,(List.replicate nn ((none,0,0):NE))):LE)]),I,I,σ.pick [1,2,3,4,5] [0,5,6,7,8] aB,ae,ae,(vC GH (VA ae aqq) (Vh nn)),(GF.snoc (v:=((cS K7),nn,nn,(List.replicate nn ((none,0,0):NE)))) ZE)⟩ aT ae
  ·obtain rfl:g=q:=ae
   refine iF I I<|o2 results147 I<|?_
   rw [ax (by rw [mC ae]; exact ar _)] at GH
   exact ⟨_,_,_,_,_,_,_,_,I,σ.pick [0,1,2,3] [0] aB,GF,GH⟩
theorem LC {es0:List IE} (h0:(fC A0 n0 c0 es0).P w0) (h1:(fg A1 n1 c1 es1).P w0) (h2:(Gw A2 i c2 vs).P w0) (dy:mv (i:Nat) (g:Nat) n0 n1 es0 es1) (qw:vs.map lz=G) (hG:∀r∈G,r.length=nn) (AV:1<=nn/\nn<=4096) (hT:x' w0) (aqr:rj (b+64*0) G) (Wg:b+64*n0<=2880000) (pK:exe (lT g nn G) es0=some R'):
  Calls prog 99 #[.agg (lN i g A0 n0 c0 A1 n1 c1),.slice A2 i c2] w0 fun e w'=>∃A c vo,e=.returned (.tuple #[.slice A n1 c,aM n0,aG 0])/\St w0 w' [mc A n1 c vo] [dW FL vo]/\lO w0.heap.size vo/\vo.map lz=es1.map (kh R'):=by
 refine gQ func99 I ntmps99 I fun σ=>?_
 replace σ:=σ.Jj hT
 have cQ:=h0.2.1
 have lu:=h0.1.cap
 have eN:=h0.1.big
 unfold maxLen at eN
 have iI:=h1.2.1
 have oI:=h1.1.cap
 have jB:=h1.1.big
 unfold maxLen at jB
 replace σ:=σ.aY h0
 replace σ:=σ.aY h1
 have q1:=dy.i1
 have q2:=dy.ln
 have rD:=h2.2.1
 have GD:G.length=i:=by rw [<- qw,aw]; exact rD
 replace σ:=σ.aY h2
 refine eE I<|ll σ I fun _ de σ=>Wu I<|gE 0 σ I<|eE I<|fk call147 (afP σ.fX σ.dw σ.bW dy qw hG AV) I ?_
 rintro _ _ ⟨gM,A5,c5,A6,c6,Ar,cr,us,rfl,hSn,hNn,Es⟩
 refine ⟨_,I,?_⟩
 replace σ:=σ.sw hSn hNn ⟨bV I,trivial⟩
 replace σ:=σ.jX (k:=2) I cQ
 replace σ:=σ.jX (k:=2) I iI
 replace σ:=σ.Md (k:=2) I
 replace σ:=σ.pack 2
 refine lK I<|kB (b':=false) I<|iF I I<|ks (fun mz l w=>∃k:Nat,∃uk:List LE,∃Rk:List Rw,n0 - k=mz/\l=[(7,cY gM)]/\St w0 w [vmF gM i g A5 n0 c5 A6 n1 c6 Ar cr k uk] [bk de (lN i g A0 n0 c0 A1 n1 c1) 28,fg A6 n1 c6 es1,fC A5 n0 c5 es0,dW FL uk,Gw A2 i c2 vs,fg A1 n1 c1 es1,fC A0 n0 c0 es0,tW]/\k<=n0/\uk.map lz=Rk/\exe Rk (es0.drop k)=some R'/\(Rk.length=g/\∀r∈Rk,r.length=nn)/\rj (b+64*k) Rk) ⟨0,us,(lT g nn G),I,I,σ,(av _),Es,pK,(qE ae hG),(NZ aqr)⟩ aT ?_
 rintro _ _ _ ⟨k,uk,Rk,rfl,rfl,σ,hk,hlk,hrl,GG,QQ⟩
 rcases (show k<n0∨n0=k by omega) with fh|rfl
 ·obtain ⟨⟨op,Fz,ra,rb,cn⟩,eG⟩:∃e,es0[k]?=some e:=⟨_,ag ae⟩
  have hM:=dy.may _ (ah eG)
  have zt:=hM
  unfold gl at zt
  dsimp only at zt
  obtain ⟨tr,rfl⟩:=aU (show 0<=Fz by omega)
  obtain ⟨zr,PR,F8,Lw⟩:=Jb hrl eG
  dsimp only at PR F8 Lw
  rw [ed] at F8 Lw
  refine eE I<|fk call148 (ZP fh hlk GG ae ae eG hM PR (Vy PR GG hM) (abJ QQ ae hlk) ae (σ.cF (k:=0) I [3,2,7])) I ?_
  rintro _ _ ⟨rfl,v9,PD,hSv⟩
  refine ⟨_,I,?_⟩
  replace σ:=σ.aqp hSv
  exact gj I<|kB (b':=false) I<|iF I I<|gj I<|kB (b':=false) I<|iF I I<|gI ⟨k+1,(uk.set tr v9),(Rk.set tr zr),I,I,σ.pick [0] [1,2,3,0,5,6,7,8] aB,ae,(by rw [fz,hlk,PD]),Lw,(z8 F8 hM GG.1 GG.2),(by have:=Mp F8 hM QQ; exact this.mono ae)⟩ aT ae
 ·refine eE I<|gV call148 (ZQ (i:=i) (g:=g) (A0:=A5) (c0:=c5) (A1:=A6) (n1:=n1) (c1:=c6) (Ar:=Ar) (cr:=cr) I (σ.jr.1 _ (aJ ..))) σ I fun _ σ=>gj I<|kB (b':=false) I<|iF I I<|gj I<|kB (b':=true) I<|iT I I<|?_
  rw [bo ae] at hrl
  obtain rfl:Rk=R':=aW hrl
  replace σ:=σ.unpack
  refine eE I<|fk call149 (ZS I σ.jr σ.dw (uV σ.l8 (by have:=aq List.length hlk; rw [aw] at this; exact this.trans GG.1) σ.kC) hlk GG ⟨by omega,by omega⟩ dy.out ae) rfl ?_
  rintro _ _ ⟨Ao,co,uo,rfl,hSo,Qv,ZI⟩
  refine ⟨_,I,?_⟩
  have Qx:=σ.below.size
  replace σ:=σ.sw hSo Qv ⟨bV I,bX,trivial⟩
  exact lj [] [0,4,8,12,17,20,24,28,32] bI σ fun _ σ=>lS 1 I<|o3 results99 I<|⟨_,_,_,I,σ.pick [0] [0] aB,fun v hv a ha=>aD Qx (Qv v hv a ha),ZI⟩
section
variable {P:Program} {N:Nat} {dq:List Deferred} {a:Act} {l:List (Nat×Value)} {w:World} {d:Nat} {ty:TypeId} {pos:String} {af:Array Edge} {gd:Option (Nat×Bool)}
theorem N8 {T E:TypeId} {x y z:Operand} {r:Option Addr} (h:b7 dq N a l) (hT:P.underlying T=some (.array 3 E)) (hE:∃i,P.info? E=some i/\i.size=1) (hz:∃i,P.info? T=some i/\i.zero=some (.agg #[.pointer none,.pointer none,.pointer none])) (hx:eB l x=some (.pointer p)) (hy:eB l y=some (.pointer q)) (hw:eB l z=some (.pointer r)):
  (execOp a.eval ⟨some d,.build T #[(0,x),(1,y),(2,z)],ty,pos,af,gd⟩).run P w=.ok (.value (.agg #[.pointer p,.pointer q,.pointer r])) w:=by
 have Q5:(zeroValue T).run P w=.ok (.agg #[.pointer none,.pointer none,.pointer none]) w:=by obtain ⟨i,hi,hv⟩:=hz; simp [zeroValue,typeInfo,hi,hv]
 simp [execOp,h.ev hx,h.ev hy,h.ev hw,Instr.build,Q5,run_underlying hT,Sem.run_bind,run_sizeOf hE,Instr.fill,Value.cells]
theorem lF {T E:TypeId} {x y:Operand} {r v:Option Addr} (j:Nat) (h:b7 dq N a l) (hT:P.underlying T=some (.array 3 E)) (hE:mM P E) (hx:eB l x=some (.agg #[.pointer p,.pointer q,.pointer r])) (hy:eB l y=some (aM j)) (hj:j<3) (hv:(match j with | 0=>p | 1=>q | _=>r)=v):
  (execOp a.eval ⟨some d,.index T x y,ty,pos,af,gd⟩).run P w=.ok (.value (.pointer v)) w:=by
 subst hv
 have hs:=run_sizeOf (w:=w) hE.size
 rcases (show j=0∨j=1∨j=2 by omega) with rfl | rfl | rfl
 ·simp [execOp,h.ev hx,h.ev hy,Instr.index,asIntOf,run_underlying hT,Sem.run_bind,part,hE.agg,hs]
 ·simp [execOp,h.ev hx,h.ev hy,Instr.index,asIntOf,run_underlying hT,Sem.run_bind,part,hE.agg,hs]
 ·simp [execOp,h.ev hx,h.ev hy,Instr.index,asIntOf,run_underlying hT,Sem.run_bind,part,hE.agg,hs]
end
def mI {α:Type} (b:Bool) (x y:α):α:=match b with
 | true=>x
 | false=>y
def opF (b:Bool) (p:PF):PF:=match b with
 | true=>p
 | false=>kF
theorem PW (dy:u.Ok) (hm:u.Mem w0):
  Calls prog 30 #[.agg (uW u)] w0 fun e w'=>∃Xp xp X1 x1 Z1 z1 X2 x2 Z2 z2 X3 x3 Z3 z3,e=.returned (.agg #[aM u.k1,aM u.k2,.slice Xp u.n xp,aM u.k1,aM u.gL,.slice X1 u.n0 x1,.slice Z1 u.n z1,aM u.k2,aM u.gR,.slice X2 u.n3 x2,.slice Z2 u.n z2,aM u.n,aM u.gB,.slice X3 u.n5 x3,.slice Z3 u.n z3])/\St w0 w' [lp Xp u.n xp u.ps,dQ X1 u.n0 x1 u.e0,cI Z1 u.n z1 u.e1,dQ X2 u.n3 x2 u.e3,cI Z2 u.n z2 u.e4,dQ X3 u.n5 x3 u.e5,cI Z3 u.n z3 u.e6] []:=by
 have Wf:=dy.cL.ln
 have hq2:=dy.cR.ln
 have hq3:=dy.cB.ln
 have hq4:=dy.xw.some_
 have hq5:=dy.len
 refine gQ func30 I ntmps30 I fun σ=>?_
 replace σ:=σ.aY hm.m6
 replace σ:=σ.aY hm.m5
 replace σ:=σ.aY hm.m4
 replace σ:=σ.aY hm.m3
 replace σ:=σ.aY hm.m1
 replace σ:=σ.aY hm.m0
 replace σ:=σ.aY hm.mP
 refine eE I<|ll σ I fun _ de σ=>eE I<|iR dJ σ I fun _ eQ σ=>lE 1 σ I<|eE I<|fk call20 (tB σ.bW ae) I ?_
 rintro _ _ ⟨Xp,xp,rfl,hSq⟩
 refine ⟨_,I,?_⟩
 replace σ:=σ.more hSq
 refine eE I<|mK 2 σ I fun _ σ=>vE I (fun η=>N8 η underlying112 (eC.size) oT I I I)<|?_
 replace σ:=σ.JV kF trivial (fun _ h=>h)
 replace σ:=σ.JV kF trivial (fun _ h=>h)
 replace σ:=σ.JV kF trivial (fun _ h=>h)
 refine ks (fun mz l w=>∃j:Nat,∃X1:Option Addr,∃x1:Nat,∃Z1:Option Addr,∃z1:Nat,∃X2:Option Addr,∃x2:Nat,∃Z2:Option Addr,∃z2:Nat,∃X3:Option Addr,∃x3:Nat,∃Z3:Option Addr,∃z3:Nat,3 - j=mz/\l=[(13,aM j),(1,cY de),(2,cY eQ),(12,.agg #[.pointer (some ⟨de,3,none⟩),.pointer (some ⟨de,7,none⟩),.pointer (some ⟨de,11,none⟩)])]/\St w0 w [bk de #[aM u.k1,aM u.k2,.slice Xp u.n xp,aM u.k1,aM u.gL,.slice (mI (Nat.blt 0 j) X1 u.A0) u.n0 (mI (Nat.blt 0 j) x1 u.c0),.slice (mI (Nat.blt 0 j) Z1 u.A1) u.n (mI (Nat.blt 0 j) z1 u.c1),aM u.k2,aM u.gR,.slice (mI (Nat.blt 1 j) X2 u.A3) u.n3 (mI (Nat.blt 1 j) x2 u.c3),.slice (mI (Nat.blt 1 j) Z2 u.A4) u.n (mI (Nat.blt 1 j) z2 u.c4),aM u.n,aM u.gB,.slice (mI (Nat.blt 2 j) X3 u.A5) u.n5 (mI (Nat.blt 2 j) x3 u.c5),.slice (mI (Nat.blt 2 j) Z3 u.A6) u.n (mI (Nat.blt 2 j) z3 u.c6)] 30,opF (Nat.blt 0 j) (star [dQ X1 u.n0 x1 u.e0,cI Z1 u.n z1 u.e1]),opF (Nat.blt 1 j) (star [dQ X2 u.n3 x2 u.e3,cI Z2 u.n z2 u.e4]),opF (Nat.blt 2 j) (star [dQ X3 u.n5 x3 u.e5,cI Z3 u.n z3 u.e6]),lp Xp u.n xp u.ps,bk eQ #[aG 0,aG 0,bM,aG 0,aG 0,bM,bM,aG 0,aG 0,bM,bM,aG 0,aG 0,bM,bM] 30] [jD u.Ap u.n u.cp u.ps,fC u.A0 u.n0 u.c0 u.e0,fg u.A1 u.n u.c1 u.e1,fC u.A3 u.n3 u.c3 u.e3,fg u.A4 u.n u.c4 u.e4,fC u.A5 u.n5 u.c5 u.e5,fg u.A6 u.n u.c6 u.e6]/\j<=3) ⟨0,none,0,none,0,none,0,none,0,none,0,none,0,I,I,σ.pick [5,0,1,2,3,4] [0,1,2,3,4,5,6] aB,(av _)⟩ aT ?_
 rintro _ _ _ ⟨j,X1,x1,Z1,z1,X2,x2,Z2,z2,X3,x3,Z3,z3,rfl,rfl,σ,hj⟩
 rcases (show j=0∨j=1∨j=2∨j=3 by omega) with rfl|rfl|rfl|rfl
 ·replace σ:St w0 _ [bk de #[aM u.k1,aM u.k2,.slice Xp u.n xp,aM u.k1,aM u.gL,.slice u.A0 u.n0 u.c0,.slice u.A1 u.n u.c1,aM u.k2,aM u.gR,.slice u.A3 u.n3 u.c3,.slice u.A4 u.n u.c4,aM u.n,aM u.gB,.slice u.A5 u.n5 u.c5,.slice u.A6 u.n u.c6] 30,kF,kF,kF,lp Xp u.n xp u.ps,bk eQ #[aG 0,aG 0,bM,aG 0,aG 0,bM,bM,aG 0,aG 0,bM,bM,aG 0,aG 0,bM,bM] 30] [jD u.Ap u.n u.cp u.ps,fC u.A0 u.n0 u.c0 u.e0,fg u.A1 u.n u.c1 u.e1,fC u.A3 u.n3 u.c3 u.e3,fg u.A4 u.n u.c4 u.e4,fC u.A5 u.n5 u.c5 u.e5,fg u.A6 u.n u.c6 u.e6]:=σ
  refine il I<|kB (b':=true) aB<|iT I I<|vE I (fun η=>lF (v:=some ⟨de,3,none⟩) 0 η underlying112 eC I I aB I)<|cE I (fun η=>fT (cs:=[aM u.k1,aM u.gL,.slice u.A0 u.n0 u.c0,.slice u.A1 u.n u.c1]) η bC I σ.gq I I)<|eE I<|fk call50 (rC σ.dw σ.fX ae ae) I ?_
  rintro _ _ ⟨si,rk,B55,d56,rfl,uM⟩
  refine ⟨_,I,?_⟩
  replace σ:=σ.more uM
  replace σ:=σ.pack 2
  replace σ:=σ.pick [0,1,3,4,5,6] [0,1,2,3,4,5,6] aB
  exact eE I<|fB 1 σ I fun _ σ=>can (j:=1) I ae<|gI ⟨1,si,rk,B55,d56,X2,x2,Z2,z2,X3,x3,Z3,z3,I,I,σ.pick [1,0,2,3,4,5] [0,1,2,3,4,5,6] aB,ae⟩ aT ae
 ·replace σ:St w0 _ [bk de #[aM u.k1,aM u.k2,.slice Xp u.n xp,aM u.k1,aM u.gL,.slice X1 u.n0 x1,.slice Z1 u.n z1,aM u.k2,aM u.gR,.slice u.A3 u.n3 u.c3,.slice u.A4 u.n u.c4,aM u.n,aM u.gB,.slice u.A5 u.n5 u.c5,.slice u.A6 u.n u.c6] 30,star [dQ X1 u.n0 x1 u.e0,cI Z1 u.n z1 u.e1],kF,kF,lp Xp u.n xp u.ps,bk eQ #[aG 0,aG 0,bM,aG 0,aG 0,bM,bM,aG 0,aG 0,bM,bM,aG 0,aG 0,bM,bM] 30] [jD u.Ap u.n u.cp u.ps,fC u.A0 u.n0 u.c0 u.e0,fg u.A1 u.n u.c1 u.e1,fC u.A3 u.n3 u.c3 u.e3,fg u.A4 u.n u.c4 u.e4,fC u.A5 u.n5 u.c5 u.e5,fg u.A6 u.n u.c6 u.e6]:=σ
  refine il I<|kB (b':=true) aB<|iT I I<|vE I (fun η=>lF (v:=some ⟨de,7,none⟩) 1 η underlying112 eC I I aB I)<|cE I (fun η=>fT (cs:=[aM u.k2,aM u.gR,.slice u.A3 u.n3 u.c3,.slice u.A4 u.n u.c4]) η bC I σ.gq I I)<|eE I<|fk call50 (rC σ.kC σ.nX ae ae) I ?_
  rintro _ _ ⟨A58,c59,B60,d61,rfl,wZ⟩
  refine ⟨_,I,?_⟩
  replace σ:=σ.more wZ
  replace σ:=σ.pack 2
  replace σ:=σ.pick [0,1,2,4,5,6] [0,1,2,3,4,5,6] aB
  exact eE I<|fB 1 σ I fun _ σ=>can (j:=1) I ae<|gI ⟨2,X1,x1,Z1,z1,A58,c59,B60,d61,X3,x3,Z3,z3,I,I,σ.pick [1,2,0,3,4,5] [0,1,2,3,4,5,6] aB,ae⟩ aT ae
 ·replace σ:St w0 _ [bk de #[aM u.k1,aM u.k2,.slice Xp u.n xp,aM u.k1,aM u.gL,.slice X1 u.n0 x1,.slice Z1 u.n z1,aM u.k2,aM u.gR,.slice X2 u.n3 x2,.slice Z2 u.n z2,aM u.n,aM u.gB,.slice u.A5 u.n5 u.c5,.slice u.A6 u.n u.c6] 30,star [dQ X1 u.n0 x1 u.e0,cI Z1 u.n z1 u.e1],star [dQ X2 u.n3 x2 u.e3,cI Z2 u.n z2 u.e4],kF,lp Xp u.n xp u.ps,bk eQ #[aG 0,aG 0,bM,aG 0,aG 0,bM,bM,aG 0,aG 0,bM,bM,aG 0,aG 0,bM,bM] 30] [jD u.Ap u.n u.cp u.ps,fC u.A0 u.n0 u.c0 u.e0,fg u.A1 u.n u.c1 u.e1,fC u.A3 u.n3 u.c3 u.e3,fg u.A4 u.n u.c4 u.e4,fC u.A5 u.n5 u.c5 u.e5,fg u.A6 u.n u.c6 u.e6]:=σ
  refine il I<|kB (b':=true) aB<|iT I I<|vE I (fun η=>lF (v:=some ⟨de,11,none⟩) 2 η underlying112 eC I I aB I)<|cE I (fun η=>fT (cs:=[aM u.n,aM u.gB,.slice u.A5 u.n5 u.c5,.slice u.A6 u.n u.c6]) η bC I σ.gq I I)<|eE I<|fk call50 (rC σ.rK σ.rX ae ae) I ?_
  rintro _ _ ⟨Y9,c64,B65,d66,rfl,Vx⟩
  refine ⟨_,I,?_⟩
  replace σ:=σ.more Vx
  replace σ:=σ.pack 2
  replace σ:=σ.pick [0,1,2,3,5,6] [0,1,2,3,4,5,6] aB
  exact eE I<|fB 1 σ I fun _ σ=>can (j:=1) I ae<|gI ⟨3,X1,x1,Z1,z1,X2,x2,Z2,z2,Y9,c64,B65,d66,I,I,σ.pick [1,2,3,0,4,5] [0,1,2,3,4,5,6] aB,ae⟩ aT ae
 ·replace σ:St w0 _ [bk de #[aM u.k1,aM u.k2,.slice Xp u.n xp,aM u.k1,aM u.gL,.slice X1 u.n0 x1,.slice Z1 u.n z1,aM u.k2,aM u.gR,.slice X2 u.n3 x2,.slice Z2 u.n z2,aM u.n,aM u.gB,.slice X3 u.n5 x3,.slice Z3 u.n z3] 30,star [dQ X1 u.n0 x1 u.e0,cI Z1 u.n z1 u.e1],star [dQ X2 u.n3 x2 u.e3,cI Z2 u.n z2 u.e4],star [dQ X3 u.n5 x3 u.e5,cI Z3 u.n z3 u.e6],lp Xp u.n xp u.ps,bk eQ #[aG 0,aG 0,bM,aG 0,aG 0,bM,bM,aG 0,aG 0,bM,bM,aG 0,aG 0,bM,bM] 30] [jD u.Ap u.n u.cp u.ps,fC u.A0 u.n0 u.c0 u.e0,fg u.A1 u.n u.c1 u.e1,fC u.A3 u.n3 u.c3 u.e3,fg u.A4 u.n u.c4 u.e4,fC u.A5 u.n5 u.c5 u.e5,fg u.A6 u.n u.c6 u.e6]:=σ
  refine il I<|kB (b':=false) aB<|iF I I<|?_
  replace σ:=(σ.pick [1,0,2,3,4,5] [0,1,2,3,4,5,6] aB).unpack
  replace σ:=(σ.pick [3,0,1,2,4,5,6] [0,1,2,3,4,5,6] aB).unpack
  replace σ:=(σ.pick [5,0,1,2,3,4,6,7] [0,1,2,3,4,5,6] aB).unpack
  exact gE 6 σ I<|eE I<|fB 8 σ I fun _ σ=>oR (fun e=>iJ results30 (RV.cell e iG I (σ.pV (k:=8) I) I))<|⟨Xp,xp,X1,x1,Z1,z1,X2,x2,Z2,z2,X3,x3,Z3,z3,I,σ.pick [7,4,5,2,3,0,1] [] aB⟩
theorem afQ (dy:u.Ok) (hm:u.Mem w0):
  Calls prog 10 #[.agg (uW u)] w0 fun e w'=>∃gm Xp xp X1 x1 Z1 z1 X2 x2 Z2 z2 X3 x3 Z3 z3,e=.returned (.tuple #[cY gm,aG 0])/\St w0 w' [bk gm #[aM u.k1,aM u.k2,.slice Xp u.n xp,aM u.k1,aM u.gL,.slice X1 u.n0 x1,.slice Z1 u.n z1,aM u.k2,aM u.gR,.slice X2 u.n3 x2,.slice Z2 u.n z2,aM u.n,aM u.gB,.slice X3 u.n5 x3,.slice Z3 u.n z3] 82,lp Xp u.n xp u.ps,dQ X1 u.n0 x1 u.e0,cI Z1 u.n z1 u.e1,dQ X2 u.n3 x2 u.e3,cI Z2 u.n z2 u.e4,dQ X3 u.n5 x3 u.e5,cI Z3 u.n z3 u.e6] []:=by
 refine gQ func10 I ntmps10 I fun σ=>?_
 replace σ:=σ.aY hm.m6
 replace σ:=σ.aY hm.m5
 replace σ:=σ.aY hm.m4
 replace σ:=σ.aY hm.m3
 replace σ:=σ.aY hm.m1
 replace σ:=σ.aY hm.m0
 replace σ:=σ.aY hm.mP
 refine eE I<|ll σ I fun _ de σ=>gE 0 σ I<|eE I<|gV call22 (Gi dy ⟨σ.bW,σ.dw,σ.fX,σ.kC,σ.nX,σ.rK,σ.rX⟩) σ I fun _ σ=>lK I<|kB (b':=false) I<|iF I I<|gE 0 σ I<|eE I<|fk call30 (PW dy ⟨σ.bW,σ.dw,σ.fX,σ.kC,σ.nX,σ.rK,σ.rX⟩) I ?_
 rintro _ _ ⟨Xp,xp,X1,x1,Z1,z1,X2,x2,Z2,z2,X3,x3,Z3,z3,rfl,hSq⟩
 refine ⟨_,I,?_⟩
 replace σ:=σ.more hSq
 exact vE I (fun η=>eV (c:=#[aM u.k1,aM u.k2,.slice Xp u.n xp,aM u.k1,aM u.gL,.slice X1 u.n0 x1,.slice Z1 u.n z1,aM u.k2,aM u.gR,.slice X2 u.n3 x2,.slice Z2 u.n z2,aM u.n,aM u.gB,.slice X3 u.n5 x3,.slice Z3 u.n z3]) tS η I bI)<|eE I<|ll σ I fun _ eQ σ=>o2 results10 I<|⟨eQ,Xp,xp,X1,x1,Z1,z1,X2,x2,Z2,z2,X3,x3,Z3,z3,I,σ.pick [0,1,2,3,4,5,6,7] [] aB⟩
theorem PX (dy:u.Ok) (hM:(bk gm (uW u) 82).P w0) (h1:n1<=4096) (h2:n2<=4096):
  Calls prog 52 #[cY gm,aM n1,aM n2,aG t] w0 fun e w'=>e=.returned (.tuple #[aM (mU n1 n2 u.k1 u.k2),.bool (decide (EP n1 n2 u.k1 u.k2 t))])/\Below w0.heap.size w0 w':=by
 have mJ:=dy.xg.1
 have mr:=dy.xg.2.1
 refine gQ func52 I ntmps52 I fun σ=>?_
 replace σ:=σ.lZ _ hM
 exact lj [] [0,4,8,12,16,20,25,28,32,36,40,45,48,54,56,60,64,68,72] bI σ fun _ σ=>sE I (fun η hg=>cC η bn I (ou (hg.pt (j:=0) I)) I)<|sE I (fun η hg=>cC η bn I (ou (hg.pt (j:=0) I)) I)<|eS I<|gV call95 (O7 (n1:=n1) (n2:=n2) (k1:=u.k1) (k2:=u.k2) (t:=t) ae ae ae ae ae ae) σ I fun _ σ=>sk σ.kn<|lj [] [0,4,8,12,16,20,25,28,32,36,40,45,50,52,56,60,64,68] bI σ fun _ σ=>sE I (fun η hg=>cC η bn I (ou (hg.pt (j:=0) I)) I)<|sE I (fun η hg=>cC η bn I (ou (hg.pt (j:=0) I)) I)<|eS I<|gV call96 (H8 (n1:=n1) (n2:=n2) (k1:=u.k1) (k2:=u.k2) ae ae ae ae ae ae) σ I fun _ σ=>sk σ.kn<|o2 results52 I<|⟨I,σ.below⟩
theorem St.aqt {own:List PF} {os:List NE} (h:St w0 w own ps) (hi:ps[i]?=some (dW FN es)) (hj:ps[j]?=some (dW FN os)):St w0 w own (dW FN (es.take n++os.drop m)::ps):=
 h.l9 _ (fun e he=>by
  rcases aK.1 he with q | q
  ·exact h.pat hi e (dM q)
  ·exact h.pat hj e (dx q)) fun o ho b h1 ⟨e,he,hf⟩=>by
  rcases aK.1 he with q | q
  ·exact h.apart _ (ah hi) o ho b h1 ⟨e,dM q,hf⟩
  ·exact h.apart _ (ah hj) o ho b h1 ⟨e,dx q,hf⟩
theorem Ei {es0:List NE} (h0:(pf A0 n0 c0 es0).P w0) (mZ:es0.map zz=xs) (pJ:n0<=4096) (zL:1<=kk) (hk8:kk<=8) (qP:1<=m) (hm4:m<=4096) (hkm:n0<=kk*m) (axV:kk*m<=32768):
  Calls prog 98 #[.slice A0 n0 c0,aM kk,aM m] w0 fun e w'=>∃A c vs,e=.returned (.tuple #[.slice A kk c,aG 0])/\St w0 w' [mc A kk c vs] [dW FL vs]/\lO w0.heap.size vs/\vs.map lz=(List.range kk).map (lr xs m):=by
 refine gQ func98 I ntmps98 I fun σ=>?_
 have cQ:=h0.2.1
 replace σ:=σ.aY h0
 refine il I<|kB (b':=false) (aC ae)<|sG I<|kB (b':=false) (aC ae)<|il I<|kB (b':=false) (aC ae)<|sG I<|kB (b':=false) (aC ae)<|iF I I<|sG I<|kB (b':=false) (aC ae)<|iF I I<|cmn I ae<|il I<|kB (b':=false) (aC ae)<|iF I I<|?_
 replace σ:=(σ.fp dD 43 1).rA FL
 refine ks (fun mz l w=>∃j:Nat,∃Aj:Option Addr,∃nn:Nat,∃cj:Nat,∃ea:List NE,∃A4:Option Addr,∃c4:Nat,∃vs:List LE,kk - j=mz/\l=[(38,aM j),(0,.slice Aj nn cj),(8,.slice A4 j c4),(2,aM m),(37,aM kk)]/\St w0 w [mc A4 j c4 vs] [dW FL vs,pf Aj nn cj ea]/\j<=kk/\ea.map zz=xs.drop (j*m)/\vs.map lz=(List.range j).map (lr xs m)/\lO w0.heap.size vs) ⟨0,A0,n0,c0,es0,none,0,[],I,I,σ,(av _),(by rw [jP,ie]; exact mZ),rfl,(lO.nil _)⟩ aT ?_
 rintro _ _ _ ⟨j,Aj,nn,cj,ea,A4,c4,vs,rfl,rfl,σ,hj,GI,Lr,GF⟩
 have hla:=σ.dw.2.1
 have hca:=σ.dw.1.cap
 have hba:=σ.dw.1.big
 unfold maxLen at hba
 refine il I<|wD (fun lC=>?_) fun lC=>?_
 ·have fh:j<kk:=ae
  refine iT I I<|eE I<|mkN fN ((none,0,0):NE) dD (n:=m) σ dP I qo ae (by unfold maxLen; omega) fun _ eQ σ=>?_
  replace σ:=σ.vX (ov m _) ⟨bX,bX,trivial⟩
  refine eE I<|cpE 0 σ σ.fX.1 jV fW hla akf akg (az.size) I fun _ σ=>?_
  replace σ:=(σ.akd (k:=2) I).aqt (n:=m) (m:=nn) (i:=0) (j:=1) I I
  refine vE I (fun η=>vY (m:=(min nn m)) η underlying43 (az.size) I I ae)<|?_
  replace σ:=σ.rowFrom (i:=4) I (min nn m) jV ae
  have ZE:∀a:Addr,((cS eQ):Option Addr)=some a->w0.heap.size<=a.block:=fun a ha=>by cases ha; exact sx σ (k:=0) rfl
  replace σ:=σ.vh (k:=0) (j:=1) I I (S2 hla)
  refine eE I<|mi (z:=1) #[.slice (cS eQ) m m] σ (bF.size) jm I bI fun _ jh σ=>eE I<|oO (new:=[(((cS eQ),m,m,(ea.take m++(List.replicate m ((none,0,0):NE)).drop nn)):LE)]) 1 0 σ iV I (by unfold maxLen; omega) ae fun _ jY uL σ=>?_
  replace σ:=σ.pX (e:=(((cS eQ),m,m,(ea.take m++(List.replicate m ((none,0,0):NE)).drop nn)):LE)) (i:=6) (j:=0) I I
  exact can (j:=1) I ae<|gI ⟨j+1,(Xo Aj cj (min nn m) 2),(nn - min nn m),(cj - min nn m),(ea.drop (min nn m)),(cS jY),uL,(vs++[(((cS eQ),m,m,(ea.take m++(List.replicate m ((none,0,0):NE)).drop nn)):LE)]),I,I,σ.pick [1] [0,3] aB,ae,(O8 GI hla),(O9 Lr (S1 GI hla)),(GF.snoc (v:=((cS eQ),m,m,(ea.take m++(List.replicate m ((none,0,0):NE)).drop nn))) ZE)⟩ aT ae
 ·obtain rfl:kk=j:=ae
  exact iF I I<|o2 results98 I<|⟨_,_,_,I,σ.pick [0] [0] aB,GF,Lr⟩
theorem St.afR {own:List PF} {es':List NE} (h:St w0 w own ps) (hi:ps[i]?=some (dW FN es)) (hs:∀x∈es',x∈es):St w0 w own (dW FN es'::ps):=
 h.l9 _ (fun e he=>h.pat hi e (hs e he)) fun o ho b h1 ⟨e,he,hf⟩=>h.apart _ (ah hi) o ho b h1 ⟨e,hs e he,hf⟩
theorem VC {es0:List LE} {qp:List (List Int)} (h0:(Gw A0 n0 c0 es0).P w0) (mZ:es0.map lz=qp) (hlen:∀v∈es0,v.2.1<=8192) (hxk:∀v∈es0,∀x∈v.2.2.2,zl (zz x)<=1000) (pJ:n0<=15) (zL:1<=k) (hk4:k<=4096) (hm8:m<=8192) (Bt:m≠0) (hdg:¬(((qq (H' qp k (MY qp k m n0) n0):Nat):Int) - 1>=(m:Nat))):
  Calls prog 100 #[.slice A0 n0 c0,aM k,aM m] w0 fun e w'=>∃A es,e=.returned (.tuple #[.slice A m m,aG 0])/\(pf A m m es).P w'/\es.map zz=(H' qp k (MY qp k m n0) n0).take m/\(∀a,A=some a->w0.heap.size<=a.block)/\Below w0.heap.size w0 w':=by
 refine gQ func100 I ntmps100 I fun σ=>?_
 have cQ:=h0.2.1
 replace σ:=σ.aY h0
 refine il I<|kB (b':=false) (aC ae)<|sG I<|kB (b':=false) (aC ae)<|il I<|kB (b':=false) (aC ae)<|sG I<|kB (b':=false) (aC ae)<|iF I I<|sG I<|kB (b':=false) (aC ae)<|iF I I<|ks (fun mz l w=>∃i:Nat,∃T:Nat,n0 - i=mz/\l=[(36,aM i),(8,aM T),(0,.slice A0 n0 c0),(1,aM k),(2,aM m),(34,.slice A0 n0 c0),(35,aM n0)]/\St w0 w [] [Gw A0 n0 c0 es0]/\i<=n0/\T=MY qp k m i/\T<=65536) ⟨0,m,I,I,σ,(av _),I,ae⟩ aT ?_
 rintro _ _ _ ⟨i,T,rfl,rfl,σ,hi,hT,hTb⟩
 refine il I<|wD (fun lC=>?_) fun lC=>?_
 ·have atY:i<n0:=ae
  obtain ⟨⟨A,n,c,es⟩,eG⟩:∃e,es0[i]?=some e:=⟨_,ag ae⟩
  replace σ:=σ.elem (k:=0) I eG
  have Zr:=σ.bW.2.1
  have hn8:n<=8192:=hlen _ (ah eG)
  obtain ⟨hxi,JL⟩:=MZ mZ eG Zr
  have hik:i*k<=57344:=bR (show i<=14 by omega) hk4
  exact iT I I<|vE I (fun η=>aX (i:=i) η underlying131 (bF.size) I I ae I σ.dw.1)<|cE I (fun η=>bE (v:=.slice A n c) (i:=i) (j:=0) (e:=(A,n,c,es)) η bF I I lM aB σ.dw.1 ae eG I)<|sG I<|kB (b':=false) (aC ae)<|iF I I<|cmn I ae<|can I ae<|vE I (fun η=>vq η I I)<|can (j:=1) I ae<|gI ⟨i+1,(max T ((i*k)+n)),I,I,σ.pick [] [1] aB,ae,(by rw [hT,MY,JL]),ae⟩ aT ae
 ·obtain rfl:n0=i:=ae
  refine iF I I<|eE I<|mkN fN ((none,0,0):NE) dD (n:=T) σ dP I qo ae (by unfold maxLen; omega) fun _ eQ σ=>?_
  have hmT:m<=T:=hT ▸ Kr qp k m n0
  replace σ:=σ.vX (ov T _) ⟨bX,trivial⟩
  refine ks (fun mz l w=>∃q:Nat,∃os:List NE,n0 - q=mz/\l=[(57,aM q),(1,aM k),(2,aM m),(11,.slice (cS eQ) T T),(55,.slice A0 n0 c0),(56,aM n0)]/\St w0 w [Dq (cS eQ) T T os] [dW FN os,Gw A0 n0 c0 es0]/\q<=n0/\os.map zz=H' qp k T q/\Zk (1000+8192*q) (os.map zz)) ⟨0,(List.replicate T ((none,0,0):NE)),I,I,σ,(av _),(by rw [en]; rfl),(fun z hz=>by rw [en] at hz; rw [ei hz]; exact aD (by rw [qk]; omega) (av _))⟩ aT ?_
  rintro _ _ _ ⟨q,os,rfl,rfl,σ,hq,ho,hkz⟩
  refine il I<|wD (fun oL=>?_) fun oL=>?_
  ·have akC:q<n0:=ae
   obtain ⟨⟨A,n,c,es⟩,eG⟩:∃e,es0[q]?=some e:=⟨_,ag ae⟩
   replace σ:=σ.elem (k:=1) I eG
   replace σ:St w0 _ [Dq (cS eQ) T T os] [pf A n c es,dW FN os,Gw A0 n0 c0 es0]:=σ
   have Zr:=σ.bW.2.1
   have hn8:n<=8192:=hlen _ (ah eG)
   obtain ⟨hxi,JL⟩:=MZ mZ eG Zr
   have hik:q*k<=57344:=bR (show q<=14 by omega) hk4
   have qZ:q*k+n<=T:=by have:=S3 qp k m (i:=q) akC; rw [JL,<- hT] at this; exact this
   refine iT I I<|vE I (fun η=>aX (i:=q) η underlying131 (bF.size) I I ae I σ.fX.1)<|cE I (fun η=>bE (v:=.slice A n c) (i:=q) (j:=0) (e:=(A,n,c,es)) η bF I I lM aB σ.fX.1 ae eG I)<|ks (fun mz l w=>∃j:Nat,∃ps:List NE,n - j=mz/\l=[(64,aM j),(1,aM k),(2,aM m),(11,.slice (cS eQ) T T),(12,aM q),(55,.slice A0 n0 c0),(56,aM n0),(57,aM q),(62,.slice A n c),(63,aM n)]/\St w0 w [Dq (cS eQ) T T ps] [pf A n c es,dW FN ps,Gw A0 n0 c0 es0]/\j<=n/\ps.map zz=E7 (qp.getD q []) (q*k) (H' qp k T q) j/\Zk (1000+8192*q+j) (ps.map zz)) ⟨0,os,I,I,σ,(av _),ho,hkz⟩ aT ?_
   rintro _ _ _ ⟨j,ps,rfl,rfl,σ,hj,JB,Ks⟩
   refine il I<|wD (fun rP=>?_) fun rP=>?_
   ·have fh:j<n:=ae
    have xE:ps.length=T:=by rw [<- aw (f:=zz),JB,vv,xP]
    obtain ⟨⟨C,d,x⟩,kf⟩:∃e,es[j]?=some e:=⟨_,ag ae⟩
    replace σ:=σ.elem (k:=0) I kf
    obtain ⟨⟨E,f,y⟩,vQ⟩:∃e,ps[(q*k)+j]?=some e:=⟨_,ag ae⟩
    replace σ:=σ.tD (k:=2) I vQ
    have Cf:zl x<=1000:=hxk _ (ah eG) _ (ah kf)
    have J7:zl y<=1000+8192*q+j:=Ks.es rfl _ (ah vQ)
    refine iT I I<|vE I (fun η=>aX (i:=j) η underlying43 (az.size) I I ae I σ.fX.1)<|cE I (fun η=>cX (i:=j) (e:=(C,d,x)) η az I I jV σ.fX.1 ae kf I)<|eE I<|iR bA σ I fun _ sf σ=>eE I<|fB 0 σ I fun _ σ=>lj [17] [0,4,8,12,16,20,24,28,32,36,40,44,48,53,57,62,64,70] bI σ fun _ σ=>cmn I ae<|can I ae<|cmn I ae<|can I ae<|vE I (fun η=>aX (i:=(q*k)+j) η underlying43 (az.size) I I ae I (aZ σ.l8))<|sE I (fun η hg=>cX (i:=(q*k)+j) (e:=(E,f,y)) η az I I jV (aZ (hg.ow (j:=1) I)) ae vQ I)<|gS 0 I<|eS I<|fk call63 (DF (x:=y) (y:=x) (show iY _ E f y from σ.bW) (show iY _ C d x from σ.dw) ae ae) I ?_
    rintro _ _ ⟨_,rfl,⟨KR,ID,rfl,zS⟩,hb⟩
    refine ⟨_,I,?_⟩
    replace σ:=(σ.call hb).j8 zS ⟨bV I,bX,trivial⟩
    refine sk (σ.kd 0 1)<|vE I (fun η=>aX (i:=(q*k)+j) η underlying43 (az.size) I I ae I (aZ σ.l8))<|eS I<|srE 1 ((q*k)+j) (e1:=(KR,ID,(y+x))) jV σ I I aB ae xE fun _ σ=>sz I<|?_
    replace σ:=σ.tE (e:=(KR,ID,(y+x))) (i:=4) (j:=0) I I ((q*k)+j)
    exact can (j:=1) I ae<|gI ⟨j+1,(ps.set ((q*k)+j) (KR,ID,(y+x))),I,I,σ.pick [1] [4,0,6] aB,ae,(X5 JB hxi kf vQ),(S4 Ks (by have:=M0 y x; omega) ae)⟩ aT ae
   ·obtain rfl:n=j:=ae
    exact iF I I<|can (j:=1) I ae<|gI ⟨q+1,ps,I,I,σ.pick [0] [1,2] aB,ae,(by rw [JB,H',JL]),(Ks.mono ae)⟩ aT ae
  ·obtain rfl:n0=q:=ae
   refine iF I I<|?_
   rw [<- hT] at hdg
   have qy:os.length=T:=by rw [<- aw (f:=zz),ho,xP]
   exact eE I<|gV call150 (aih (es0:=os) ⟨aZ σ.jr,qy,σ.bW⟩ ho ae) σ I fun _ σ=>xo I<|kB (b':=false) (aC hdg)<|iF I I<|gj I<|kB (b':=false) (du.2 ae)<|iF I I<|vE I (fun η=>OO (m:=m) (z:=2) η underlying43 (az.size) I I I hmT)<|o2 results100 I<|⟨_,_,I,⟨adb jV (aZ σ.jr) hmT,by rw [bJ,qy]; omega,(σ.afR (es':=os.take m) (i:=0) rfl fun _ hx=>dM hx).pat (k:=0) rfl⟩,by rw [List.map_take,ho,<- hT],fun a ha=>by cases ha; exact sx σ (k:=0) rfl,σ.below⟩
section
variable {P:Program} {N:Nat} {dq:List Deferred} {a:Act} {l:List (Nat×Value)} {w:World} {d:Nat} {ty:TypeId} {pos:String} {af:Array Edge} {gd:Option (Nat×Bool)}
theorem ZT {z:Nat} {x y:Operand} {X Y Zc c:Array Value} (h:b7 dq N a l) (hT:P.underlying T=some (.array n E)) (hE:∃i,P.info? E=some i/\i.size=z) (hz:∃i,P.info? T=some i/\i.zero=some (.agg Zc)) (hx:eB l x=some (.agg X)) (hy:eB l y=some (.agg Y)) (hf:Instr.fill (fun i=>some (i*z,z)) Zc [(0,.agg X),(1,.agg Y)]=some c):
  (execOp a.eval ⟨some d,.build T #[(0,x),(1,y)],ty,pos,af,gd⟩).run P w=.ok (.value (.agg c)) w:=by
 have Q5:(zeroValue T).run P w=.ok (.agg Zc) w:=by obtain ⟨i,hi,hv⟩:=hz; simp [zeroValue,typeInfo,hi,hv]
 have hl:(#[(0,x),(1,y)].map (fun (i,x)=>(i,a.eval x)):Array (Nat×Value)).toList=[(0,.agg X),(1,.agg Y)]:=by simp [h.ev hx,h.ev hy]
 simp only [execOp,Instr.build,Sem.run_bind,Q5,Result.andThen_ok,run_underlying hT w,run_sizeOf hE,Value.cells,hl,hf]
 rfl
theorem Ej {z:Nat} {x y:Operand} {C v:Array Value} (j:Nat) (h:b7 dq N a l) (hT:P.underlying T=some (.array n E)) (hE:oh P E z) (hx:eB l x=some (.agg C)) (hy:eB l y=some (aM j)) (hj:j<n) (hv:C.extract (j*z) (j*z+z)=v):
  (execOp a.eval ⟨some d,.index T x y,ty,pos,af,gd⟩).run P w=.ok (.value (.agg v)) w:=by
 subst hv
 have hs:=run_sizeOf (w:=w) hE.size
 simp [execOp,h.ev hx,h.ev hy,Instr.index,asIntOf,run_underlying hT,Sem.run_bind,part,hE.agg,hs,hj]
end
abbrev TE:=LE×LE
def fTk (e:TE):List Value:=[.slice e.1.1 e.1.2.1 e.1.2.2.1,.slice e.2.1 e.2.2.1 e.2.2.2.1]
def FTk (_:TE):PF:=kF
theorem ZU (e:TE):(fTk e).length=2:=rfl
theorem ZV {ts:List TE} {x y:LE} (h:ts=(us.zip vs).take i) (hx:us[i]?=some x) (hy:vs[i]?=some y):ts++[(x,y)]=(us.zip vs).take (i+1):=by
 rw [List.take_add_one,(List.getElem?_zip_eq_some (z:=(x,y))).2 ⟨hx,hy⟩,h]; rfl
theorem AW (k m:Nat) (l:List Pt) (xs:List Int):(qx k l m xs).length=l.length:=by unfold qx; rw [aw]
theorem N9 (h:x0 b xs):rj b (xw xs m k):=fun r hr v hv=>by
 obtain ⟨j,_,rfl⟩:=bG.1 hr
 exact x7.1 (uT h m j) v hv
theorem Jl:∀r∈xw xs m k,r.length=m:=fun r hr=>by
 obtain ⟨j,_,rfl⟩:=bG.1 hr
 exact pj xs m j
theorem St.afS {own new:List PF} (h:St w0 w own ps) (hS:St w w' new [dW FL us,dW FL vs]) (hU:lO w.heap.size us) (hN:lO w.heap.size vs) (hn:tO own):St w0 w' (new++own) (dW FL us::dW FL vs::ps):=by
 have h1:St w w' new [dW FL vs]:=⟨hS.below,hS.mine,hS.new,hS.nd,fun p hp=>hS.pers p (aQ _ hp),fun p hp=>hS.apart p (aQ _ hp)⟩
 have h2:=h.sw h1 hN hn
 have h3:=h.call hS.below
 refine h2.l9 _ (hS.pat (k:=0) I) fun o ho b hb hf=>?_
 rcases aK.1 ho with q | q
 ·exact hS.apart _ (aJ ..) o q b hb hf
 ·exact apL (hS.pat (k:=0) I) hU hn (fun o ho b hb=>o.lt (h.mine o ho) hb) o q b hb (h3.mine o q) hf
theorem VD (dy:u.Ok) (hM:(bk gm (uW u) 82).P w0) (hm:u.Mem w0) {es0 es1:List NE} (hT:x' w0) (h0:(pf A0 n0 c0 es0).P w0) (h1:(pf A1 n1 c1 es1).P w0) (mZ:es0.map zz=xs) (po:es1.map zz=ys) (pJ:n0<=4096) (Wp:n1<=4096) (qP:1<=m/\m<=4096) (hx:n0<=u.k1*m) (hy:n1<=u.k2*m) (G2:x0 b xs) (qz:x0 b ys) (Wg:b<=1000000):
  Calls prog 54 #[cY gm,.slice A0 n0 c0,.slice A1 n1 c1,aM m] w0 fun e w'=>∃A c us vs,e=.returned (.tuple #[.slice A u.n c,aM (u.n0+u.n3),aG 0])/\St w0 w' [fc dD 133 2 A u.n c (fl fTk (us.zip vs))] [dW FL us,dW FL vs]/\lO w0.heap.size us/\lO w0.heap.size vs/\us.map lz=qx u.k1 u.ps m xs/\vs.map lz=qx u.k2 u.ps m ys:=by
 have mJ:=dy.xg.1
 have mr:=dy.xg.2.1
 have yd:=dy.num
 have Wf:=dy.cL.ln
 have hq2:=dy.cR.ln
 have hq3:=dy.cB.ln
 have hg1:=dy.cL.i1
 have hg2:=dy.cR.i1
 have hg3:=dy.cB.i1
 have hq4:=dy.xw.some_
 have hq5:=dy.len
 refine gQ func54 I ntmps54 I fun σ=>?_
 replace σ:=σ.Jj hT
 replace σ:=σ.aY hm.m6
 replace σ:=σ.aY hm.m5
 replace σ:=σ.aY hm.m4
 replace σ:=σ.aY hm.m3
 replace σ:=σ.aY hm.m1
 replace σ:=σ.aY hm.m0
 replace σ:=σ.aY hm.mP
 replace σ:=σ.lZ _ hM
 have iI:=h1.2.1
 replace σ:=σ.aY h1
 have cQ:=h0.2.1
 replace σ:=σ.aY h0
 have aqw:u.k1*m<=32768:=bR mJ.2 qP.2
 have aqx:u.k2*m<=32768:=bR mr.2 qP.2
 obtain ⟨R1,hr0,ho0⟩:=I7 (m:=m) (xs:=xs) dy.pL ae
 obtain ⟨R2,hr1,ho1⟩:=I7 (m:=m) (xs:=ys) dy.pR ae
 refine eE I<|iR sS σ I fun _ de σ=>lj [] [0,4,8,12,16,21,24,28,32,36,41,44,48,52,56,60,64,69,72,76,80,84,89,92,96,100] bI σ fun _ σ=>sE I (fun η hg=>cC η bn I (ou (hg.pt (j:=2) I)) I)<|sE I (fun η hg=>fT η bC I (ou (hg.pt (j:=2) I)) I I)<|vE I (fun η=>eV (c:=#[.slice A0 n0 c0,aM u.k1,aM u.k1,aM u.gL,.slice u.A0 u.n0 u.c0,.slice u.A1 u.n u.c1]) ir η I I)<|sE I (fun η hg=>cC η bn I (ou (hg.pt (j:=2) I)) I)<|sE I (fun η hg=>fT η bC I (ou (hg.pt (j:=2) I)) I I)<|vE I (fun η=>eV (c:=#[.slice A1 n1 c1,aM u.k2,aM u.k2,aM u.gR,.slice u.A3 u.n3 u.c3,.slice u.A4 u.n u.c4]) ir η I I)<|vE I (fun η=>ZT (c:=#[.slice A0 n0 c0,aM u.k1,aM u.k1,aM u.gL,.slice u.A0 u.n0 u.c0,.slice u.A1 u.n u.c1,.slice A1 n1 c1,aM u.k2,aM u.k2,aM u.gR,.slice u.A3 u.n3 u.c3,.slice u.A4 u.n u.c4]) η underlying176 (fo.size) kq I I bI)<|?_
 replace σ:=(σ.fp dD 43 1).rA FL
 replace σ:=(σ.fp dD 43 1).rA FL
 refine ks (fun mz l w=>∃j:Nat,∃q:Nat,∃A8:Option Addr,∃m8:Nat,∃c8:Nat,∃v8:List LE,∃A9:Option Addr,∃m9:Nat,∃c9:Nat,∃v9:List LE,2 - j=mz/\l=[(46,aM j),(12,aM q),(3,aM m),(11,cY de),(45,.agg #[.slice A0 n0 c0,aM u.k1,aM u.k1,aM u.gL,.slice u.A0 u.n0 u.c0,.slice u.A1 u.n u.c1,.slice A1 n1 c1,aM u.k2,aM u.k2,aM u.gR,.slice u.A3 u.n3 u.c3,.slice u.A4 u.n u.c4])]/\St w0 w [bk de #[.slice A8 m8 c8,.slice A9 m9 c9] 174,mc A8 m8 c8 v8,mc A9 m9 c9 v9] [dW FL v8,dW FL v9,pf A0 n0 c0 es0,pf A1 n1 c1 es1,bk gm (uW u) 82,jD u.Ap u.n u.cp u.ps,fC u.A0 u.n0 u.c0 u.e0,fg u.A1 u.n u.c1 u.e1,fC u.A3 u.n3 u.c3 u.e3,fg u.A4 u.n u.c4 u.e4,fC u.A5 u.n5 u.c5 u.e5,fg u.A6 u.n u.c6 u.e6,tW]/\j<=2/\((j=0/\q=0)∨(j=1/\q=u.n0)∨(j=2/\q=u.n0+u.n3))/\(j=0∨(m8=u.n/\lO w0.heap.size v8/\v8.map lz=qx u.k1 u.ps m xs))/\(j<=1∨(m9=u.n/\lO w0.heap.size v9/\v9.map lz=qx u.k2 u.ps m ys))) ⟨0,0,none,0,0,[],none,0,0,[],I,I,σ.pick [2,0,1] [1,1,2,3,4,5,6,7,8,9,10,11,12] aB,(av _),ae,(.inl I),(.inl ae)⟩ aT ?_
 rintro _ _ _ ⟨j,q,A8,m8,c8,v8,A9,m9,c9,v9,rfl,rfl,σ,hj,hq,hv8,PD⟩
 rcases (show j=0∨j=1∨j=2 by omega) with rfl|rfl|rfl
 ·obtain rfl:q=0:=ae
  refine il I<|kB (b':=true) aB<|iT I I<|vE I (fun η=>Ej (v:=#[.slice A0 n0 c0,aM u.k1,aM u.k1,aM u.gL,.slice u.A0 u.n0 u.c0,.slice u.A1 u.n u.c1]) 0 η underlying176 fo I I aB bI)<|eE I<|iR gZ σ I fun _ eQ σ=>eE I<|fB 0 σ I fun _ σ=>lE 0 σ I<|lE 0 σ I<|eE I<|fk call98 (Ei σ.fX mZ ae ae ae ae ae ae aqw) I ?_
  rintro _ _ ⟨si,rk,aqy,rfl,tp,aqz,ZW⟩
  refine ⟨_,I,?_⟩
  have hs8:=σ.below.size
  replace σ:=σ.sw tp aqz ⟨bV I,bV I,bX,bX,trivial⟩
  replace ZW:List.map lz aqy=xw xs m u.k1:=ZW
  refine lK I<|kB (b':=false) I<|iF I I<|cE I (fun η=>fT (cs:=[aM u.k1,aM u.gL,.slice u.A0 u.n0 u.c0,.slice u.A1 u.n u.c1]) η bC I σ.vN I I)<|eE I<|fk call99 (LC (σ.pat (k:=7) I) (σ.pat (k:=8) I) (uV σ.jr (by have:=aq List.length ZW; rw [aw,AR] at this; exact this) σ.bW) dy.cL ZW Jl ⟨by omega,by omega⟩ (σ.pat (k:=13) rfl) (N9 G2:rj (b+64*0) _) ae hr0) rfl ?_
  rintro _ _ ⟨Qm,JF,akE,rfl,wZ,ZX,akF⟩
  refine ⟨_,I,?_⟩
  have Qx:=σ.below.size
  replace σ:=σ.sw wZ ZX ⟨bX,bV I,bV I,bX,bX,trivial⟩
  rw [ho0] at akF
  replace ZX:lO w0.heap.size akE:=fun v hv a ha=>aD Qx (ZX v hv a ha)
  replace σ:=σ.pick [0,1,2,3,5] [0,1,2,3,4,5,6,7,8,9,10,11,12,13,14] aB
  exact lK I<|kB (b':=false) I<|iF I I<|vE I (fun η=>my (i:=0) (p:=0) η underlying174 (kM.size) I I ae ae)<|eE I<|mK 3 σ I fun _ σ=>can (i:=0) I ae<|can (i:=0) (j:=1) I ae<|gI ⟨1,0+u.n0,Qm,u.n,JF,akE,A9,m9,c9,v9,I,I,σ.pick [3,0,4] [0,3,4,5,6,7,8,9,10,11,12,13,14] aB,ae,ae,(.inr ⟨I,ZX,akF⟩),(.inl ae)⟩ aT ae
 ·obtain rfl:q=u.n0:=ae
  obtain ⟨hm8,hN8,hw8⟩:=hv8.resolve_left aB
  subst hm8
  refine il I<|kB (b':=true) aB<|iT I I<|vE I (fun η=>Ej (v:=#[.slice A1 n1 c1,aM u.k2,aM u.k2,aM u.gR,.slice u.A3 u.n3 u.c3,.slice u.A4 u.n u.c4]) 1 η underlying176 fo I I aB bI)<|eE I<|iR gZ σ I fun _ Nj σ=>eE I<|fB 0 σ I fun _ σ=>lE 0 σ I<|lE 0 σ I<|eE I<|fk call98 (Ei σ.kC po ae ae ae ae ae ae aqx) I ?_
  rintro _ _ ⟨Yu,TG,aqA,rfl,Cu,aqB,ZY⟩
  refine ⟨_,I,?_⟩
  have hs8:=σ.below.size
  replace σ:=σ.sw Cu aqB ⟨bV I,bV I,bX,bX,trivial⟩
  replace ZY:List.map lz aqA=xw ys m u.k2:=ZY
  refine lK I<|kB (b':=false) I<|iF I I<|cE I (fun η=>fT (cs:=[aM u.k2,aM u.gR,.slice u.A3 u.n3 u.c3,.slice u.A4 u.n u.c4]) η bC I σ.vN I I)<|eE I<|fk call99 (LC (σ.pat (k:=9) I) (σ.pat (k:=10) I) (uV σ.jr (by have:=aq List.length ZY; rw [aw,AR] at this; exact this) σ.bW) dy.cR ZY Jl ⟨by omega,by omega⟩ (σ.pat (k:=13) rfl) (N9 qz:rj (b+64*0) _) ae hr1) rfl ?_
  rintro _ _ ⟨Wy,Wz,akH,rfl,ad1,Z4,akI⟩
  refine ⟨_,I,?_⟩
  have Qx:=σ.below.size
  replace σ:=σ.sw ad1 Z4 ⟨bX,bV I,bV I,bX,bX,trivial⟩
  rw [ho1] at akI
  replace Z4:lO w0.heap.size akH:=fun v hv a ha=>aD Qx (Z4 v hv a ha)
  replace σ:=σ.pick [0,1,2,3,4] [0,1,2,3,4,5,6,7,8,9,10,11,12,13,14] aB
  exact lK I<|kB (b':=false) I<|iF I I<|vE I (fun η=>my (i:=1) (p:=1) η underlying174 (kM.size) I I ae ae)<|eE I<|mK 3 σ I fun _ σ=>can I ae<|can (i:=1) (j:=1) I ae<|gI ⟨2,u.n0+u.n3,A8,u.n,c8,v8,Wy,u.n,Wz,akH,I,I,σ.pick [3,4,0] [2,0,4,5,6,7,8,9,10,11,12,13,14] aB,ae,ae,(.inr ⟨I,hN8,hw8⟩),(.inr ⟨I,Z4,akI⟩)⟩ aT ae
 ·obtain rfl:q=(u.n0+u.n3):=ae
  obtain ⟨hm8,hN8,hw8⟩:=hv8.resolve_left aB
  subst hm8
  obtain ⟨Ql,ZE,hw9⟩:=PD.resolve_left aB
  subst Ql
  refine il I<|kB (b':=false) aB<|iF I I<|vE I (fun η=>my (i:=0) (p:=0) η underlying174 (kM.size) I I ae ae)<|lE 0 σ I<|?_
  have hl8:v8.length=u.n:=by have:=aq List.length hw8; rw [aw,AW] at this; omega
  have hl9:v9.length=u.n:=by have:=aq List.length hw9; rw [aw,AW] at this; omega
  replace σ:=(σ.fp dD 133 2)
  refine ks (fun mz l w=>∃i:Nat,∃A4:Option Addr,∃c4:Nat,∃ts:List TE,u.n - i=mz/\l=[(83,aM i),(19,.slice A4 i c4),(11,cY de),(12,aM (u.n0+u.n3)),(82,aM u.n)]/\St w0 w [fc dD 133 2 A4 i c4 (fl fTk ts),bk de #[.slice A8 u.n c8,.slice A9 u.n c9] 174,mc A8 u.n c8 v8,mc A9 u.n c9 v9] [dW FL v8,dW FL v9,pf A0 n0 c0 es0,pf A1 n1 c1 es1,bk gm (uW u) 82,jD u.Ap u.n u.cp u.ps,fC u.A0 u.n0 u.c0 u.e0,fg u.A1 u.n u.c1 u.e1,fC u.A3 u.n3 u.c3 u.e3,fg u.A4 u.n u.c4 u.e4,fC u.A5 u.n5 u.c5 u.e5,fg u.A6 u.n u.c6 u.e6,tW]/\i<=u.n/\ts=(v8.zip v9).take i) ⟨0,none,0,[],I,I,σ,(av _),I⟩ aT ?_
  rintro _ _ _ ⟨i,A4,c4,ts,rfl,rfl,σ,hi,hts⟩
  refine il I<|wD (fun h78=>?_) fun h78=>?_
  ·have fh:i<u.n:=ae
   obtain ⟨⟨Ax,nx,cx,ex⟩,hx8⟩:∃e,v8[i]?=some e:=⟨_,ag ae⟩
   replace σ:=σ.tD (k:=0) I hx8
   obtain ⟨⟨Ay,ny,cy,ey⟩,Qt⟩:∃e,v9[i]?=some e:=⟨_,ag ae⟩
   replace σ:=σ.tD (k:=2) I Qt
   exact iT I I<|lj [13] [0,4,9,12,16,21,24,29,32,36,41,44,50,54,56] bI σ fun _ σ=>vE I (fun η=>my (i:=0) (p:=0) η underlying174 (kM.size) I I ae ae)<|lS 1 I<|vE I (fun η=>aX (i:=i) η underlying131 (bF.size) I I ae I (aZ σ.pI))<|sE I (fun η hg=>bE (v:=.slice Ax nx cx) (i:=i) (j:=0) (e:=(Ax,nx,cx,ex)) η bF I I lM aB (aZ (hg.ow (j:=2) I)) ae hx8 I)<|vE I (fun η=>my (i:=1) (p:=1) η underlying174 (kM.size) I I ae ae)<|lS 1 I<|vE I (fun η=>aX (i:=i) η underlying131 (bF.size) I I ae I (aZ σ.wF))<|sE I (fun η hg=>bE (v:=.slice Ay ny cy) (i:=i) (j:=0) (e:=(Ay,ny,cy,ey)) η bF I I lM aB (aZ (hg.ow (j:=3) I)) ae Qt I)<|vE I (fun η=>eV (c:=#[.slice Ax nx cx,.slice Ay ny cy]) wS η I I)<|eS I<|mi (z:=2) #[.slice Ax nx cx,.slice Ay ny cy] σ (nO.size) pF I bI fun _ g79 σ=>sk (σ.kd 1 0)<|eS I<|oO (new:=[((Ax,nx,cx,ex),(Ay,ny,cy,ey))]) 1 0 σ vO I (by unfold maxLen; omega) ae fun _ g80 c81 σ=>sz rfl<|can (j:=1) rfl ae<|gI ⟨i+1,(cS g80),c81,(ts++[((Ax,nx,cx,ex),(Ay,ny,cy,ey))]),rfl,rfl,σ.pick [1,2,3,4] [2,3,4,5,6,7,8,9,10,11,12,13,14] aB,ae,(ZV hts hx8 Qt)⟩ aT ae
  ·obtain rfl:i=u.n:=ae
   rw [ax (by rw [List.length_zip]; omega)] at hts
   refine iF I I<|o3 results54 I<|?_
   subst hts
   exact ⟨_,_,v8,v9,I,σ.pick [0] [0,1] aB,hN8,ZE,hw8,hw9⟩
def WI (u:Un) (m:Nat) (xs ys:List Int):List (List Int):=(List.range u.n).map fun i=>ni ((qx u.k1 u.ps m xs).getD i []) ((qx u.k2 u.ps m ys).getD i [])
theorem N' (u:Un) (m:Nat) (xs ys:List Int):(WI u m xs ys).length=u.n:=by unfold WI; simp
theorem Un.Ok.nE (dy:u.Ok):u.n=u.k1+u.k2 - 1:=by have:=dy.num; omega
theorem VF (dy:u.Ok) (hn:n=u.k1+u.k2 - 1) (h:oY n u.gB n (C8 u.ps) u.e5 u.e6 (zf n)) (hl:u.ps.length=n) (hg:n<=u.gB) (hm:1<=m) (xs ys:List Int):∃R',exe (lT u.gB (2*m - 1) ((List.range n).map fun i=>ni ((qx u.k1 u.ps m xs).getD i []) ((qx u.k2 u.ps m ys).getD i []))) u.e5=some R'/\u.e6.map (kh R')=AU xs ys m u.k1 u.k2:=by
 subst hn
 exact UZ hm hl h hg
theorem Un.Ok.back (dy:u.Ok) (hm:1<=m) (xs ys:List Int):∃R',exe (lT u.gB (2*m - 1) (WI u m xs ys)) u.e5=some R'/\u.e6.map (kh R')=AU xs ys m u.k1 u.k2:=
 VF dy dy.nE dy.pB dy.len (by have:=dy.cB.i1; omega) hm xs ys
theorem Gj (hi:i<l.length):∃p∈l,(qx k l m xs).getD i []=tF (tx (xw xs m k) m) (rf k (p8 k p)):=by
 refine ⟨l[i],eJ _,?_⟩
 unfold qx
 rw [aj,ay,ag hi]; rfl
theorem Jm:∀r∈qx k l m xs,r.length=m:=fun r hr=>by
 obtain ⟨p,_,rfl⟩:=bG.1 hr
 exact kJ ..
theorem Oa (dy:u.Ok) (hk:k<=8) (hb:x0 b xs):∀r∈qx k u.ps m xs,x0 (b+31) r:=fun r hr=>by
 obtain ⟨p,hp,rfl⟩:=bG.1 hr
 exact F5 hb (dy.xg.2.2 p hp) hk
theorem Z5 (dy:u.Ok) (hm:1<=m):∀r∈WI u m xs ys,r.length=2*m - 1:=fun r hr=>by
 obtain ⟨i,hi,rfl⟩:=bG.1 hr
 have hi:=eR.1 hi
 obtain ⟨p,_,e1⟩:=Gj (k:=u.k1) (m:=m) (l:=u.ps) (xs:=xs) (i:=i) (by have:=dy.len; omega)
 obtain ⟨q,_,e2⟩:=Gj (k:=u.k2) (m:=m) (l:=u.ps) (xs:=ys) (i:=i) (by have:=dy.len; omega)
 rw [e1,e2,Ch (by rw [kJ]; omega) (by rw [kJ]; omega),kJ,kJ]; omega
theorem afT (dy:u.Ok) (hm:m<=4096) (hx:x0 b xs) (hy:x0 b ys):rj (2*b+75) (WI u m xs ys):=fun r hr v hv=>by
 obtain ⟨i,hi,rfl⟩:=bG.1 hr
 have hi:=eR.1 hi
 obtain ⟨p,hp,e1⟩:=Gj (k:=u.k1) (m:=m) (l:=u.ps) (xs:=xs) (i:=i) (by have:=dy.len; omega)
 obtain ⟨q,hq,e2⟩:=Gj (k:=u.k2) (m:=m) (l:=u.ps) (xs:=ys) (i:=i) (by have:=dy.len; omega)
 rw [e1,e2] at hv
 have:=NQ (n:=12) (F5 (k:=u.k1) (m:=m) hx (dy.xg.2.2 p hp) dy.xg.1.2) (F5 (k:=u.k2) (m:=m) hy (dy.xg.2.2 q hq) dy.xg.2.1.2) (by rw [kJ]; exact hm)
 exact x7.1 (this.mono ae) v hv
theorem afU {k1 k2:Nat} (hm:m<=4096) (hk:k1<=8) (hx:x0 b xs) (hy:x0 b ys):rj (2*b+17) (AU xs ys m k1 k2):=fun r hr v hv=>by
 obtain ⟨s,hs,rfl⟩:=bG.1 hr
 obtain ⟨c,_,rfl⟩:=bG.1 hv
 have h1:∀i,(if i<=s/\s<i+k2 then cv (co (lr xs m i)) (co (lr ys m (s - i))) c else 0).natAbs<2 ^ (2*b+13):=fun i=>by
  split
  ·have:=NQ (n:=12) (uT hx m i) (uT hy m (s - i)) (by rw [pj]; exact hm) c
   rw [Ci] at this
   exact this
  ·exact eL aB
 have h2:=F4 (eL (by decide:0<2)) k1 fun i _=>h1 i
 have h3:k1*2 ^ (2*b+13)<=8*2 ^ (2*b+13):=bB _ hk
 have h4:2 ^ (2*b+17)=16*2 ^ (2*b+13):=by rw [show 2*b+17=4+(2*b+13) by omega,eh]
 have h5:0<2 ^ (2*b+13):=eL aB
 unfold blF
 omega
theorem Un.Ok.join (dy:u.Ok) (hm:1<=m) (hx:xs.length<=u.k1*m) (hy:ys.length<=u.k2*m) (hN:(ni xs ys).length=N):
  qq (H' (AU xs ys m u.k1 u.k2) m (MY (AU xs ys m u.k1 u.k2) m N u.n) u.n)<=N/\(H' (AU xs ys m u.k1 u.k2) m (MY (AU xs ys m u.k1 u.k2) m N u.n) u.n).take N=ni xs ys:=by
 rw [dy.nE]
 exact Zm hm dy.xg.1.1 dy.xg.2.1.1 hx hy hN
theorem Z6 {k1 k2:Nat}:∀r∈AU xs ys m k1 k2,r.length=2*m - 1:=fun r hr=>by
 obtain ⟨s,_,rfl⟩:=bG.1 hr
 exact td ..
theorem VG (dy:u.Ok) (hM:(bk gm (uW u) 82).P w0) (hm:u.Mem w0) (hT:x' w0) (h2:(Gw A2 u.n c2 vs).P w0) (qw:vs.map lz=WI u m xs ys) (qP:1<=m/\m<=2048) (hx:xs.length<=u.k1*m) (hy:ys.length<=u.k2*m) (G2:x0 b xs) (qz:x0 b ys) (Wg:b<=15000) (hN:(ni xs ys).length=N) (hN1:1<=N) (hN8:N<=8192):
  Calls prog 55 #[cY gm,.slice A2 u.n c2,aM m,aM N] w0 fun e w'=>∃A es,e=.returned (.tuple #[.slice A N N,aM u.n5,aG 0])/\(pf A N N es).P w'/\es.map zz=ni xs ys/\(∀a,A=some a->w0.heap.size<=a.block)/\Below w0.heap.size w0 w':=by
 have mJ:=dy.xg.1
 have mr:=dy.xg.2.1
 have yd:=dy.num
 have Wf:=dy.cL.ln
 have hq2:=dy.cR.ln
 have hq3:=dy.cB.ln
 have hg1:=dy.cL.i1
 have hg2:=dy.cR.i1
 have hg3:=dy.cB.i1
 have hq4:=dy.xw.some_
 have hq5:=dy.len
 refine gQ func55 I ntmps55 I fun σ=>?_
 replace σ:=σ.Jj hT
 replace σ:=σ.aY hm.m6
 replace σ:=σ.aY hm.m5
 replace σ:=σ.aY hm.m4
 replace σ:=σ.aY hm.m3
 replace σ:=σ.aY hm.m1
 replace σ:=σ.aY hm.m0
 replace σ:=σ.aY hm.mP
 replace σ:=σ.lZ _ hM
 have rD:=h2.2.1
 replace σ:=σ.aY h2
 obtain ⟨RB,W5,aqD⟩:=dy.back qP.1 xs ys
 refine cE I (fun η=>fT η bC I (ou σ.dw) I I)<|eE I<|fk call99 (LC (nn:=2*m-1) (b:=2*b+75) (G:=WI u m xs ys) (σ.pat (k:=7) I) (σ.pat (k:=8) I) σ.bW dy.cB qw (Z5 dy qP.1) ⟨by omega,by omega⟩ (σ.pat (k:=9) I) (afT dy ae G2 qz:rj (2*b+75+64*0) _) ae W5) I ?_
 rintro _ _ ⟨A51,c52,ax0,rfl,xf,aqE,VH⟩
 refine ⟨_,I,?_⟩
 have Qx:=σ.below.size
 replace σ:=σ.sw xf aqE trivial
 rw [aqD] at VH
 refine lK I<|kB (b':=false) I<|iF I I<|?_
 have aqF:=σ.below.size
 refine eE I<|fk call100 (VC (k:=m) (m:=N) (uV σ.jr (by have:=aq List.length VH; rw [aw,FX] at this; exact this.trans dy.nE.symm) σ.bW) VH (fun v hv=>by have:=zx σ.bW Z6 VH v hv; omega) (fun v hv x hx=>Lp (afU ae mJ.2 G2 qz _ (VH ▸ fK hv) _ (fK hx)) ae) ae qP.1 ae hN8 ae (by have:=(dy.join qP.1 hx hy hN).1; omega)) rfl ?_
 rintro _ _ ⟨Aj,ej,rfl,hPj,hzj,hnj,hb⟩
 refine ⟨_,I,?_⟩
 replace σ:=σ.call hb
 exact o3 results55 I<|⟨Aj,ej,I,hPj,hzj.trans (dy.join qP.1 hx hy hN).2,fun a ha=>aD aqF (hnj a ha),σ.below⟩
theorem St.VJ {own:List PF} {B:Nat} (h:St w0 w own ps) (hP:(FL v).P w) (hB:∀a,v.1=some a->B<=a.block) (fh:∀o∈own,∀b,o.gO b->b<B∨¬(FL v).gO b) (hn:tO own):St w0 w own (FL v::ps):=
 h.l9 _ hP fun o ho b h1 hf=>by
  rcases fh o ho b h1 with q | q
  ·rcases hf with ⟨_,off,e⟩ | hf
   ·have:=hB _ e
    exact absurd q (Nat.not_lt.2 this)
   ·exact oU hP.2.2 hn o ho b h1 (h.mine o ho) hf
  ·exact q hf
theorem St.akJ {own:List PF} (h:St w0 w own ps) (hk:own[k]?=some o) (h':St w0 w' [o'] [dA w o,FL v]) (hA:∀a,v.1=some a->w.heap.size<=a.block) (hn:tO (own.set k o')):St w0 w' (own.set k o') (FL v::ps):=by
 have h1:=h.kL hk (o':=o') ⟨h'.below,h'.mine,h'.new,h'.nd,fun q hq=>h'.pers q (by rw [aL.1 hq]; exact aJ ..),fun q hq=>h'.apart q (by rw [aL.1 hq]; exact aJ ..)⟩
 refine h1.VJ (h'.pat (k:=1) I) hA (fun e he b hb=>?_) hn
 rcases dz he with q | q
 ·exact .inl (e.lt (h.mine e q) hb)
 ·subst q
  exact .inr (h'.apart (FL v) (aQ _ (aJ ..)) e (aJ ..) b hb)
theorem akK {x y:LE} (hi:i<u.n) (hu:us.map lz=qx u.k1 u.ps m xs) (hv:vs.map lz=qx u.k2 u.ps m ys) (hx:us[i]?=some x) (hy:vs[i]?=some y):(WI u m xs ys)[i]?=some (ni (lz x) (lz y)):=by
 unfold WI
 rw [ay,bN hi]
 have h1:(qx u.k1 u.ps m xs).getD i []=lz x:=by rw [<- hu,aj,ay,hx]; rfl
 have h2:(qx u.k2 u.ps m ys).getD i []=lz y:=by rw [<- hv,aj,ay,hy]; rfl
 rw [fQ,h1,h2]
theorem VK (h:x0 b xs) (hb:b<=32000):Zk 1000 xs:=fun x hx=>Lp (x7.1 h x hx) hb
theorem Z7 {k1 k2:Nat} (hm:m=mU n0 n1 k1 k2) (h1:1<=k1) (h2:1<=k2) (hn:1<=n0):1<=m/\n0<=k1*m/\n1<=k2*m:=by
 subst hm
 unfold mU
 have a1:=X0 h1 hn
 exact ⟨by omega,aD (SW h1) (bT _ ae),aD (SW h2) (bT _ ae)⟩
def akL (u:Un) (gm:Nat) (t:Int) (F:Nat):Prop:=∀{w0 w1:World} {gt L C Pd S:Nat} {A0 A1:Option Addr} {n0 c0 n1 c1 b:Nat} {es0 es1:List NE} {xs ys:List Int},St w0 w1 [bk gt #[aM L,aM C,aM Pd,aM S] 39] [dA w1 (bk gt #[aM L,aM C,aM Pd,aM S] 39),pf A0 n0 c0 es0,pf A1 n1 c1 es1,bk gm (uW u) 82,jD u.Ap u.n u.cp u.ps,fC u.A0 u.n0 u.c0 u.e0,fg u.A1 u.n u.c1 u.e1,fC u.A3 u.n3 u.c3 u.e3,fg u.A4 u.n u.c4 u.e4,fC u.A5 u.n5 u.c5 u.e5,fg u.A6 u.n u.c6 u.e6,tW]->(es0.map zz=xs)->(es1.map zz=ys)->(n0<=F)->(n1<=F)->(F<=300)->(x0 b xs)->(x0 b ys)->(b+31*F<=15000)->(L+(mY u.k1 u.k2 u.n (u.n0+u.n3+u.n5) t n0 n1).1<=2 ^ 60)->(C+(mY u.k1 u.k2 u.n (u.n0+u.n3+u.n5) t n0 n1).2.1<=2 ^ 60)->(Pd+(mY u.k1 u.k2 u.n (u.n0+u.n3+u.n5) t n0 n1).2.2.1<=2 ^ 60)->(S+(mY u.k1 u.k2 u.n (u.n0+u.n3+u.n5) t n0 n1).2.2.2<=2 ^ 60)->
  Calls prog 34 #[cY gm,.slice A0 n0 c0,.slice A1 n1 c1,aG t,cY gt] w1 fun e w'=>∃A N c es,e=.returned (.tuple #[.slice A N c,aG 0])/\(ni xs ys).length=N/\St w0 w' [bk gt #[aM (L+(mY u.k1 u.k2 u.n (u.n0+u.n3+u.n5) t n0 n1).1),aM (C+(mY u.k1 u.k2 u.n (u.n0+u.n3+u.n5) t n0 n1).2.1),aM (Pd+(mY u.k1 u.k2 u.n (u.n0+u.n3+u.n5) t n0 n1).2.2.1),aM (S+(mY u.k1 u.k2 u.n (u.n0+u.n3+u.n5) t n0 n1).2.2.2)] 39] [dA w1 (bk gt #[aM L,aM C,aM Pd,aM S] 39),pf A N c es]/\es.map zz=ni xs ys/\(∀a,A=some a->w1.heap.size<=a.block)
theorem Z8 {F:Nat} (dy:u.Ok) (ih:∀F',F'<F->akL u gm t F') {gt L Pd S:Nat} {es0 es1:List NE} 
 (hS:St w0 w1 [bk gt #[aM L,aM C,aM Pd,aM S] 39] [dA w1 (bk gt #[aM L,aM C,aM Pd,aM S] 39),pf A0 n0 c0 es0,pf A1 n1 c1 es1,bk gm (uW u) 82,jD u.Ap u.n u.cp u.ps,fC u.A0 u.n0 u.c0 u.e0,fg u.A1 u.n u.c1 u.e1,fC u.A3 u.n3 u.c3 u.e3,fg u.A4 u.n u.c4 u.e4,fC u.A5 u.n5 u.c5 u.e5,fg u.A6 u.n u.c6 u.e6,tW]) (mZ:es0.map zz=xs) (po:es1.map zz=ys) (hF0:n0<=F) (hF1:n1<=F) (hF:F<=300) (G2:x0 b xs) (qz:x0 b ys) (hbF:b+31*F<=15000) (hT0:L+(mY u.k1 u.k2 u.n (u.n0+u.n3+u.n5) t n0 n1).1<=2 ^ 60) (yx:C+(mY u.k1 u.k2 u.n (u.n0+u.n3+u.n5) t n0 n1).2.1<=2 ^ 60) (Dv:Pd+(mY u.k1 u.k2 u.n (u.n0+u.n3+u.n5) t n0 n1).2.2.1<=2 ^ 60) (PJ:S+(mY u.k1 u.k2 u.n (u.n0+u.n3+u.n5) t n0 n1).2.2.2<=2 ^ 60):
  Calls prog 34 #[cY gm,.slice A0 n0 c0,.slice A1 n1 c1,aG t,cY gt] w1 fun e w'=>∃A N c es,e=.returned (.tuple #[.slice A N c,aG 0])/\(ni xs ys).length=N/\St w0 w' [bk gt #[aM (L+(mY u.k1 u.k2 u.n (u.n0+u.n3+u.n5) t n0 n1).1),aM (C+(mY u.k1 u.k2 u.n (u.n0+u.n3+u.n5) t n0 n1).2.1),aM (Pd+(mY u.k1 u.k2 u.n (u.n0+u.n3+u.n5) t n0 n1).2.2.1),aM (S+(mY u.k1 u.k2 u.n (u.n0+u.n3+u.n5) t n0 n1).2.2.2)] 39] [dA w1 (bk gt #[aM L,aM C,aM Pd,aM S] 39),pf A N c es]/\es.map zz=ni xs ys/\(∀a,A=some a->w1.heap.size<=a.block):=by
 have mJ:=dy.xg.1
 have mr:=dy.xg.2.1
 have yd:=dy.num
 have Wf:=dy.cL.ln
 have hq2:=dy.cR.ln
 have hq3:=dy.cB.ln
 have hg1:=dy.cL.i1
 have hg2:=dy.cR.i1
 have hg3:=dy.cB.i1
 have hq4:=dy.xw.some_
 have hq5:=dy.len
 refine gQ func34 I ntmps34 I fun σ=>?_
 replace σ:=hS
 obtain ⟨m,hm⟩:∃m,m=mU n0 n1 u.k1 u.k2:=⟨_,rfl⟩
 have cQ:=σ.dw.2.1
 have iI:=σ.fX.2.1
 have WU:xs.length=n0:=by rw [<- mZ,aw]; exact cQ
 have Wa:ys.length=n1:=by rw [<- po,aw]; exact iI
 have aqI:∀w,(bk gm (uW u) 82).P w->Calls prog 52 #[cY gm,aM n0,aM n1,aG t] w fun e w'=>e=.returned (.tuple #[aM m,.bool (decide (EP n0 n1 u.k1 u.k2 t))])/\Below w.heap.size w w':=fun w hP=>by rw [hm]; exact PX dy hP ae ae
 refine eE I<|gV call52 (aqI _ σ.kC) σ I fun _ σ=>dN I (fun lC=>?_) fun lC=>?_
 ·have hE:¬EP n0 n1 u.k1 u.k2 t:=by simpa using lC
  have Hs:=FZ (n:=u.n) (st:=u.n0+u.n3+u.n5) hE
  have e0:(mY u.k1 u.k2 u.n (u.n0+u.n3+u.n5) t n0 n1).1=0:=aq (fun x:Tl=>x.1) Hs
  have e1:(mY u.k1 u.k2 u.n (u.n0+u.n3+u.n5) t n0 n1).2.1=0:=aq (fun x:Tl=>x.2.1) Hs
  have e2:(mY u.k1 u.k2 u.n (u.n0+u.n3+u.n5) t n0 n1).2.2.1=n0*n1:=aq (fun x:Tl=>x.2.2.1) Hs
  have e3:(mY u.k1 u.k2 u.n (u.n0+u.n3+u.n5) t n0 n1).2.2.2=0:=aq (fun x:Tl=>x.2.2.2) Hs
  rw [e0] at hT0
  rw [e1] at yx
  rw [e2] at Dv
  rw [e3] at PJ
  refine eE I<|fk call53 (afV σ.dw mZ σ.fX po (VK G2 ae) (VK qz ae) ae ae) I ?_
  rintro _ _ ⟨_,rfl,⟨Az,cz,ez,rfl,hrz,aqK,hzz⟩,hb⟩
  refine ⟨_,I,?_⟩
  have Qx:=σ.bW.1
  replace σ:=σ.mB hb hrz aqK (oU hrz.2.1 ⟨bV I,trivial⟩)
  refine lE 0 σ I<|can I ae<|eE I<|mK 0 σ I fun _ σ=>o2 results34 I<|?_
  have f0:L+(mY u.k1 u.k2 u.n (u.n0+u.n3+u.n5) t n0 n1).1=L:=by have:=e0; omega
  have f1:C+(mY u.k1 u.k2 u.n (u.n0+u.n3+u.n5) t n0 n1).2.1=C:=by have:=e1; omega
  have f2:Pd+(mY u.k1 u.k2 u.n (u.n0+u.n3+u.n5) t n0 n1).2.2.1=Pd+(n0*n1):=by have:=e2; omega
  have f3:S+(mY u.k1 u.k2 u.n (u.n0+u.n3+u.n5) t n0 n1).2.2.2=S:=by have:=e3; omega
  exact ⟨Az,(ni xs ys).length,cz,ez,I,I,(by rw [f0,f1,f2,f3]; exact σ.pick [0] [1,0] aB),hzz,fun a ha=>aD Qx (hrz.2.2 a ha)⟩
 ·have hE:EP n0 n1 u.k1 u.k2 t:=by simpa using lC
  have Hs:=I8 (n:=u.n) (st:=u.n0+u.n3+u.n5) hE
  rw [<- hm] at Hs
  have hE1:=hE.1
  have hE2:=hE.2
  rw [<- hm] at hE2
  have Ql:=Z7 hm mJ.1 mr.1 ae
  have hNm:(ni xs ys).length=n0+n1-1:=by rw [Ch ae ae,WU,Wa]
  obtain ⟨TA,hTA⟩:∃T,T=mY u.k1 u.k2 u.n (u.n0+u.n3+u.n5) t m m:=⟨_,rfl⟩
  rw [<- hTA] at Hs
  have e0:(mY u.k1 u.k2 u.n (u.n0+u.n3+u.n5) t n0 n1).1=1+u.n*TA.1:=aq (fun x:Tl=>x.1) Hs
  have e1:(mY u.k1 u.k2 u.n (u.n0+u.n3+u.n5) t n0 n1).2.1=u.n+u.n*TA.2.1:=aq (fun x:Tl=>x.2.1) Hs
  have e2:(mY u.k1 u.k2 u.n (u.n0+u.n3+u.n5) t n0 n1).2.2.1=u.n*TA.2.2.1:=aq (fun x:Tl=>x.2.2.1) Hs
  have e3:(mY u.k1 u.k2 u.n (u.n0+u.n3+u.n5) t n0 n1).2.2.2=u.n0+u.n3+u.n5+u.n*TA.2.2.2:=aq (fun x:Tl=>x.2.2.2) Hs
  rw [e0] at hT0
  rw [e1] at yx
  rw [e2] at Dv
  rw [e3] at PJ
  refine eE I<|fk call54 (VD (b:=b) (m:=m) dy σ.kC ⟨σ.nX,σ.rK,σ.rX,σ.pat (k:=7) I,σ.pat (k:=8) I,σ.pat (k:=9) I,σ.pat (k:=10) I⟩ (σ.pat (k:=11) I) σ.dw σ.fX mZ po ae ae ⟨Ql.1,by omega⟩ Ql.2.1 Ql.2.2 G2 qz ae) I ?_
  rintro _ _ ⟨At,ct,us,vs,rfl,hSt,hNu,hNv,GH,Lr⟩
  refine ⟨_,I,?_⟩
  replace σ:=σ.afS hSt hNu hNv ⟨bV I,trivial⟩
  have ax4:us.length=u.n:=by have:=aq List.length GH; rw [aw,AW] at this; omega
  have ax5:vs.length=u.n:=by have:=aq List.length Lr; rw [aw,AW] at this; omega
  refine lK I<|kB (b':=false) I<|iF I I<|lE 1 σ I<|can (j:=1) I ae<|eE I<|mK 1 σ I fun _ σ=>lE 1 σ I<|can I ae<|eE I<|mK 1 σ I fun _ σ=>?_
  replace σ:=(σ.fp dD 43 1).rA FL
  refine ks (fun mz l w=>∃i:Nat,∃A4:Option Addr,∃c4:Nat,∃pv:List LE,∃Lq:Nat,∃Cq:Nat,∃Pq:Nat,∃Sq:Nat,u.n - i=mz/\l=[(81,aM i),(19,.slice A4 i c4),(0,cY gm),(1,.slice A0 n0 c0),(2,.slice A1 n1 c1),(3,aG t),(4,cY gt),(12,aM m),(79,.slice At u.n ct),(80,aM u.n)]/\St w0 w [bk gt #[aM Lq,aM Cq,aM Pq,aM Sq] 39,mc A4 i c4 pv,fc dD 133 2 At u.n ct (fl fTk (us.zip vs))] [dW FL pv,dW FL us,dW FL vs,dA w1 (bk gt #[aM L,aM C,aM Pd,aM S] 39),pf A0 n0 c0 es0,pf A1 n1 c1 es1,bk gm (uW u) 82,jD u.Ap u.n u.cp u.ps,fC u.A0 u.n0 u.c0 u.e0,fg u.A1 u.n u.c1 u.e1,fC u.A3 u.n3 u.c3 u.e3,fg u.A4 u.n u.c4 u.e4,fC u.A5 u.n5 u.c5 u.e5,fg u.A6 u.n u.c6 u.e6,tW]/\i<=u.n/\pv.map lz=(WI u m xs ys).take i/\Lq=L+1+i*TA.1/\Cq=C+i+i*TA.2.1/\Pq=Pd+i*TA.2.2.1/\Sq=S+(u.n0+u.n3)+i*TA.2.2.2) ⟨0,none,0,[],L+1,C,Pd,S+(u.n0+u.n3),I,I,σ.pick [2,0,1] [0,1,2,3,4,5,6,7,8,9,10,11,12,13,14] aB,(av _),I,ae,ae,ae,ae⟩ aT ?_
  rintro _ _ _ ⟨i,A4,c4,pv,Lq,Cq,Pq,Sq,rfl,rfl,σ,hi,hpv,hLq,hCq,hPq,hSq⟩
  refine il I<|wD (fun mX=>?_) fun mX=>?_
  ·have fh:i<u.n:=ae
   obtain ⟨⟨Ax,nx,cx,ex⟩,Cf⟩:∃e,us[i]?=some e:=⟨_,ag ae⟩
   replace σ:=σ.tD (k:=1) I Cf
   obtain ⟨⟨Ay,ny,cy,ey⟩,J7⟩:∃e,vs[i]?=some e:=⟨_,ag ae⟩
   replace σ:=σ.tD (k:=3) I J7
   replace σ:St w0 _ [bk gt #[aM Lq,aM Cq,aM Pq,aM Sq] 39,mc A4 i c4 pv,fc dD 133 2 At u.n ct (fl fTk (us.zip vs))] [pf Ay ny cy ey,pf Ax nx cx ex,dW FL pv,dW FL us,dW FL vs,dA w1 (bk gt #[aM L,aM C,aM Pd,aM S] 39),pf A0 n0 c0 es0,pf A1 n1 c1 es1,bk gm (uW u) 82,jD u.Ap u.n u.cp u.ps,fC u.A0 u.n0 u.c0 u.e0,fg u.A1 u.n u.c1 u.e1,fC u.A3 u.n3 u.c3 u.e3,fg u.A4 u.n u.c4 u.e4,fC u.A5 u.n5 u.c5 u.e5,fg u.A6 u.n u.c6 u.e6,tW]:=σ
   have hnx:m=nx:=(zx σ.kC Jm GH _ (ah Cf)).symm
   have hny:m=ny:=(zx σ.nX Jm Lr _ (ah J7)).symm
   have hxy:(us.zip vs)[i]?=some ((Ax,nx,cx,ex),(Ay,ny,cy,ey)):=(List.getElem?_zip_eq_some (z:=((Ax,nx,cx,ex),(Ay,ny,cy,ey)))).2 ⟨Cf,J7⟩
   have g0:(i+1)*TA.1<=u.n*TA.1:=bB _ ae
   rw [cG] at g0
   have g1:(i+1)*TA.2.1<=u.n*TA.2.1:=bB _ ae
   rw [cG] at g1
   have g2:(i+1)*TA.2.2.1<=u.n*TA.2.2.1:=bB _ ae
   rw [cG] at g2
   have g3:(i+1)*TA.2.2.2<=u.n*TA.2.2.2:=bB _ ae
   rw [cG] at g3
   have hTN:mY u.k1 u.k2 u.n (u.n0+u.n3+u.n5) t nx ny=TA:=by rw [<- hnx,<- hny]; exact hTA.symm
   refine iT I I<|vE I (fun η=>aX (i:=i) η underlying128 (nO.size) I I ae I (aZ σ.pI))<|cE I (fun η=>cX (i:=i) (e:=((Ax,nx,cx,ex),(Ay,ny,cy,ey))) η nO I I ZU (aZ σ.pI) ae hxy I)<|eE I<|iR pF σ I fun _ jh σ=>eE I<|fB 0 σ I fun _ σ=>lE 1 σ I<|can (j:=1) I ae<|eE I<|mK 1 σ I fun _ σ=>lE 0 σ I<|lE 0 σ I<|eE I<|fk call34 (ih m ae (b:=b+31) (σ.cF (k:=1) I [1,0,8,9,10,11,12,13,14,15,16]) I I ae ae ae (Oa dy mJ.2 G2 _ (GH ▸ fK (ah Cf))) (Oa dy mr.2 qz _ (Lr ▸ fK (ah J7))) ae (by rw [hTN]; omega) (by rw [hTN]; omega) (by rw [hTN]; omega) (by rw [hTN]; omega)) rfl ?_
   rintro _ _ ⟨Ap,Np,cp,ep,rfl,hNp,hSp,hzp,hnp⟩
   refine ⟨_,I,?_⟩
   rw [hTN] at hSp
   replace σ:=σ.akJ (v:=(Ap,Np,cp,ep)) (k:=1) I hSp hnp ⟨bV I,bV I,bX,bX,trivial⟩
   refine lK I<|kB (b':=false) I<|iF I I<|eE I<|mi (z:=1) #[.slice Ap Np cp] σ (bF.size) jm I bI fun _ jY σ=>eE I<|oO (new:=[(Ap,Np,cp,ep)]) 3 0 σ iV I (by unfold maxLen; omega) ae fun _ sf c56 σ=>?_
   replace σ:=σ.pX (e:=(Ap,Np,cp,ep)) (i:=3) (j:=0) I I
   exact can (j:=1) I ae<|gI ⟨i+1,(cS sf),c56,(pv++[(Ap,Np,cp,ep)]),Lq+TA.1,Cq+1+TA.2.1,Pq+TA.2.2.1,Sq+TA.2.2.2,I,I,σ.pick [2,3,4] [0,5,6,7,8,9,10,11,12,13,14,15,16,17,18] aB,ae,(vC hpv (akK fh GH Lr Cf J7) hzp),(by rw [cG]; omega),(by rw [cG]; omega),(by rw [cG]; omega),(by rw [cG]; omega)⟩ aT ae
  ·obtain rfl:i=u.n:=ae
   rw [ax (by rw [N']; exact ar _)] at hpv
   refine iF I I<|can I ae<|zN (j:=1) I ae<|eE I<|fk call55 (VG (b:=b) (m:=m) (N:=n0+n1-1) (xs:=xs) (ys:=ys) dy σ.rX ⟨σ.pat (k:=7) I,σ.pat (k:=8) I,σ.pat (k:=9) I,σ.pat (k:=10) I,σ.pat (k:=11) I,σ.pat (k:=12) I,σ.pat (k:=13) I⟩ (σ.pat (k:=14) I) (uV σ.l8 (by have:=aq List.length hpv; rw [aw,N'] at this; exact this) σ.bW) hpv ⟨Ql.1,by omega⟩ (by rw [WU]; exact Ql.2.1) (by rw [Wa]; exact Ql.2.2) G2 qz ae hNm ae ae) rfl ?_
   rintro _ _ ⟨Aj,ej,rfl,hPj,hzj,hnj,hb⟩
   refine ⟨_,I,?_⟩
   have Qx:=σ.kC.1
   replace σ:=σ.abI (v:=(Aj,n0+n1-1,n0+n1-1,ej)) (k:=0) hb I (.inr hnj) hPj ⟨bV I,bX,bX,trivial⟩
   refine lE 0 σ I<|can I ae<|eE I<|mK 0 σ I fun _ σ=>o2 results34 I<|?_
   have f0:L+(mY u.k1 u.k2 u.n (u.n0+u.n3+u.n5) t n0 n1).1=Lq:=by have:=e0; omega
   have f1:C+(mY u.k1 u.k2 u.n (u.n0+u.n3+u.n5) t n0 n1).2.1=Cq:=by have:=e1; omega
   have f2:Pd+(mY u.k1 u.k2 u.n (u.n0+u.n3+u.n5) t n0 n1).2.2.1=Pq:=by have:=e2; omega
   have f3:S+(mY u.k1 u.k2 u.n (u.n0+u.n3+u.n5) t n0 n1).2.2.2=Sq+u.n5:=by have:=e3; omega
   exact ⟨Aj,(n0+n1 - 1),(n0+n1 - 1),ej,I,hNm,(by rw [f0,f1,f2,f3]; exact σ.pick [0] [4,0] aB),hzj,fun a ha=>aD Qx (hnj a ha)⟩
theorem afW (dy:u.Ok) (F:Nat):akL u gm t F:=by
 induction F using Nat.strongRecOn with
 | _ F ih=>
  intro w0 w1 gt L C Pd S A0 A1 n0 c0 n1 c1 b es0 es1 xs ys hS mZ po hF0 hF1 hF G2 qz hbF hT0 yx Dv PJ
  exact Z8 dy ih hS mZ po hF0 hF1 hF G2 qz hbF hT0 yx Dv PJ
theorem afY (dy:u.Ok) (hM:(bk gm (uW u) 82).P w0) (hm:u.Mem w0) {es0 es1:List NE} (hT:x' w0) (h0:(pf A0 n0 c0 es0).P w0) (h1:(pf A1 n1 c1 es1).P w0) (mZ:es0.map zz=xs) (po:es1.map zz=ys) (pJ:n0<=64) (Wp:n1<=64) (G2:x0 b xs) (qz:x0 b ys) (Wg:b<=10000):
  Calls prog 13 #[cY gm,.slice A0 n0 c0,.slice A1 n1 c1,aG t] w0 fun e w'=>∃A N c es,e=.returned (.tuple #[.slice A N c,.agg #[aM ((mY u.k1 u.k2 u.n (u.n0+u.n3+u.n5) t n0 n1).1),aM ((mY u.k1 u.k2 u.n (u.n0+u.n3+u.n5) t n0 n1).2.1),aM ((mY u.k1 u.k2 u.n (u.n0+u.n3+u.n5) t n0 n1).2.2.1),aM ((mY u.k1 u.k2 u.n (u.n0+u.n3+u.n5) t n0 n1).2.2.2)],aG 0])/\(ni xs ys).length=N/\(pf A N c es).P w'/\es.map zz=ni xs ys/\(∀a,A=some a->w0.heap.size<=a.block)/\Below w0.heap.size w0 w':=by
 have mJ:=dy.xg.1
 have mr:=dy.xg.2.1
 have yd:=dy.num
 have Wf:=dy.cL.ln
 have hq2:=dy.cR.ln
 have hq3:=dy.cB.ln
 have hg1:=dy.cL.i1
 have hg2:=dy.cR.i1
 have hg3:=dy.cB.i1
 have hq4:=dy.xw.some_
 have hq5:=dy.len
 refine gQ func13 I ntmps13 I fun σ=>?_
 replace σ:=σ.Jj hT
 replace σ:=σ.aY hm.m6
 replace σ:=σ.aY hm.m5
 replace σ:=σ.aY hm.m4
 replace σ:=σ.aY hm.m3
 replace σ:=σ.aY hm.m1
 replace σ:=σ.aY hm.m0
 replace σ:=σ.aY hm.mP
 replace σ:=σ.lZ _ hM
 replace σ:=σ.aY h1
 replace σ:=σ.aY h0
 obtain ⟨hs0,hs1,Qe,hs3⟩:=VM (t:=t) mJ.1 mr.1 (show u.n<=15 by omega) (show u.n0+u.n3+u.n5<=65536 by omega) pJ Wp
 refine eE I<|iR mO σ I fun _ de σ=>vE I (fun η=>ye η underlying35 I)<|iF I I<|sG I<|kB (b':=false) (aC ae)<|sG I<|kB (b':=false) (aC ae)<|iF I I<|eE I<|iR mO σ I fun _ eQ σ=>eE I<|fk call34 (afW dy 64 (b:=b) (L:=0) (C:=0) (Pd:=0) (S:=0) (σ.cF (k:=0) I [0,1,2,3,4,5,6,7,8,9,10]) mZ po pJ Wp ae G2 qz ae ae ae ae ae) I ?_
 rintro _ _ ⟨Ap,Np,cp,ep,rfl,hNp,hSp,hzp,hnp⟩
 refine ⟨_,I,?_⟩
 have Qx:=σ.below.size
 replace σ:=σ.akJ (v:=(Ap,Np,cp,ep)) (k:=0) I hSp hnp ⟨bV I,bV I,trivial⟩
 refine lK I<|kB (b':=false) I<|iF I I<|lj [3] [0,5,8,14,16] bI σ fun _ σ=>gS 0 I<|eS I<|fB 1 σ I fun _ σ=>sz I<|oR (fun e=>ahk results13 (RV.tmp e I) (RV.cell e wC I σ.vN I) (RV.tmp e I))<|?_
 have z0:0+(mY u.k1 u.k2 u.n (u.n0+u.n3+u.n5) t n0 n1).1=(mY u.k1 u.k2 u.n (u.n0+u.n3+u.n5) t n0 n1).1:=bD _
 have z1:0+(mY u.k1 u.k2 u.n (u.n0+u.n3+u.n5) t n0 n1).2.1=(mY u.k1 u.k2 u.n (u.n0+u.n3+u.n5) t n0 n1).2.1:=bD _
 have z2:0+(mY u.k1 u.k2 u.n (u.n0+u.n3+u.n5) t n0 n1).2.2.1=(mY u.k1 u.k2 u.n (u.n0+u.n3+u.n5) t n0 n1).2.2.1:=bD _
 have z3:0+(mY u.k1 u.k2 u.n (u.n0+u.n3+u.n5) t n0 n1).2.2.2=(mY u.k1 u.k2 u.n (u.n0+u.n3+u.n5) t n0 n1).2.2.2:=bD _
 exact ⟨Ap,Np,cp,ep,by rw [z0,z1,z2,z3],hNp,σ.bW,hzp,fun a ha=>aD Qx (hnp a ha),σ.below⟩
def lvP (g4 g5 g6 g7 gm:Nat) (u:Un) (n1 n2:Nat) (t:Int) (w:World):Prop:=(bk gm (uW u) 82).P w/\(bk g4 #[cY gm] 35).P w/\(bk g5 #[aM n1] 3).P w/\(bk g6 #[aM n2] 3).P w/\(bk g7 #[aG t] 3).P w
def VLv (u:Un) (n1 n2:Nat) (t:Int) (pre:List (Nat×Nat)) (x:Nat×Nat):Prop:=x=(mU (lvD u.k1 u.k2 n1 n2 pre.length).1 (lvD u.k1 u.k2 n1 n2 pre.length).2 u.k1 u.k2,u.n ^ pre.length)/\∀j,j<=pre.length->lvG u.k1 u.k2 n1 n2 t j
def SLv (u:Un) (n1 n2:Nat) (t:Int) (xs:List (Nat×Nat)):Prop:=¬lvG u.k1 u.k2 n1 n2 t xs.length/\∀j,j<xs.length->lvG u.k1 u.k2 n1 n2 t j
section
variable {g4 g5 g6 g7 gm n1 n2:Nat} {u:Un} {t:Int} {w w':World}
end
section
variable {P:Program} {fn:Func} {R:Ending->World->Prop} {T:Ig P} {mix:P.follows .mixedOrders=true} {N:Nat} {w:World} {l:List (Nat×Value)} {v:Value}
end
def smI (x:Int):Int:=x.tmod 1000
theorem aab {os:List NE} {es:List Int} (h:os.map zz=es.take i) (he:es[i]?=some x):(os++[((A,c,x):NE)]).map zz=es.take (i+1):=by rw [take_one he,cD,h]; rfl
theorem rF (hx:x.natAbs<=1000) (hy:y.natAbs<=1000):(x*y).natAbs<=1000000:=by
 rw [dL]; exact bR hx hy
def Gk (es:List Int):Nat->List Pt
 | 0=>[]
 | j+1=>Gk es j++[(es.getD (2*j) 0,es.getD (2*j+1) 0)]
theorem aac {es:List Int} {os:List Pt} (h:os=Gk es j) (hx:es[2*j]?=some x) (hy:es[2*j+1]?=some y):os++[((x,y):Pt)]=Gk es (j+1):=by
 rw [Gk,h,aj,hx,aj,hy]; rfl
theorem Ob {es0:List Int} (h0:(fg A0 n0 c0 es0).P w0) (hI:∀x∈es0,-9223372036854775808<=x/\x<=9223372036854775807) (pJ:n0<=100):
  Calls prog 14 #[.slice A0 n0 c0] w0 fun e w'=>∃A c os,e=.returned (.slice A n0 c)/\St w0 w' [Dq A n0 c os] [dW FN os]/\os.map zz=es0:=by
 refine gQ func14 I ntmps14 I fun σ=>?_
 have cQ:=h0.2.1
 replace σ:=σ.aY h0
 replace σ:=(σ.fp dD 52 2).rA FN
 refine ks (fun mz l w=>∃i:Nat,∃A4:Option Addr,∃c4:Nat,∃os:List NE,n0 - i=mz/\l=[(8,aM i),(3,.slice A4 i c4),(6,.slice A0 n0 c0),(7,aM n0)]/\St w0 w [Dq A4 i c4 os] [dW FN os,fg A0 n0 c0 es0]/\i<=n0/\os.map zz=es0.take i) ⟨0,none,0,[],I,I,σ,(av _),I⟩ aT ?_
 rintro _ _ _ ⟨i,A4,c4,os,rfl,rfl,σ,hi,Oj⟩
 refine il I<|wD (fun lC=>?_) fun lC=>?_
 ·have fh:i<n0:=ae
  obtain ⟨x,eG⟩:∃e,es0[i]?=some e:=⟨_,ag ae⟩
  have hx:=hI _ (ah eG)
  refine iT I I<|vE I (fun η=>aX (i:=i) η underlying23 (qN.size) I I ae I σ.dw.1)<|cE I (fun η=>bE (i:=i) (j:=0) (e:=x) η qN I I di aB σ.dw.1 ae eG I)<|eE I<|fk call18 (Bi (n:=x) ae ae) I ?_
  rintro _ _ ⟨_,rfl,⟨zk,wW,rfl,afo⟩,hb⟩
  refine ⟨_,I,?_⟩
  replace σ:=(σ.call hb).j8 afo ⟨bX,trivial⟩
  refine eE I<|mi (z:=2) #[.bool (neg x),.slice zk (zl x) wW] σ (az.size) bA I bI fun _ sf σ=>eE I<|oO (new:=[(zk,wW,x)]) 1 0 σ dP I (by unfold maxLen; omega) ae fun _ zo ID σ=>?_
  replace σ:=σ.pX (e:=(zk,wW,x)) (i:=1) (j:=0) I I
  exact can (j:=1) I ae<|gI ⟨i+1,(cS zo),ID,(os++[(zk,wW,x)]),I,I,σ.pick [1] [0,3] aB,ae,(aab Oj eG)⟩ aT ae
 ·obtain rfl:n0=i:=ae
  rw [ax (by omega)] at Oj
  exact iF I I<|o1 results14 I<|⟨_,_,_,I,σ.pick [0] [0] aB,Oj⟩
theorem aad {es0:List NE} (h0:(pf A0 n0 c0 es0).P w0) (h1:(fg A1 n1 c1 es1).P w0) (mZ:es0.map zz=es1) (hI:∀x∈es1,-9223372036854775808<=x/\x<=9223372036854775807) (pJ:n0<=1000):
  Calls prog 15 #[.slice A0 n0 c0,.slice A1 n1 c1] w0 fun e w'=>e=.returned (.bool true)/\Below w0.heap.size w0 w':=by
 refine gQ func15 I ntmps15 I fun σ=>?_
 have cQ:=h0.2.1
 have iI:=h1.2.1
 have ax7:n0=n1:=by rw [<- cQ,<- iI,<- mZ,aw]
 replace σ:=(σ.aY h1).aY h0
 refine lK I<|kB (b':=false) (Ds ae)<|iF I I<|ks (fun mz l w=>∃i:Nat,n0 - i=mz/\l=[(15,aM i),(0,.slice A0 n0 c0),(1,.slice A1 n1 c1),(14,aM n0)]/\St w0 w [] [pf A0 n0 c0 es0,fg A1 n1 c1 es1]/\i<=n0) ⟨0,I,I,σ,(av _)⟩ aT ?_
 rintro _ _ _ ⟨i,rfl,rfl,σ,hi⟩
 refine il I<|wD (fun lC=>?_) fun lC=>?_
 ·have fh:i<n0:=ae
  obtain ⟨⟨C,d,x⟩,eG⟩:∃e,es0[i]?=some e:=⟨_,ag ae⟩
  replace σ:=σ.elem (k:=0) I eG
  have kf:es1[i]?=some x:=by rw [<- mZ,ay,eG]; rfl
  have hx:=hI _ (ah kf)
  exact iT I I<|vE I (fun η=>aX (i:=i) η underlying43 (az.size) I I ae I σ.dw.1)<|cE I (fun η=>cX (i:=i) (e:=(C,d,x)) η az I I jV σ.dw.1 ae eG I)<|eE I<|gV call19 (Zi (show iY _ C d x from σ.bW) hx.1 hx.2) σ I fun _ σ=>vE I (fun η=>aX (i:=i) η underlying23 (qN.size) I I ae I σ.fX.1)<|cE I (fun η=>bE (i:=i) (j:=0) (e:=x) η qN I I di aB σ.fX.1 ae kf I)<|lK I<|kB (b':=false) (Ds I)<|iF I I<|can (j:=1) I ae<|gI ⟨i+1,I,I,σ.pick [] [1,2] aB,ae⟩ aT ae
 ·exact iF I I<|o1 results15 I<|⟨I,σ.below⟩
theorem PZ {es0:List Int} (h0:(fg A0 n0 c0 es0).P w0) (hk:n0=2*k) (hk9:k<=20):
  Calls prog 26 #[.slice A0 n0 c0] w0 fun e w'=>∃A c,e=.returned (.slice A k c)/\St w0 w' [lp A k c (Gk es0 k)] []:=by
 refine gQ func26 I ntmps26 I fun σ=>?_
 have cQ:=h0.2.1
 replace σ:=σ.aY h0
 replace σ:=(σ.fp dD 61 2)
 refine ks (fun mz l w=>∃j:Nat,∃A4:Option Addr,∃c4:Nat,∃os:List Pt,k - j=mz/\l=[(4,aM (2*j)),(3,.slice A4 j c4),(0,.slice A0 n0 c0)]/\St w0 w [lp A4 j c4 os] [fg A0 n0 c0 es0]/\j<=k/\os=Gk es0 j) ⟨0,none,0,[],I,I,σ,(av _),I⟩ aT ?_
 rintro _ _ _ ⟨j,A4,c4,os,rfl,rfl,σ,hj,Oj⟩
 refine can (j:=1) I ae<|il I<|wD (fun lC=>?_) fun lC=>?_
 ·have fh:j<k:=ae
  obtain ⟨x,zE⟩:∃e,es0[(2*j)]?=some e:=⟨_,ag ae⟩
  obtain ⟨y,hy0⟩:∃e,es0[(2*j+1)]?=some e:=⟨_,ag ae⟩
  exact iT I I<|lj [12] [0,4,8,12,17,20,24,28,32,37,40,46,50,52] bI σ fun _ σ=>vE I (fun η=>aX (i:=(2*j)) η underlying26 (bn.size) I I ae I σ.bW.1)<|sE I (fun η hg=>bE (i:=(2*j)) (j:=0) (e:=x) η bn I I di aB (hg.pt (j:=0) I).1 ae zE I)<|can (j:=1) I ae<|vE I (fun η=>aX (i:=(2*j)+1) η underlying26 (bn.size) I I ae I σ.bW.1)<|sE I (fun η hg=>bE (i:=(2*j)+1) (j:=0) (e:=y) η bn I I di aB (hg.pt (j:=0) I).1 ae hy0 I)<|vE I (fun η=>eV (c:=#[aG x,aG y]) iO η I I)<|eS I<|mi (z:=2) #[aG x,aG y] σ (aO.size) b6 I bI fun _ eQ σ=>sk (σ.kd 1 0)<|eS I<|oO (new:=[(x,y)]) 1 0 σ lW I (by unfold maxLen; omega) ae fun _ jh rk σ=>sz rfl<|can (j:=2) rfl ae<|gI ⟨j+1,(cS jh),rk,(os++[(x,y)]),rfl,rfl,σ.pick [1] [0] aB,ae,(aac Oj zE hy0)⟩ aT ae
 ·obtain rfl:k=j:=ae
  refine iF I I<|o1 results26 I<|?_
  subst Oj
  exact ⟨_,_,I,σ.pick [0] [] aB⟩
theorem VN {es:List Pt} {p:Pt} (h:∀q∈es.take i,pU q) (he:es[i]?=some p) (hp:pU p):∀q∈es.take (i+1),pU q:=fun q hq=>by
 rw [take_one he] at hq
 rcases aK.1 hq with r | r
 ·exact h q r
 ·rw [aL.1 r]; exact hp
theorem afZ {es:List Pt} (nz:∀p∈es,pU p) (AV:∀p∈es,¬(p.1=0/\p.2=0)) (hl:((n0:Nat):Int)=k1+k2 - 1) (htw:∀(s t:Nat) (p q:Pt),s<t->es[s]?=some p->es[t]?=some q->¬q.1*p.2=p.1*q.2):¬(¬((n0:Nat):Int)=k1+k2 - 1∨Jf es∨wa es):=fun h=>by
 rcases h with h | ⟨p,hp,h⟩ | ⟨i,j,p,q,h1,h2,h3,h4⟩
 ·exact h hl
 ·exact AV p hp h
 ·refine htw i j p q h1 h2 h3 ?_
  have:=(KQ (nz p (ah h2)) (AV p (ah h2)) (nz q (ah h3)) (AV q (ah h3))).1 h4
  omega
theorem Ek (h0:(jD A0 n0 c0 es0).P w0) (hn:n0<=100000):
  Calls prog 8 #[aG k1,aG k2,.slice A0 n0 c0] w0 fun e w'=>∃b,e=.returned (.bool b)/\(b=true↔rp k1 k2 es0)/\Below w0.heap.size w0 w':=by
 refine gQ func8 I ntmps8 I fun σ=>?_
 have cQ:=h0.2.1
 have hcp:=h0.1.cap
 replace σ:=σ.aY h0
 refine ks (fun mz l w=>∃i:Nat,n0 - i=mz/\l=[(13,aM i),(0,aG k1),(1,aG k2),(11,.slice A0 n0 c0),(12,aM n0)]/\St w0 w [] [jD A0 n0 c0 es0]/\i<=n0/\(∀p∈es0.take i,pU p)) ⟨0,I,I,σ,(av _),(fun p hp=>by cases hp)⟩ aT ?_
 rintro _ _ _ ⟨i,rfl,rfl,σ,hi,nz⟩
 refine il I<|wD (fun lC=>?_) fun lC=>?_
 ·have fh:i<n0:=ae
  obtain ⟨⟨x,y⟩,eG⟩:∃e,es0[i]?=some e:=⟨_,ag ae⟩
  refine iT I I<|vE I (fun η=>aX (i:=i) η underlying22 (aO.size) I I ae I σ.bW.1)<|cE I (fun η=>cX (v:=#[aG x,aG y]) (i:=i) (e:=(x,y)) η aO I I iX σ.bW.1 ae eG I)<|eE I<|iR b6 σ I fun _ eQ σ=>eE I<|fB 0 σ I fun _ σ=>lE 0 σ I<|lE 0 σ I<|eE I<|mi (z:=1) #[aG x,aG y] σ (bn.size) gY I bI fun _ jh σ=>ks (fun mz l w=>∃j:Nat,2 - j=mz/\l=[(23,aM j),(0,aG k1),(1,aG k2),(11,.slice A0 n0 c0),(12,aM n0),(13,aM i),(21,.slice (cS jh) 2 2),(22,aG 2)]/\St w0 w [bk jh #[aG x,aG y] 3] [jD A0 n0 c0 es0]/\j<=2/\(j=0∨(-16<=x/\x<=16))/\(j<=1∨(-16<=y/\y<=16))) ⟨0,I,I,σ.pick [0] [0] aB,(av _),(.inl I),(.inl ae)⟩ aT ?_
  rintro _ _ _ ⟨j,rfl,rfl,σ,hj,hjx,hjy⟩
  rcases (show j=0∨j=1∨j=2 by omega) with rfl|rfl|rfl
  ·refine il I<|kB (b':=true) aB<|iT I I<|vE I (fun η=>oq (i:=0) (p:=0) η underlying26 (bn.size) I I ae ae)<|lE 0 σ I<|il I<|wD (fun rP=>?_) fun rP=>?_
   ·exact iT I I<|o1 results8 I<|⟨_,I,⟨fun h=>(by cases h),fun h=>by have h5:=h.2.2 _ (ah eG); unfold pU at h5; dsimp only at h5; omega⟩,σ.below⟩
   ·refine sG I<|wD (fun sI=>?_) fun sI=>?_
    ·exact iT I I<|o1 results8 I<|⟨_,I,⟨fun h=>(by cases h),fun h=>by have h5:=h.2.2 _ (ah eG); unfold pU at h5; dsimp only at h5; omega⟩,σ.below⟩
    ·exact iF I I<|can (i:=0) (j:=1) I ae<|gI ⟨1,I,I,σ,ae,ae,ae⟩ aT ae
  ·refine il I<|kB (b':=true) aB<|iT I I<|vE I (fun η=>oq (i:=1) (p:=1) η underlying26 (bn.size) I I ae ae)<|lE 0 σ I<|il I<|wD (fun wU=>?_) fun wU=>?_
   ·exact iT I I<|o1 results8 I<|⟨_,I,⟨fun h=>(by cases h),fun h=>by have h5:=h.2.2 _ (ah eG); unfold pU at h5; dsimp only at h5; omega⟩,σ.below⟩
   ·refine sG I<|wD (fun yM=>?_) fun yM=>?_
    ·exact iT I I<|o1 results8 I<|⟨_,I,⟨fun h=>(by cases h),fun h=>by have h5:=h.2.2 _ (ah eG); unfold pU at h5; dsimp only at h5; omega⟩,σ.below⟩
    ·exact iF I I<|can (i:=1) (j:=1) I ae<|gI ⟨2,I,I,σ,ae,ae,ae⟩ aT ae
  ·exact il I<|kB (b':=false) aB<|iF I I<|can (j:=1) I ae<|gI ⟨i+1,I,I,σ.pick [] [0] aB,ae,(VN nz eG (by unfold pU; dsimp only; omega))⟩ aT ae
 ·obtain rfl:n0=i:=ae
  rw [ax (by omega)] at nz
  refine iF I I<|xo I<|wD (fun tt=>?_) fun tt=>?_
  ·refine Dn I<|wD (fun wX=>?_) fun wX=>?_
   ·refine xo I<|wD (fun wh=>?_) fun wh=>?_
    ·exact Dn I<|o1 results8 I<|⟨_,I,⟨fun h=>⟨by omega,by have:=aN h; omega,nz⟩,fun h=>a8 h.2.1.2⟩,σ.below⟩
    ·exact o1 results8 I<|⟨_,I,⟨fun h=>(by cases h),fun h=>by have h5:=h.1; have h6:=h.2.1; omega⟩,σ.below⟩
   ·exact o1 results8 I<|⟨_,I,⟨fun h=>(by cases h),fun h=>by have h5:=h.1; have h6:=h.2.1; omega⟩,σ.below⟩
  ·exact o1 results8 I<|⟨_,I,⟨fun h=>(by cases h),fun h=>by have h5:=h.1; have h6:=h.2.1; omega⟩,σ.below⟩
theorem af0 (h0:(jD A0 n0 c0 es0).P w0) (hn:n0<=100000) (hL:rp k1 k2 es0) (Lz:¬((n0:Nat):Int)=k1+k2 - 1∨Jf es0∨wa es0):
  Calls prog 9 #[aG k1,aG k2,.slice A0 n0 c0] w0 fun e w'=>e=.returned (.bool true)/\Below w0.heap.size w0 w':=by
 have zL:=hL.1
 have MN:=hL.2.1
 have nz:=hL.2.2
 refine gQ func9 I ntmps9 I fun σ=>?_
 have cQ:=h0.2.1
 have hcp:=h0.1.cap
 replace σ:=σ.aY h0
 refine Tg I ae<|xq I ae<|lK I<|wN (fun lC=>?_) fun lC=>?_
 ·exact iT I I<|o1 results9 I<|⟨I,σ.below⟩
 ·refine iF I I<|ks (fun mz l w=>∃i:Nat,n0 - i=mz/\l=[(20,aM i),(2,.slice A0 n0 c0),(18,.slice A0 n0 c0),(19,aM n0)]/\St w0 w [] [jD A0 n0 c0 es0]/\i<=n0/\(∀p∈es0.take i,¬(p.1=0/\p.2=0))/\(∀(s t:Nat) (p q:Pt),s<t->t<i->es0[s]?=some p->es0[t]?=some q->¬q.1*p.2=p.1*q.2)) ⟨0,I,I,σ,(av _),(fun p hp=>by cases hp),(fun s t p q _ h=>absurd h (dB _))⟩ aT ?_
  rintro _ _ _ ⟨i,rfl,rfl,σ,hi,AV,htw⟩
  refine il I<|wD (fun mX=>?_) fun mX=>?_
  ·have fh:i<n0:=ae
   obtain ⟨⟨x,y⟩,eG⟩:∃e,es0[i]?=some e:=⟨_,ag ae⟩
   have VO:=nz _ (ah eG)
   unfold pU at VO
   dsimp only at VO
   refine iT I I<|vE I (fun η=>aX (i:=i) η underlying22 (aO.size) I I ae I σ.bW.1)<|cE I (fun η=>cX (v:=#[aG x,aG y]) (i:=i) (e:=(x,y)) η aO I I iX σ.bW.1 ae eG I)<|eE I<|iR b6 σ I fun _ jh σ=>eE I<|fB 0 σ I fun _ σ=>lE 0 σ I<|gj I<|wQ (fun rP=>?_) fun rP=>?_
   ·refine lE 0 σ I<|gj I<|wQ (fun sI=>?_) fun sI=>?_
    ·exact iT I I<|o1 results9 I<|⟨I,σ.below⟩
    ·have Qf:¬(x=0/\y=0):=ae
     refine iF I I<|vE I (fun η=>mR (m:=i) η underlying22 (aO.size) I I ae)<|ks (fun mz l w=>∃j:Nat,i - j=mz/\l=[(37,aM j),(2,.slice A0 n0 c0),(8,cY jh),(18,.slice A0 n0 c0),(19,aM n0),(20,aM i),(29,.pointer (some ⟨jh,1,none⟩)),(30,aG y),(31,.bool false),(35,.slice A0 i c0),(36,aM i)]/\St w0 w [bk jh #[aG x,aG y] 61] [jD A0 n0 c0 es0]/\j<=i/\(∀(s:Nat) (p:Pt),s<j->es0[s]?=some p->¬x*p.2=p.1*y)) ⟨0,I,I,σ,(av _),(fun s p h=>absurd h (dB _))⟩ aT ?_
     rintro _ _ _ ⟨j,rfl,rfl,σ,hj,htj⟩
     refine il I<|wD (fun wU=>?_) fun wU=>?_
     ·have zH:j<i:=ae
      obtain ⟨⟨xa,ya⟩,GI⟩:∃e,es0[j]?=some e:=⟨_,ag ae⟩
      have CW:=nz _ (ah GI)
      unfold pU at CW
      dsimp only at CW
      have qP:(x*ya).natAbs<=1000000:=rF ae ae
      have Qn:(xa*y).natAbs<=1000000:=rF ae ae
      refine iT I I<|vE I (fun η=>xU (i:=j) η underlying22 (aO.size) I I ae ae I σ.bW.1)<|cE I (fun η=>cX (v:=#[aG xa,aG ya]) (i:=j) (e:=(xa,ya)) η aO I I iX σ.bW.1 ae GI I)<|eE I<|iR b6 σ I fun _ xW σ=>eE I<|fB 0 σ I fun _ σ=>lE 1 σ I<|lE 0 σ I<|ym I ae<|lE 0 σ I<|lE 1 σ I<|ym I ae<|gj I<|wQ (fun tt=>?_) fun tt=>?_
      ·exact iT I I<|o1 results9 I<|⟨I,σ.below⟩
      ·exact iF I I<|can (j:=1) I ae<|gI ⟨j+1,I,I,σ.pick [1] [0] aB,ae,(fun s p hs hp=>by rcases Nat.lt_or_eq_of_le (Nat.le_of_lt_succ hs) with r|r; exact htj s p r hp; subst r; rw [GI] at hp; cases hp; exact tt)⟩ aT ae
     ·obtain rfl:i=j:=ae
      exact iF I I<|can (j:=1) I ae<|gI ⟨i+1,I,I,σ.pick [] [0] aB,ae,(fun p hp=>by rw [take_one eG] at hp; rcases aK.1 hp with r|r; exact AV p r; rw [aL.1 r]; exact Qf),(fun s t p q hs ht hp hq=>by rcases Nat.lt_or_eq_of_le (Nat.le_of_lt_succ ht) with r|r; exact htw s t p q hs r hp hq; subst r; rw [eG] at hq; cases hq; exact htj s p hs hp)⟩ aT ae
   ·have Qf:¬(x=0/\y=0):=ae
    refine iF I I<|vE I (fun η=>mR (m:=i) η underlying22 (aO.size) I I ae)<|ks (fun mz l w=>∃j:Nat,i - j=mz/\l=[(37,aM j),(2,.slice A0 n0 c0),(8,cY jh),(18,.slice A0 n0 c0),(19,aM n0),(20,aM i),(35,.slice A0 i c0),(36,aM i)]/\St w0 w [bk jh #[aG x,aG y] 61] [jD A0 n0 c0 es0]/\j<=i/\(∀(s:Nat) (p:Pt),s<j->es0[s]?=some p->¬x*p.2=p.1*y)) ⟨0,I,I,σ,(av _),(fun s p h=>absurd h (dB _))⟩ aT ?_
    rintro _ _ _ ⟨j,rfl,rfl,σ,hj,htj⟩
    refine il I<|wD (fun wX=>?_) fun wX=>?_
    ·have zH:j<i:=ae
     obtain ⟨⟨xa,ya⟩,GI⟩:∃e,es0[j]?=some e:=⟨_,ag ae⟩
     have CW:=nz _ (ah GI)
     unfold pU at CW
     dsimp only at CW
     have qP:(x*ya).natAbs<=1000000:=rF ae ae
     have Qn:(xa*y).natAbs<=1000000:=rF ae ae
     refine iT I I<|vE I (fun η=>xU (i:=j) η underlying22 (aO.size) I I ae ae I σ.bW.1)<|cE I (fun η=>cX (v:=#[aG xa,aG ya]) (i:=j) (e:=(xa,ya)) η aO I I iX σ.bW.1 ae GI I)<|eE I<|iR b6 σ I fun _ C9 σ=>eE I<|fB 0 σ I fun _ σ=>lE 1 σ I<|lE 0 σ I<|ym I ae<|lE 0 σ I<|lE 1 σ I<|ym I ae<|gj I<|wQ (fun yL=>?_) fun yL=>?_
     ·exact iT I I<|o1 results9 I<|⟨I,σ.below⟩
     ·exact iF I I<|can (j:=1) I ae<|gI ⟨j+1,I,I,σ.pick [1] [0] aB,ae,(fun s p hs hp=>by rcases Nat.lt_or_eq_of_le (Nat.le_of_lt_succ hs) with r|r; exact htj s p r hp; subst r; rw [GI] at hp; cases hp; exact yL)⟩ aT ae
    ·obtain rfl:i=j:=ae
     exact iF I I<|can (j:=1) I ae<|gI ⟨i+1,I,I,σ.pick [] [0] aB,ae,(fun p hp=>by rw [take_one eG] at hp; rcases aK.1 hp with r|r; exact AV p r; rw [aL.1 r]; exact Qf),(fun s t p q hs ht hp hq=>by rcases Nat.lt_or_eq_of_le (Nat.le_of_lt_succ ht) with r|r; exact htw s t p q hs r hp hq; subst r; rw [eG] at hq; cases hq; exact htj s p hs hp)⟩ aT ae
  ·obtain rfl:n0=i:=ae
   rw [ax (by omega)] at AV
   exact absurd Lz (afZ nz AV ae (fun s t p q h1 h2 h3=>htw s t p q h1 (by rw [<- cQ]; exact (aE.1 h3).1) h2 h3))
theorem Gl {es:List IE} {O:List Rw} {q:Nat} (hi:G.length=i) (hc:mv (i:Nat) ((g:Nat):Int) q n1 es os) (hq:es.length=q) (h:oY i g n G es os O) (hm:(kW i g es os).length=m):
  mv (i:Nat) ((pN i g es os:Nat):Int) m n1 (kW i g es os) (oB i g es os)/\oY i (pN i g es os) n G (kW i g es os) (oB i g es os) O:=by
 have h1:=hc.i1
 have h2:=hc.ln
 obtain ⟨a,b,_,d,e⟩:=BS hi ae h
 exact ⟨⟨⟨h1.1,by omega,by omega⟩,⟨by omega,h2.2.1,h2.2.2⟩,a.may,a.out⟩,a⟩
def akQ (u1 u2 n0:Nat) (es0:List Pt) (Ap:Option Addr) (cp:Nat) (X1:Option Addr) (x1 y1:Nat) (Z1:Option Addr) (z1:Nat) (X2:Option Addr) (x2 y2:Nat) (Z2:Option Addr) (z2:Nat) (X3:Option Addr) (x3 y3:Nat) (Z3:Option Addr) (z3:Nat):Un:=
 ⟨u1,u2,n0,Ap,cp,es0,pN u1 (u1+n0+1) (k7 u1 ((u1+n0:Nat):Int) 0 es0) (lQ u1 n0),X1,x1,y1,kW u1 (u1+n0+1) (k7 u1 ((u1+n0:Nat):Int) 0 es0) (lQ u1 n0),Z1,z1,oB u1 (u1+n0+1) (k7 u1 ((u1+n0:Nat):Int) 0 es0) (lQ u1 n0),pN u2 (u2+n0+1) (k7 u2 ((u2+n0:Nat):Int) 0 es0) (lQ u2 n0),X2,x2,y2,kW u2 (u2+n0+1) (k7 u2 ((u2+n0:Nat):Int) 0 es0) (lQ u2 n0),Z2,z2,oB u2 (u2+n0+1) (k7 u2 ((u2+n0:Nat):Int) 0 es0) (lQ u2 n0),pN n0 (3*n0+1) (qC es0) (tZ n0),X3,x3,y3,kW n0 (3*n0+1) (qC es0) (tZ n0),Z3,z3,oB n0 (3*n0+1) (qC es0) (tZ n0)⟩
theorem aae {u1 u2 x1 x2 x3:Nat} (hL:rp (u1:Nat) (u2:Nat) es0) (yd:((n0:Nat):Int)=((u1:Nat):Int)+((u2:Nat):Int) - 1) (yc:lI es0) (cQ:es0.length=n0)
 (mJ:(kW u1 (u1+n0+1) (k7 u1 ((u1+n0:Nat):Int) 0 es0) (lQ u1 n0)).length=x1) (mr:(kW u2 (u2+n0+1) (k7 u2 ((u2+n0:Nat):Int) 0 es0) (lQ u2 n0)).length=x2) (ua:(kW n0 (3*n0+1) (qC es0) (tZ n0)).length=x3) (Ap:Option Addr) (cp:Nat) (X1:Option Addr) (y1:Nat) (Z1:Option Addr) (z1:Nat) (X2:Option Addr) (y2:Nat) (Z2:Option Addr) (z2:Nat) (X3:Option Addr) (y3:Nat) (Z3:Option Addr) (z3:Nat):
  (akQ u1 u2 n0 es0 Ap cp X1 x1 y1 Z1 z1 X2 x2 y2 Z2 z2 X3 x3 y3 Z3 z3).Ok:=by
 have hL1:=hL.1
 have hL2:=hL.2.1
 have LA:=N3 hL yc
 have a1:=Gl (oC _) (Gf cQ ae ae LA rfl) rfl (Eh cQ ae ae LA).1 mJ
 have a2:=Gl (oC _) (Gf cQ ae ae LA rfl) rfl (Eh cQ ae ae LA).1 mr
 have a3:=Gl (Gg cQ) (Vt cQ yc rfl) rfl (N4 cQ yc) ua
 exact ⟨⟨⟨by show 1<=u1; omega,by show u1<=8; omega⟩,⟨by show 1<=u2; omega,by show u2<=8; omega⟩,hL.2.2⟩,by show n0+1=u1+u2; omega,yc,cQ,a1.1,a2.1,a3.1,a1.2,a2.2,a3.2,N2 (Ly _ _ _ _),N2 (Ly _ _ _ _)⟩
theorem El (cQ:es0.length=n) (h1:1<=k) (h8:k<=8) (hP:Co es0):(oB k (k+n+1) (k7 k ((k+n:Nat):Int) 0 es0) (lQ k n)).length=n:=
 (BS (oC _) ae (Eh cQ h1 h8 hP).1).2.2.1.trans (CU _ _)
theorem P0 (cQ:es0.length=n) (hP:lI es0):(oB n (3*n+1) (qC es0) (tZ n)).length=n:=
 (BS (Gg cQ) ae (N4 cQ hP)).2.2.1.trans (N5 _)
theorem Jo (h0:(jD A0 n0 c0 es0).P w0) (hD:me w0) (hn:n0<=9223372036854775807):
  Calls prog 7 #[aG k1,aG k2,.slice A0 n0 c0] w0 fun e w'=>((e=.returned (.tuple #[.agg #[aG 0,aG 0,bM,aG 0,aG 0,bM,bM,aG 0,aG 0,bM,bM,aG 0,aG 0,bM,bM],aG 70])/\¬rp k1 k2 es0/\Below w0.heap.size w0 w')∨(e=.returned (.tuple #[.agg #[aG 0,aG 0,bM,aG 0,aG 0,bM,bM,aG 0,aG 0,bM,bM,aG 0,aG 0,bM,bM],aG 71])/\rp k1 k2 es0/\(¬((n0:Nat):Int)=k1+k2 - 1∨Jf es0∨wa es0)/\Below w0.heap.size w0 w'))∨∃u:Un,rp k1 k2 es0/\u.Ok/\u.ps=es0/\k1=((u.k1:Nat):Int)/\k2=((u.k2:Nat):Int)/\e=.returned (.tuple #[.agg (uW u),aG 0])/\St w0 w' [lp u.Ap u.n u.cp u.ps,dQ u.A0 u.n0 u.c0 u.e0,cI u.A1 u.n u.c1 u.e1,dQ u.A3 u.n3 u.c3 u.e3,cI u.A4 u.n u.c4 u.e4,dQ u.A5 u.n5 u.c5 u.e5,cI u.A6 u.n u.c6 u.e6] []/\u.e0.length=u.n0/\u.e1.length=u.n/\u.e3.length=u.n3/\u.e4.length=u.n/\u.e5.length=u.n5/\u.e6.length=u.n:=by
 have cQ:=h0.2.1
 refine (LB h0 hD hn).mono fun e w' h=>?_
 rcases h with h | h | ⟨hL,yd,yc,u1,u2,rfl,rfl,Ap,cp,X1,x1,y1,Z1,z1,X2,x2,y2,Z2,z2,X3,x3,y3,Z3,z3,he,hS,mJ,mr,ua⟩
 ·exact .inl (.inl h)
 ·exact .inl (.inr h)
 ·have hL1:=hL.1
  have hL2:=hL.2.1
  have LA:=N3 hL yc
  exact .inr ⟨akQ u1 u2 n0 es0 Ap cp X1 x1 y1 Z1 z1 X2 x2 y2 Z2 z2 X3 x3 y3 Z3 z3,hL,aae hL yd yc cQ mJ mr ua ..,I,I,I,he,hS,mJ,El cQ ae ae LA,mr,El cQ ae ae LA,ua,P0 cQ yc⟩
theorem VP (h0:(jD A0 n0 c0 es0).P w0) (hD:me w0) (hn:n0<=9223372036854775807) (hL:rp k1 k2 es0) (yd:((n0:Nat):Int)=k1+k2 - 1) (yc:lI es0):
  Calls prog 7 #[aG k1,aG k2,.slice A0 n0 c0] w0 fun e w'=>∃u:Un,u.Ok/\u.ps=es0/\k1=((u.k1:Nat):Int)/\k2=((u.k2:Nat):Int)/\e=.returned (.tuple #[.agg (uW u),aG 0])/\St w0 w' [lp u.Ap u.n u.cp u.ps,dQ u.A0 u.n0 u.c0 u.e0,cI u.A1 u.n u.c1 u.e1,dQ u.A3 u.n3 u.c3 u.e3,cI u.A4 u.n u.c4 u.e4,dQ u.A5 u.n5 u.c5 u.e5,cI u.A6 u.n u.c6 u.e6] []/\u.ps.length=u.n/\u.e0.length=u.n0/\u.e1.length=u.n/\u.e3.length=u.n3/\u.e4.length=u.n/\u.e5.length=u.n5/\u.e6.length=u.n:=
 (Jo h0 hD hn).mono fun e w' h=>by
  rcases h with (⟨_,q,_⟩ | ⟨_,_,q | ⟨p,hp,q⟩ | q,_⟩) | ⟨u,_,ho,hp,e1,e2,he,hS,l0,l1,l3,l4,l5,l6⟩
  ·exact absurd hL q
  ·exact absurd yd q
  ·exact absurd q (yc.tQ p hp).2
  ·exact absurd q (CE yc)
  ·exact ⟨u,ho,hp,e1,e2,he,hS,ho.len,l0,l1,l3,l4,l5,l6⟩
theorem aaf (dy:u.Ok) (hm:u.Mem w0):
  Calls prog 10 #[.agg (uW u)] w0 fun e w'=>∃(gm:Nat) (v:Un),v.Ok/\v.ps=u.ps/\v.k1=u.k1/\v.k2=u.k2/\e=.returned (.tuple #[cY gm,aG 0])/\St w0 w' [bk gm (uW v) 82,lp v.Ap v.n v.cp v.ps,dQ v.A0 v.n0 v.c0 v.e0,cI v.A1 v.n v.c1 v.e1,dQ v.A3 v.n3 v.c3 v.e3,cI v.A4 v.n v.c4 v.e4,dQ v.A5 v.n5 v.c5 v.e5,cI v.A6 v.n v.c6 v.e6] []/\v.ps.length=v.n/\v.e0.length=v.n0/\v.e1.length=v.n/\v.e3.length=v.n3/\v.e4.length=v.n/\v.e5.length=v.n5/\v.e6.length=v.n:=
 (afQ dy hm).mono fun e w' ⟨gm,Xp,xp,X1,x1,Z1,z1,X2,x2,Z2,z2,X3,x3,Z3,z3,he,hS⟩=>
  ⟨gm,⟨u.k1,u.k2,u.n,Xp,xp,u.ps,u.gL,X1,u.n0,x1,u.e0,Z1,z1,u.e1,u.gR,X2,u.n3,x2,u.e3,Z2,z2,u.e4,u.gB,X3,u.n5,x3,u.e5,Z3,z3,u.e6⟩,
   ⟨dy.xg,dy.num,dy.xw,dy.len,dy.cL,dy.cR,dy.cB,dy.pL,dy.pR,dy.pB,dy.nL,dy.nR⟩,rfl,rfl,rfl,he,hS,hm.mP.2.1,hm.m0.2.1,hm.m1.2.1,hm.m3.2.1,hm.m4.2.1,hm.m5.2.1,hm.m6.2.1⟩
theorem P2 (h0:(jD A0 n0 c0 es0).P w0) (hn:n0<=100000) (hL:¬rp k1 k2 es0):Calls prog 8 #[aG k1,aG k2,.slice A0 n0 c0] w0 fun e w'=>e=.returned (.bool false)/\Below w0.heap.size w0 w':=
 (Ek h0 hn).mono fun e w' ⟨b,he,hi,hb⟩=>by
  cases b with
  | true=>exact absurd (hi.1 rfl) hL
  | false=>exact ⟨he,hb⟩
theorem CX (h0:(jD A0 n0 c0 es0).P w0) (hn:n0<=100000) (hL:rp k1 k2 es0):Calls prog 8 #[aG k1,aG k2,.slice A0 n0 c0] w0 fun e w'=>e=.returned (.bool true)/\Below w0.heap.size w0 w':=
 (Ek h0 hn).mono fun e w' ⟨b,he,hi,hb⟩=>by
  cases b with
  | true=>exact ⟨he,hb⟩
  | false=>exact absurd (hi.2 hL) aB
theorem akR (st:Nat):(mY 2 2 3 st 1 4 4).1=4/\(mY 2 2 3 st 1 4 4).2.1=12/\(mY 2 2 3 st 1 4 4).2.2.1=9:=by
 have h1:mY 2 2 3 st 1 1 1=(0,0,1,0):=FZ aB
 have h2:=I8 (n:=3) (st:=st) (show EP 2 2 2 2 1 by decide)
 rw [show mU 2 2 2 2=1 from rfl,h1] at h2
 have h4:=I8 (n:=3) (st:=st) (show EP 4 4 2 2 1 by decide)
 rw [show mU 4 4 2 2=2 from rfl,h2] at h4
 rw [h4]
 exact ⟨I,I,I⟩
theorem VQ:rp 2 2 (Gk [0,1,1,1,1,0] 3):=⟨by decide,by decide,fun p hp=>by
 rcases bf.1 hp with rfl | hp
 ·unfold pU; decide
 rcases bf.1 hp with rfl | hp
 ·unfold pU; decide
 rcases bf.1 hp with rfl | hp
 ·unfold pU; decide
 cases hp⟩
theorem af1:lI (Gk [0,1,1,1,1,0] 3):=⟨by decide,fun p hp=>⟨VQ.2.2 p hp,by
 rcases bf.1 hp with rfl | hp
 ·decide
 rcases bf.1 hp with rfl | hp
 ·decide
 rcases bf.1 hp with rfl | hp
 ·decide
 cases hp⟩,by decide⟩
theorem St.abO {own:List PF} (h:St w0 w own ps) (hS:St w w' [o] [dW FN es]) (hn:tO (o::own)):St w0 w' (o::own) (dW FN es::ps):=
 (h.more (hS.pick [0] [] fW)).vX (hS.pat (k:=0) rfl) hn
theorem af2 (dy:u.Ok) (hM:(bk gm (uW u) 82).P w0) (hm:u.Mem w0) (h1:u.k1=2) (h2:u.k2=2) (h3:u.n=3) (hT:x' w0) {es0 es1:List NE} (ha:(pf A0 4 c0 es0).P w0) (hb:(pf A1 4 c1 es1).P w0) (mZ:es0.map zz=[1,2,3,4]) (po:es1.map zz=[1,1,1,1]):
  Calls prog 13 #[cY gm,.slice A0 4 c0,.slice A1 4 c1,aG 1] w0 fun e w'=>∃A c es,∃S:Nat,e=.returned (.tuple #[.slice A 7 c,.agg #[aG 4,aG 12,aG 9,aM S],aG 0])/\(pf A 7 c es).P w'/\es.map zz=[1,3,6,10,9,7,4]/\(∀a,A=some a->w0.heap.size<=a.block)/\Below w0.heap.size w0 w':=
 (afY (b:=10) dy hM hm hT ha hb mZ po aB aB (x7.2 aB) (x7.2 aB) aB).mono fun e w' ⟨A,N,c,es,he,hN,hP,hz,hn,hbl⟩=>by
  have e1:ni [1,2,3,4] [1,1,1,1]=[1,3,6,10,9,7,4]:=by decide
  rw [e1] at hN hz
  have hN':7=N:=hN
  subst hN'
  rw [h1,h2,h3] at he
  obtain ⟨r1,r2,r3⟩:=akR (u.n0+u.n3+u.n5)
  rw [r1,r2,r3] at he
  exact ⟨A,c,es,_,he,hP,hz,hn,hbl⟩
theorem VR (hT:x' w0) (hD:me w0):
  Calls prog 6 #[] w0 fun e w'=>e=.returned (.bool true)/\Below w0.heap.size w0 w':=by
 refine gQ func6 I ntmps6 I fun σ=>?_
 replace σ:=(σ.nG hD).l9 tW hT fun e he=>by cases he
 refine eE I<|mi (z:=1) #[aG 0,aG 1,aG 1,aG 1,aG 1,aG 0] σ (bn.size) gY I bI fun _ de σ=>?_
 replace σ:=σ.EK (f:=fI) (F:=FI) (k:=0) (n:=6) (es:=[0,1,1,1,1,0]) I I di I aB (Ma (fun _=>I) _ _) (fun _ _ _ _=>xI (fun _=>I))
 replace σ:=σ.pick [] [0,2,3] aB
 refine eE I<|fk call26 (PZ (k:=3) σ.bW I aB) I ?_
 rintro _ _ ⟨Aq,cq,rfl,hSq⟩
 refine ⟨_,I,?_⟩
 replace σ:=σ.more hSq
 replace σ:=σ.jX (k:=0) I I
 refine eE I<|fk call7 (VP (k1:=2) (k2:=2) σ.bW σ.kC aB VQ aB af1) I ?_
 rintro _ _ ⟨u,dy,Oz,zL,MN,rfl,hSu,hl0,mJ,mr,ua,Hj,WB,hl6⟩
 refine ⟨_,I,?_⟩
 replace σ:=σ.more hSu
 replace σ:=σ.jX (k:=0) I hl0
 replace σ:=σ.jX (k:=0) I mJ
 replace σ:=σ.jX (k:=0) I mr
 replace σ:=σ.jX (k:=0) I ua
 replace σ:=σ.jX (k:=0) I Hj
 replace σ:=σ.jX (k:=0) I WB
 replace σ:=σ.jX (k:=0) I hl6
 have hu1:u.k1=2:=ae
 have hu2:u.k2=2:=ae
 refine eE I<|iR dJ σ I fun _ eQ σ=>eE I<|fB 0 σ I fun _ σ=>lK I<|kB (b':=false) I<|iF I I<|gE 0 σ I<|eE I<|fk call10 (aaf dy ⟨σ.rX,σ.rK,σ.nX,σ.kC,σ.fX,σ.dw,σ.bW⟩) I ?_
 rintro _ _ ⟨gm,v,EF,hpv,Re,hv2,rfl,hSv,Bt,qP,Qn,hm3,hm4,hm5,hm6⟩
 refine ⟨_,I,?_⟩
 replace σ:=σ.more hSv
 replace σ:=σ.Md (k:=0) I
 replace σ:=σ.jX (k:=0) I Bt
 replace σ:=σ.jX (k:=0) I qP
 replace σ:=σ.jX (k:=0) I Qn
 replace σ:=σ.jX (k:=0) I hm3
 replace σ:=σ.jX (k:=0) I hm4
 replace σ:=σ.jX (k:=0) I hm5
 replace σ:=σ.jX (k:=0) I hm6
 refine lK I<|kB (b':=false) I<|vE I (fun η=>ye η underlying35 I)<|iF I I<|eE I<|mi (z:=1) #[aG 1,aG 2,aG 3,aG 4] σ (qN.size) wA I bI fun _ jh σ=>?_
 replace σ:=σ.EK (f:=fI) (F:=FI) (k:=0) (n:=4) (es:=[1,2,3,4]) I I di I aB (Ma (fun _=>I) _ _) (fun _ _ _ _=>xI (fun _=>I))
 replace σ:=σ.pick [0] [0,2,3,4,5,6,7,8,9,10,11,12,13,14,15,16,17,18,19,20] aB
 refine eE I<|fk call14 (Ob σ.bW aB aB) I ?_
 rintro _ _ ⟨xe,uL,af3,rfl,uM,zS⟩
 refine ⟨_,I,?_⟩
 replace σ:=σ.abO uM ⟨bX,bV I,trivial⟩
 have af4:af3.length=4:=by have:=aq List.length zS; rw [aw] at this; exact this
 refine eE I<|mi (z:=1) #[aG 1,aG 1,aG 1,aG 1] σ (qN.size) wA I bI fun _ tU σ=>?_
 replace σ:=σ.EK (f:=fI) (F:=FI) (k:=0) (n:=4) (es:=[1,1,1,1]) I I di I aB (Ma (fun _=>I) _ _) (fun _ _ _ _=>xI (fun _=>I))
 replace σ:=σ.pick [0,1] [0,2,3,4,5,6,7,8,9,10,11,12,13,14,15,16,17,18,19,20,21,22] aB
 refine eE I<|fk call14 (Ob σ.bW aB aB) I ?_
 rintro _ _ ⟨Cz,xv,af5,rfl,KF,Zq⟩
 refine ⟨_,I,?_⟩
 replace σ:=σ.abO KF ⟨bX,bX,bV I,trivial⟩
 have af6:af5.length=4:=by have:=aq List.length Zq; rw [aw] at this; exact this
 refine eE I<|fk call13 (af2 EF (σ.pat (k:=11) I) ⟨σ.pat (k:=10) I,σ.pat (k:=9) I,σ.pat (k:=8) I,σ.pat (k:=7) I,σ.rX,σ.rK,σ.nX⟩ ae ae (by have:=EF.len; rw [hpv,Oz] at this; exact this.symm) (σ.pat (k:=21) rfl) ⟨aZ σ.l8,af4,σ.fX⟩ ⟨aZ σ.jr,af6,σ.bW⟩ zS Zq) rfl ?_
 rintro _ _ ⟨Ap,cp,ep,Sp,rfl,hPp,hzp,hnp,hb⟩
 refine ⟨_,I,?_⟩
 replace σ:=(σ.call hb).VJ (v:=(Ap,7,cp,ep)) hPp hnp (fun o ho b kY=>.inl (o.lt (σ.mine o ho) kY)) ⟨bX,bX,bV I,trivial⟩
 replace σ:St w0 _ [Dq Cz 4 xv af5,Dq xe 4 uL af3,bk eQ (uW u) 30] [pf Ap 7 cp ep,dW FN af5,fg (cS tU) 4 4 ([1,1,1,1]),dW FN af3,fg (cS jh) 4 4 ([1,2,3,4]),fg v.A6 v.n v.c6 v.e6,fC v.A5 v.n5 v.c5 v.e5,fg v.A4 v.n v.c4 v.e4,fC v.A3 v.n3 v.c3 v.e3,fg v.A1 v.n v.c1 v.e1,fC v.A0 v.n0 v.c0 v.e0,jD v.Ap v.n v.cp v.ps,bk gm (uW v) 82,fg u.A6 u.n u.c6 u.e6,fC u.A5 u.n5 u.c5 u.e5,fg u.A4 u.n u.c4 u.e4,fC u.A3 u.n3 u.c3 u.e3,fg u.A1 u.n u.c1 u.e1,fC u.A0 u.n0 u.c0 u.e0,jD u.Ap u.n u.cp u.ps,jD Aq 3 cq (Gk [0,1,1,1,1,0] 3),fg (cS de) 6 6 ([0,1,1,1,1,0]),tW,oP]:=σ
 refine eE I<|iR mO σ I fun _ Nj σ=>eE I<|fB 0 σ I fun _ σ=>gj I<|kB (b':=true) I<|eE I<|mi (z:=1) #[aG 1,aG 3,aG 6,aG 10,aG 9,aG 7,aG 4] σ (qN.size) wA I bI fun _ g66 σ=>?_
 replace σ:=σ.EK (f:=fI) (F:=FI) (k:=0) (n:=7) (es:=[1,3,6,10,9,7,4]) I I di I aB (Ma (fun _=>I) _ _) (fun _ _ _ _=>xI (fun _=>I))
 replace σ:=σ.pick [0,1,2,3] [0,2,3,4,5,6,7,8,9,10,11,12,13,14,15,16,17,18,19,20,21,22,23,24,25] aB
 exact eE I<|gV call15 (aad σ.dw σ.bW hzp aB aB) σ I fun _ σ=>lE 0 σ I<|gj I<|kB (b':=true) I<|lE 0 σ I<|gj I<|kB (b':=true) I<|lE 0 σ I<|gj I<|kB (b':=true) I<|o1 results6 I<|⟨I,σ.below⟩
end Go.Proofs.YtgopcdagnicekaaGreatDoor.W

/- The table of math/bits.TrailingZeros32, out of the row's condition. No condition. -/
namespace Go.Proofs.YtgopcdagnicekaaGreatDoor
open Go.RowKit Anv Go.ChangeShapes Go.WideShapes Go.ChangeAt Go.Joins
variable {cs:List Value} {W:World}
theorem wk {H:Type} {enc:TypeId×Value->H} {P:Program} {w:World} {base:Nat} {spare:Nat->Bool} {held:Bool} {fuel t n e:Nat} {zs:List Nat} {q:List MemPlace} 
 (ht:P.underlying t=some (.array n e)) (he:P.underlying e=some (.int .u8)) (hc:P.cellsOf e=1) (hn:P.cellsOf t=n)
 (h:DataW.trod enc P w base spare held fuel t cs=some (.agg (zs.map fun z=>.lit (.int .u8 (z:Nat))),q)):cs=zs.map fun z=>Value.int .u8 (z:Nat):=by
 obtain ⟨xs,m,rfl,hx,hl,JL,Zr⟩:=DataW.trod_array ht h
 simp only [cP,DataW.agg.injEq] at hx
 have Zh:zs.length=n:=by rw [<- JL]; have:=aq List.length hx.1; simpa using this
 apply dG
 intro i
 rcases aV i n with hi | hi
 ·have h1:=Zr i hi
  rw [hc,gH] at h1
  have W8:i<cs.length:=by rw [hl,hn]; exact hi
  have e1:(cs.drop i).take 1=[cs[i]]:=by rw [cA W8]; rfl
  have hix:i<xs.length:=by rw [JL]; exact hi
  rw [e1,ag hix] at h1
  obtain ⟨k,e2,e3,_⟩:=DataW.trod_int he h1
  have h2:=aq (fun l=>l[i]?) hx.1
  have hiz:i<zs.length:=by rw [Zh]; exact hi
  simp only [ay,ag hix,ag hiz,fQ,Option.some.injEq] at h2
  rw [e3] at h2
  simp only [DataW.lit.injEq,Lit.int.injEq,true_and] at h2
  simp only [eY,and_true] at e2
  rw [ag W8,e2,ay,ag hiz,fQ,h2]
 ·rw [bg (by rw [hl,hn]; exact hi),bg (by simp [Zh]; exact hi)]
open Go.RowKit Anv Go.ChangeShapes Go.WideShapes Go.ChangeAt Go.Joins W
theorem aqO:prog.globalNamed "math/bits.deBruijn32tab"=some 0:=by kernel_rfl
theorem aqP:(prog.globals[0]?).map (·.type)=some 290:=by kernel_rfl
theorem aqQ {H:Type}:(Rows.laid_math_bits_deBruijn32tab:DataW H)=.agg (Lib.deBruijn32tab.map fun z=>.lit (.int .u8 (z:Nat))):=rfl
theorem aqR:prog.globalNamed "math/bits.deBruijn64tab"=some 1:=by kernel_rfl
theorem aqS:(prog.globals[1]?).map (·.type)=some 291:=by kernel_rfl
theorem aqT {H:Type}:(Rows.laid_math_bits_deBruijn64tab:DataW H)=.agg (Tt.map fun z=>.lit (.int .u8 (z:Nat))):=rfl
theorem P3 (h:laidMetH prog [("math/bits.deBruijn32tab",Rows.laid_math_bits_deBruijn32tab),("math/bits.deBruijn64tab",Rows.laid_math_bits_deBruijn64tab)] W):x' W:=by
 rw [MakeChecks.laidMetH_plain _ _ _ bI] at h
 obtain ⟨ps,⟨g0,t0,cs0,f0,p0,q0,OE,ht0,hv0,JO,_,_⟩,_,_⟩:=h
 obtain rfl:=aW (aqO.symm.trans OE)
 obtain rfl:=aW (aqP.symm.trans ht0)
 rw [aqQ] at JO
 have mx:=wk underlying290 underlying5 bI bI JO
 intro j hj
 have hc:=World.var?_cell OE hv0 j
 have hl:j<Lib.deBruijn32tab.length:=hj
 have h2:cs0[j]?=some (.int .u8 (Lib.deBruijn32tab.getD j 0:Nat)):=by
  have h3:cs0.toList[j]?=some (.int .u8 (Lib.deBruijn32tab.getD j 0:Nat)):=by
   rw [mx,ay,ag hl]
   simp [List.getD,hl]
  simpa using h3
 exact hc.trans h2
theorem P4 (h:laidMetH prog [("math/bits.deBruijn32tab",Rows.laid_math_bits_deBruijn32tab),("math/bits.deBruijn64tab",Rows.laid_math_bits_deBruijn64tab)] W):me W:=by
 rw [MakeChecks.laidMetH_plain _ _ _ bI] at h
 obtain ⟨ps,⟨_,_,_,_,_,_,_,_,_,_,⟨g0,t0,cs0,f0,p0,q0,OE,ht0,hv0,JO,_,_⟩,_⟩,_,_⟩:=h
 obtain rfl:=aW (aqR.symm.trans OE)
 obtain rfl:=aW (aqS.symm.trans ht0)
 rw [aqT] at JO
 have mx:=wk underlying291 underlying5 bI bI JO
 intro j hj
 have hc:=World.var?_cell OE hv0 j
 have hl:j<Tt.length:=hj
 have h2:cs0[j]?=some (.int .u8 (Tt.getD j 0:Nat)):=by
  have h3:cs0.toList[j]?=some (.int .u8 (Tt.getD j 0:Nat)):=by
   rw [mx,ay,ag hl]
   simp [List.getD,hl]
  simpa using h3
 exact hc.trans h2
theorem zy:prog.cellsOf 61=2:=by kernel_rfl
theorem VS {H:Type} {enc:TypeId×Value->H} {m:Nat} {y:DataW H×List MemPlace}
 (h:DataW.trod enc prog W 0 (fun _=>true) true m 61 cs=some y):∃e:Pt,cs=Tp e:=by
 obtain ⟨xs,k,_,rfl,hl,hlen,hf⟩:=DataW.trod_struct underlying61 h
 rw [zy] at hl
 obtain ⟨v0,v1,rfl⟩:∃v0 v1,cs=[v0,v1]:=by
  match cs,hl with
  | [v0,v1],_=>exact ⟨v0,v1,rfl⟩
 match xs,hlen with
 | [y0,y1],_=>
  have h0:DataW.trod enc prog W 0 (fun _=>true) true k 3 (([v0,v1].drop 0).take (prog.cellsOf 3))=some y0:=by simpa using hf 0 _ rfl
  have h1:DataW.trod enc prog W 0 (fun _=>true) true k 3 (([v0,v1].drop 1).take (prog.cellsOf 3))=some y1:=by simpa using hf 1 _ rfl
  rw [RL] at h0 h1
  obtain ⟨n0,rfl,_⟩:=Mc h0
  obtain ⟨n1,rfl,_⟩:=Mc h1
  exact ⟨(n0,n1),I⟩
theorem VT {H:Type} {enc:TypeId×Value->H} {r:Reach} {b0:Nat} {v:Value} {d:DataW H} {p:List MemPlace} 
 (hv:Value.okWide prog W r b0 22 v) (h:DataW.Trod enc prog W 0 (fun _=>true) true 22 v d p):
  ∃A n c es,v=.slice A n c/\(jD A n c es).P W:=by
 obtain ⟨A,n,c,rfl⟩:=okWide_slice underlying22 hv
 obtain ⟨m,hm⟩:=h
 replace hm:DataW.trod enc prog W 0 (fun _=>true) true m 22 [.slice A n c]=some (d,p):=hm
 rcases DataW.trod_slice underlying22 hm with ⟨mx,_⟩ | ⟨a,l,c',elems,rest,q,_,mx,hd,_,hlc,KA,hlen,Zr,_⟩
 ·simp at mx
  obtain ⟨rfl,rfl,rfl⟩:=mx
  exact ⟨none,0,0,[],I,L' Tp FPt 2 W⟩
 simp at mx
 obtain ⟨rfl,rfl,rfl⟩:=mx
 rw [zy] at Zr
 have hex:∀i,∃e:Pt,i<n->∀j,j<2->W.cell? ((a.add (i*2)).add j)=(Tp e)[j]?:=by
  intro i
  rcases aV i n with hi | hi
  ·have he:=Zr i hi
   rw [ag ae] at he
   obtain ⟨cs,mx,ht⟩:=Option.bind_eq_some_iff.1 he
   obtain ⟨e,rfl⟩:=VS ht
   obtain ⟨_,_,hc⟩:=World.cells?_some mx
   exact ⟨e,fun _ j hj=>hc j hj⟩
  ·exact ⟨(0,0),fun h=>ae⟩
 obtain ⟨g,hg⟩:=Classical.axiomOfChoice hex
 have mf:∀i,i<n->((List.range n).map g)[i]?=some (g i):=fun i hi=>by
  rw [ay,bN hi]
  rfl
 refine ⟨some a,n,c,(List.range n).map g,I,⟨by rw [mq iX,aw,ee],hlc,KA,fun hp=>?_⟩,by rw [aw,ee],fun e _=>trivial⟩
 have h0:=hg 0 hp 0 aB
 obtain ⟨b,off,spot⟩:=a
 have akU:spot=none:=by
  have h1:W.cell? (((⟨b,off,spot⟩:Addr).add (0*2)).add 0)=some (.int .i64 (g 0).1):=h0
  simpa [Addr.add] using World.cell?_spot h1
 subst akU
 have ea:∀o k,(⟨b,o,none⟩:Addr).add k=⟨b,o+k,none⟩:=fun o k=>by simp [Addr.add]
 refine ⟨b,off,I,World.block_lt_of_cell? W (((⟨b,off,none⟩:Addr).add (0*2)).add 0) h0,fun i hi=>?_⟩
 obtain ⟨j,k,hk,rfl⟩:∃j k,k<2/\i=j*2+k:=⟨i / 2,i%2,dF _ aB,by omega⟩
 have hj:j<n:=ae
 rw [RH iX (mf j hj) hk,<- hg j hj k hk,ea,ea,eu]
end Go.Proofs.YtgopcdagnicekaaGreatDoor

/- Package code: rows of bytes; pair, check. Printed by pv/gen_yq.py. No condition. -/
namespace Go.Proofs.YtgopcdagnicekaaGreatDoor.W
open Go.RowKit Anv Go.Lib
def fY (x:Int):List Value:=[.int .u8 x]
def FY (_:Int):PF:=kF
theorem yT (x:Int):(fY x).length=1:=rfl
def y8 (n:Int):Int:=n%256
theorem ij (n:Int):IntKind.u8.wrap n=y8 n:=rfl
theorem uX (n:Int):0<=y8 n/\y8 n<256:=by unfold y8; omega
theorem oK {n:Int} (h:0<=n/\n<256):y8 n=n:=by unfold y8; omega
variable {n j c g E k i gr:Nat} {x lo hi:Int} {bs es:List Int} {w0 w1 w:World} {A:Option Addr} {u:Un}
theorem y64 (h:0<=x/\x<256):IntKind.i64.wrap x=x:=IntWalk.i64_in _ ae
theorem sh8 (n:Int):n.fdiv (2 ^ 8)=n / 256:=Int.fdiv_eq_ediv_of_nonneg _ aB
def nH (n:Int):List Int:=[y8 (n / 256),y8 n]
def Db (bs:List Int):Nat->Nat
 | 0=>0
 | j+1=>(Db bs j+(j+1)%65521*(bs.getD j 0).toNat)%65521
theorem VU (bs:List Int) (j:Nat):Db bs j<65521:=by
 cases j with
 | zero=>exact Nat.zero_lt_succ _
 | succ j=>exact dF _ aB
theorem VV {y:Nat} (h:n=Db bs j) (he:bs[j]?=some ((y:Nat):Int)):(n+(j+1)%65521*y)%65521=Db bs (j+1):=by
 rw [Db,<- h,aj,he]; rfl
theorem tC (hS:St w0 w1 [fc dD 5 1 A n c (fl fY es)] [dA w1 (fc dD 5 1 A n c (fl fY es))]) (hl:es.length=n) (hn:n<=10000000):
  Calls prog 44 #[.slice A n c,aG x] w1 fun e w'=>∃A' c',e=.returned (.slice A' (n+2) c')/\St w0 w' [fc dD 5 1 A' (n+2) c' (fl fY (es++nH x))] [dA w1 (fc dD 5 1 A n c (fl fY es))]:=by
 refine gQ func44 I ntmps44 I fun σ=>?_
 replace σ:=hS
 exact vE I (fun η=>JU (m:=x) (s:=8) η I I aB (sh8 _))<|vE I (fun η=>dS (m:=y8 (x / 256)) η I underlying3 underlying5 (ij _))<|vE I (fun η=>dS (m:=y8 x) η I underlying3 underlying5 (ij _))<|eE I<|mi (z:=1) #[.int .u8 (y8 (x / 256)),.int .u8 (y8 x)] σ (dX.size) iN I bI fun _ de σ=>eE I<|oO (new:=[(y8 (x / 256)),(y8 x)]) 1 0 σ kD I (by unfold maxLen; omega) ae fun _ eQ wW σ=>o1 results44 rfl<|⟨_,_,rfl,σ.pick [1] [0] aB⟩
theorem Jp {A0:Option Addr} {n0 c0:Nat} {es0:List Int} (h0:(bH fY FY 1 A0 n0 c0 es0).P w0) (hB:∀x∈es0,0<=x/\x<256) (hn:n0<=10000000):
  Calls prog 45 #[.slice A0 n0 c0] w0 fun e w'=>e=.returned (aM (Db es0 n0))/\Below w0.heap.size w0 w':=by
 refine gQ func45 I ntmps45 I fun σ=>?_
 have cQ:=h0.2.1
 have lu:=h0.1.cap
 replace σ:=σ.aY h0
 refine ks (fun mz l w=>∃j:Nat,∃m:Nat,n0 - j=mz/\l=[(8,aM j),(3,aM m),(6,.slice A0 n0 c0),(7,aM n0)]/\St w0 w [] [bH fY FY 1 A0 n0 c0 es0]/\j<=n0/\m=Db es0 j) ⟨0,0,I,I,σ,(av _),I⟩ aT ?_
 rintro _ _ _ ⟨j,m,rfl,rfl,σ,hj,hm⟩
 refine il I<|wD (fun lC=>?_) fun lC=>?_
 ·have fh:j<n0:=ae
  obtain ⟨x,eG⟩:∃e,es0[j]?=some e:=⟨_,ag ae⟩
  have hx:=hB x (ah eG)
  obtain ⟨y,rfl⟩:=aU hx.1
  have hmu:(j+1)%65521*y<=65520*255:=bR ae ae
  have DL:=VU es0 j
  exact iT I I<|vE I (fun η=>aX (i:=j) η underlying65 (dX.size) I I ae I (show (bH fY FY 1 A0 n0 c0 es0).P _ from σ.bW).1)<|cE I (fun η=>bE (i:=j) (j:=0) (e:=((y:Nat):Int)) η dX I I yT aB (show (bH fY FY 1 A0 n0 c0 es0).P _ from σ.bW).1 ae eG I)<|can (j:=1) I ae<|vE I (fun η=>uu η I I aB (xC (j+1) 65521))<|vE I (fun η=>dS (m:=((y:Nat):Int)) η I underlying5 underlying3 (y64 ae))<|cmn I ae<|can I ae<|vE I (fun η=>uu η I I aB (xC (m+(((j+1)%65521)*y)) 65521))<|can (j:=1) I ae<|gI ⟨j+1,((m+((j+1)%65521*y))%65521),I,I,σ,ae,(VV hm eG)⟩ aT ae
 ·obtain rfl:n0=j:=ae
  exact iF I I<|o1 results45 I<|by rw [<- hm]; exact ⟨rfl,σ.below⟩
theorem uY:
  Calls prog 43 #[cY g] w0 fun e w'=>e=.returned (.agg #[.pointer (some ⟨g,3,none⟩),.pointer (some ⟨g,7,none⟩),.pointer (some ⟨g,11,none⟩)])/\Below w0.heap.size w0 w':=by
 exact gQ func43 I ntmps43 I fun σ=>eE I<|iR oT σ I fun _ de σ=>lj [10] [0,4,8,12,16,20,24,28,32,36,42] bI σ fun _ σ=>vE I (fun η=>N8 η underlying112 (eC.size) oT I I I)<|eS I<|fB 0 σ I fun _ σ=>sz I<|oR (fun e=>iJ results43 (RV.cell e Bq I σ.gq I))<|⟨I,σ.below⟩
theorem af7 (dy:u.Ok) (hm:u.Mem w0):
  Calls prog 42 #[.agg (uW u)] w0 fun e w'=>e=.returned (aG 0)/\Below w0.heap.size w0 w':=by
 have q1:=dy.xg.1
 have q2:=dy.xg.2.1
 have q3:=dy.num
 refine gQ func42 I ntmps42 I fun σ=>?_
 replace σ:=σ.aY hm.m6
 replace σ:=σ.aY hm.m5
 replace σ:=σ.aY hm.m4
 replace σ:=σ.aY hm.m3
 replace σ:=σ.aY hm.m1
 replace σ:=σ.aY hm.m0
 replace σ:=σ.aY hm.mP
 refine eE I<|ll σ I fun _ de σ=>lE 0 σ I<|il I<|kB (b':=false) (aC ae)<|lE 0 σ I<|il I<|kB (b':=false) (aC ae)<|lE 0 σ I<|sG I<|kB (b':=false) (aC ae)<|lE 0 σ I<|sG I<|kB (b':=false) (aC ae)<|lE 0 σ I<|sG I<|kB (b':=false) (aC ae)<|iF I I<|lE 0 σ I<|ks (fun mz l w=>∃i:Nat,u.n - i=mz/\l=[(36,aM i),(1,cY de),(34,.slice u.Ap u.n u.cp),(35,aM u.n)]/\St w0 w [bk de (uW u) 30] [jD u.Ap u.n u.cp u.ps,fC u.A0 u.n0 u.c0 u.e0,fg u.A1 u.n u.c1 u.e1,fC u.A3 u.n3 u.c3 u.e3,fg u.A4 u.n u.c4 u.e4,fC u.A5 u.n5 u.c5 u.e5,fg u.A6 u.n u.c6 u.e6]/\i<=u.n) ⟨0,I,I,σ,(av _)⟩ aT ?_
 rintro _ _ _ ⟨i,rfl,rfl,σ,hi⟩
 refine il I<|wD (fun mX=>?_) fun mX=>?_
 ·have fh:i<u.n:=ae
  have xE:=dy.len
  obtain ⟨⟨pa,pb⟩,eG⟩:∃e,u.ps[i]?=some e:=⟨_,ag ae⟩
  have hpi:=dy.xg.2.2 _ (ah eG)
  exact iT I I<|vE I (fun η=>aX (i:=i) η underlying22 (aO.size) I I ae I (show (jD u.Ap u.n u.cp u.ps).P _ from σ.bW).1)<|cE I (fun η=>cX (v:=#[aG pa,aG pb]) (i:=i) (e:=(pa,pb)) η aO I I iX (show (jD u.Ap u.n u.cp u.ps).P _ from σ.bW).1 ae eG I)<|eE I<|iR b6 σ I fun _ jh σ=>eE I<|fB 0 σ I fun _ σ=>gE 0 σ I<|eE I<|gV call69 (wb (pa:=pa) (pb:=pb)) σ I fun _ σ=>kB (b':=true) (a8 hpi)<|iF I I<|can (j:=1) I ae<|gI ⟨i+1,I,I,σ.pick [1] [0,1,2,3,4,5,6] aB,ae⟩ aT ae
 ·refine iF I I<|eE I<|gV call43 (uY (g:=de)) σ I fun _ σ=>ks (fun mz l w=>∃j:Nat,3 - j=mz/\l=[(45,aM j),(44,.agg #[.pointer (some ⟨de,3,none⟩),.pointer (some ⟨de,7,none⟩),.pointer (some ⟨de,11,none⟩)])]/\St w0 w [bk de (uW u) 30] [jD u.Ap u.n u.cp u.ps,fC u.A0 u.n0 u.c0 u.e0,fg u.A1 u.n u.c1 u.e1,fC u.A3 u.n3 u.c3 u.e3,fg u.A4 u.n u.c4 u.e4,fC u.A5 u.n5 u.c5 u.e5,fg u.A6 u.n u.c6 u.e6]/\j<=3) ⟨0,I,I,σ,(av _)⟩ aT ?_
  rintro _ _ _ ⟨j,rfl,rfl,σ,hj⟩
  rcases (show j=0∨j=1∨j=2∨j=3 by omega) with rfl|rfl|rfl|rfl
  ·exact il I<|kB (b':=true) aB<|iT I I<|vE I (fun η=>lF (v:=some ⟨de,3,none⟩) 0 η underlying112 eC I I aB I)<|cE I (fun η=>fT (cs:=[aM u.k1,aM u.gL,.slice u.A0 u.n0 u.c0,.slice u.A1 u.n u.c1]) η bC I σ.gq I I)<|eE I<|gV call41 (kR σ.dw σ.fX dy.cL) σ I fun _ σ=>lK I<|kB (b':=false) I<|iF I I<|can (i:=0) (j:=1) I ae<|gI ⟨1,I,I,σ,ae⟩ aT ae
  ·exact il I<|kB (b':=true) aB<|iT I I<|vE I (fun η=>lF (v:=some ⟨de,7,none⟩) 1 η underlying112 eC I I aB I)<|cE I (fun η=>fT (cs:=[aM u.k2,aM u.gR,.slice u.A3 u.n3 u.c3,.slice u.A4 u.n u.c4]) η bC I σ.gq I I)<|eE I<|gV call41 (kR σ.kC σ.nX dy.cR) σ I fun _ σ=>lK I<|kB (b':=false) I<|iF I I<|can (i:=1) (j:=1) I ae<|gI ⟨2,I,I,σ,ae⟩ aT ae
  ·exact il I<|kB (b':=true) aB<|iT I I<|vE I (fun η=>lF (v:=some ⟨de,11,none⟩) 2 η underlying112 eC I I aB I)<|cE I (fun η=>fT (cs:=[aM u.n,aM u.gB,.slice u.A5 u.n5 u.c5,.slice u.A6 u.n u.c6]) η bC I σ.gq I I)<|eE I<|gV call41 (kR σ.rK σ.rX dy.cB) σ I fun _ σ=>lK I<|kB (b':=false) I<|iF I I<|can (i:=2) (j:=1) I ae<|gI ⟨3,I,I,σ,ae⟩ aT ae
  ·exact il I<|kB (b':=false) aB<|iF I I<|o1 results42 I<|⟨I,σ.below⟩
def mkB (g:Nat) (c:Array Value) (t:TypeId):PF:=
 ⟨fun w=>w.heap[g]?=some (.cells c t (c.size,c.size+1)),fun b=>b=g,fun h e=>e ▸ lt_of_block h,fun h _ hk=>(hk g rfl).trans h⟩
theorem Gm {c:Array Value} {t:TypeId} (hg:w.heap[g]?=some (.cells c t (0,0))):(w.freeze ⟨g,c.size,none⟩ 1).heap[g]?=some (.cells c t (c.size,c.size+1)):=by
 have fh:=lt_of_block hg
 have h2:w.heap[g]=.cells c t (0,0):=by rw [gX fh] at hg; exact aW hg
 unfold World.freeze
 rw [ak aB]
 show (w.heap.modify g _)[g]?=_
 rw [eO,au rfl,hg]
 rfl
theorem VW {b:Nat} (h:b≠g):(w.freeze ⟨g,n,none⟩ 1).heap[b]?=w.heap[b]?:=by
 unfold World.freeze
 rw [ak aB]
 show (w.heap.modify g _)[b]?=_
 rw [eO,ak (fun e=>h e.symm)]
theorem aag:(w.freeze ⟨g,n,none⟩ 1).heap.size=w.heap.size:=by
 unfold World.freeze
 rw [ak aB]
 exact Array.size_modify ..
section
variable {P:Program} {K:Act->World->Prop} {Q:Exit->Act->World->Prop} {N:Nat} {dq:List Deferred} {a:Act} {l:List (Nat×Value)} {w w0:World} {own ps:List PF}
variable {d:Nat} {ty:TypeId} {pos:String} {af:Array Edge} {gd:Option (Nat×Bool)}
theorem VX {x:Operand} {T:Nat} {c:Array Value} (h:b7 dq N a l) (hs:St w0 w own ps) (hd:Nat.blt d N=true) (hT:P.underlying T=some (.slice E)) (hE:P.underlying E=some (.int .u8)) (hx:eB l x=some (.slice (cS g) n n))
 (hk:own[k]?=some (bk g c E)) (hc:c.toList=fl fY es) (hl:es.length=n) (hm:n<=maxLen)
 (hK:∀a' w',b7 dq N a' ((d,.slice (cS g) n n)::l)->St w0 w' (own.eraseIdx k) (bH fY FY 1 (cS g) n n es::ps)->K a' w'):
  Oper.wp P ⟨some d,.convert T T x,ty,pos,af,gd⟩ a w K Q:=by
 have hg:=hs.pV hk
 have hsh:w.shape? g=some (E,c.size):=by unfold World.shape?; rw [hg]
 have hr:(execOp a.eval ⟨some d,.convert T T x,ty,pos,af,gd⟩).run P w=.ok (.value (.slice (cS g) n n)) (w.freeze ⟨g,c.size,none⟩ 1):=by
  simp [execOp,h.ev hx,convert,run_underlying hT,run_underlying hE,markStringish,hsh]
 have h1:St w0 (w.freeze ⟨g,c.size,none⟩ 1) (own.set k (mkB g c E)) ps:=hs.pH hk (e':=mkB g c E) (Gm hg) (fun b hb=>.inl hb) (by unfold World.freeze; rw [ak aB]) (by unfold World.freeze; rw [ak aB]) (by unfold World.freeze; rw [ak aB]) (ew aag.symm) fun b _ hb=>VW fun e=>hb e
 have We:k<own.length:=(aE.1 hk).1
 have h2:=h1.give (k:=k) (e:=mkB g c E) (by rw [iM We]) (bH fY FY 1 (cS g) n n es)
  ⟨⟨by rw [mq yT,hl],ar _,hm,fun _=>⟨g,0,rfl,lt_of_block (Gm hg),fun i _=>by rw [bD,cell_of_row _ g i c E _ (Gm hg),<- hc,dm]⟩⟩,hl,fun _ _=>trivial⟩ fun b hb=>by
   rcases hb with ⟨_,off,e⟩ | ⟨e,_,he⟩
   ·cases e; rfl
   ·exact he.elim
 rw [List.eraseIdx_set_eq] at h2
 unfold Oper.wp
 rw [hr]
 exact hK _ _ (h.put hd _) h2
theorem LH {q:Value->Bool} {t m bytes:Nat} {x y:Operand} {B:Option Addr} {zv:Value} {vs us:List Value} (h:b7 dq N a l) (hs:St w0 w own ps) (hd:Nat.blt d N=true) (hT:P.underlying t=some (.slice E))
 (hi:(P.info? E).map (fun i=>(i.zero,i.size,i.bytes))=some (some zv,1,bytes)) (RE:zv.cells.size=1) (hx:eB l x=some (.slice A n n)) (hy:eB l y=some (.slice B m c)) (hb:Rd 1 w A n n vs) (hr:Rd 1 w B m c us)
 (pJ:0<n) (Bt:0<m) (hvq:vs.all q=true) (huq:us.all q=true) (RD:zv.cells.toList.all q=true) (hn:n+m<=maxLen) (Jy:(n+m)*bytes<=140737488355328)
 (hK:∀a' w' g c',b7 dq N a' ((d,.slice (cS g) (n+m) c')::l)->St w0 w' (fc q E 1 (cS g) (n+m) c' (vs++us)::own) ps->K a' w'):
  Oper.wp P ⟨some d,.call ⟨.builtin .append,#[x,y],#[t,t]⟩,ty,pos,af,gd⟩ a w K Q:=by
 obtain ⟨i,Jw,xi⟩:=gJ.1 hi
 simp only [cP] at xi
 obtain ⟨hz,qZ,hbt⟩:=xi
 obtain ⟨b,off,rfl,_,Bn⟩:=hb.cells pJ
 obtain ⟨b2,Ev,rfl,_,hrc⟩:=hr.cells Bt
 have yi:vs.length=n*i.size:=by rw [qZ]; exact hb.len
 have hlu:us.length=m*i.size:=by rw [qZ]; exact hr.len
 have e1:∀(j:Nat) u,vs[j]?=some u->w.cell? ((⟨b,off,none⟩:Addr).add j)=some u:=fun j u hu=>by
  rw [vj,Bn j (by rw [<- hb.len]; exact (aE.1 hu).1)]; exact hu
 have e2:∀(j:Nat) u,us[j]?=some u->w.cell? ((⟨b2,Ev,none⟩:Addr).add j)=some u:=fun j u hu=>by
  rw [vj,hrc j (by rw [<- hr.len]; exact (aE.1 hu).1)]; exact hu
 have acq:n+m<=9223372036854775807:=by simp only [maxLen] at hn; omega
 have pK:=run_append_grow (P:=P) w t ty E i zv hT Jw hz ⟨b,off,none⟩ n n vs yi e1 ⟨b2,Ev,none⟩ m c us hlu e2 ae ae (growslice_fits ae (by rw [hbt]; exact Jy))
 have yo:=grownCap_ge w (n+m) n E
 have KA:grownCap w (n+m) n E<=maxLen:=grownCap_le_maxLen w (n+m) n E hn
 have hex:(execOp a.eval ⟨some d,.call ⟨.builtin .append,#[x,y],#[t,t]⟩,ty,pos,af,gd⟩).run P w=.ok (.value (.slice (cS w.heap.size) (n+m) (grownCap w (n+m) n E))) (w.drew.alloc (.cells (vs.toArray++us.toArray++Builtin.zeroCells zv.cells (grownCap w (n+m) n E - (n+m))) E)):=by
  simp [execOp,resolve,invoke,builtin,h.ev hx,h.ev hy,pK]
 unfold Oper.wp
 rw [hex]
 have mr:(vs++us).length=(n+m)*1:=by rw [ai,hb.len,hr.len]; omega
 refine hK _ _ w.heap.size (grownCap w (n+m) n E) (h.put hd _) (hs.add ((Below.refl _ _).drew.alloc (by show w.heap.size<=w.drew.heap.size; exact ar _) _) _ ⟨⟨mr,.inr ⟨w.heap.size,_,_,rfl,av _,heap_alloc_new w.drew _,yo,KA,?_,?_⟩⟩,fun g' vg=>?_⟩ fun b' Df=>?_)
 ·simp only [Array.size_append,List.size_toArray,size_zeroCells,RE,hb.len,hr.len]
  omega
 ·simp only [Array.toList_append,aH]
  rw [<- aH,<- mr]
  exact List.take_left
 ·obtain rfl:w.heap.size=g':=by simpa [Value.ownBlock] using vg
  refine ⟨_,heap_alloc_new w.drew _,?_⟩
  simp only [Array.toList_append,jd,hvq,huq,Bool.true_and]
  exact rL RD _
 ·have:some w.heap.size=some b':=Df
  exact ew (aW this)
end
def LI (e:IE):List Int:=[y8 e.1,y8 e.2.1,y8 e.2.2.1,y8 e.2.2.2.1]++nH e.2.2.2.2
def Qy (p:Pt):List Int:=[y8 p.1,y8 p.2]
def tX (i g:Nat) (es:List IE) (os:List Int):List Int:=[y8 (i:Nat),y8 (g:Nat)]++nH (es.length:Nat)++es.flatMap LI++[y8 (os.length:Nat)]++os.map y8
def yf:List Int:=[65,78,86,49]
def WJ (u:Un) (i:Nat):List Int:=yf++[y8 (u.k1:Nat),y8 (u.k2:Nat),y8 (u.n:Nat)]++(u.ps.take i).flatMap Qy
def qF (u:Un):Nat->List Int
 | 0=>WJ u u.n
 | 1=>WJ u u.n++tX u.k1 u.gL u.e0 u.e1
 | 2=>WJ u u.n++tX u.k1 u.gL u.e0 u.e1++tX u.k2 u.gR u.e3 u.e4
 | _=>WJ u u.n++tX u.k1 u.gL u.e0 u.e1++tX u.k2 u.gR u.e3 u.e4++tX u.n u.gB u.e5 u.e6
def GJ (u:Un):List Int:=qF u 3++nH (Db (qF u 3) (qF u 3).length:Nat)
theorem vG {α β:Type} {f:α->List β} {es:List α} {e:α} (h:es[i]?=some e):(es.take (i+1)).flatMap f=(es.take i).flatMap f++f e:=by rw [take_one h,List.flatMap_append]; simp
theorem AX (e:IE):(LI e).length=6:=rfl
theorem abP {n:Int} (h:x∈nH n):0<=x/\x<256:=by
 rcases bf.1 h with h | h
 ·rw [h]; exact uX _
 ·rw [aL.1 h]; exact uX _
theorem af8 {e:IE} (h:x∈LI e):0<=x/\x<256:=by
 rcases aK.1 h with h | h
 ·simp only [bf,List.not_mem_nil,or_false] at h
  rcases h with h | h | h | h<;>(rw [h]; exact uX _)
 ·exact abP h
theorem af9 {p:Pt} (h:x∈Qy p):0<=x/\x<256:=by
 simp only [Qy,bf,List.not_mem_nil,or_false] at h
 rcases h with h | h<;>(rw [h]; exact uX _)
theorem LJ {es:List IE} {os:List Int} (h:x∈tX i g es os):0<=x/\x<256:=by
 unfold tX at h
 simp only [aK,bf,List.not_mem_nil,or_false] at h
 rcases h with (((h | h) | h) | h) | h
 ·rcases h with h | h<;>(rw [h]; exact uX _)
 ·exact abP h
 ·obtain ⟨e,_,h⟩:=List.mem_flatMap.1 h
  exact af8 h
 ·rw [h]; exact uX _
 ·obtain ⟨r,_,rfl⟩:=bG.1 h
  exact uX _
theorem af' (h:x∈WJ u i):0<=x/\x<256:=by
 unfold WJ yf at h
 simp only [aK,bf,List.not_mem_nil,or_false] at h
 rcases h with (h | h) | h
 ·omega
 ·rcases h with h | h | h<;>(rw [h]; exact uX _)
 ·obtain ⟨e,_,h⟩:=List.mem_flatMap.1 h
  exact af9 h
theorem VY (h:x∈qF u 3):0<=x/\x<256:=by
 simp only [qF,aK] at h
 rcases h with ((h | h) | h) | h
 ·exact af' h
 ·exact LJ h
 ·exact LJ h
 ·exact LJ h
section
variable {P:Program} {X:Cx P} {w w0:World} {l:List (Nat×Value)} {own ps:List PF} {d:Nat} {x y:Operand} {C:World->List (Nat×Value)->Prop} {q:Value->Bool} {t T E E' g n m c bytes:Nat} {A:Option Addr} {cs:Array Value} {es new:List Int} {zv:Value}
theorem cvB (k:Nat) (hs:St w0 w own ps) (hT:P.underlying T=some (.slice E)) (hE:P.underlying E=some (.int .u8)) (e:(Nat.blt d X.N,eB l x,own[k]?,cs.toList)=(true,some (.slice (cS g) n n),some (bk g cs E),fl fY es)) (hl:es.length=n) (hm:n<=maxLen)
  (h:∀w',St w0 w' (own.eraseIdx k) (bH fY FY 1 (cS g) n n es::ps)->C w' ((d,.slice (cS g) n n)::l)):WE X w l (.convert T T x) (some d) C:=by
 simp only [cP] at e
 obtain ⟨e1,e2,e3,e4⟩:=e
 exact ⟨fun h1 hC=>VX h1 hs e1 hT hE e2 e3 e4 hl hm fun a' w' h' rR=>hC a' w' _ (h w' rR) h'⟩
theorem afE (j r:Nat) (hs:St w0 w own ps) (hi:(P.info? E).map (fun i=>(i.zero,i.size,i.bytes))=some (some zv,1,bytes))
  (e:(Nat.blt d X.N,X.T.ty t,eB l x,eB l y,ps[j]?,own[r]?,zv.cells.size,cs.size)=(true,.sl E,some (.slice A n n),some (.slice (cS g) m m),some (bH fY FY 1 A n n es),some (bk g cs E'),1,m)) (ec:cs.toList=fl fY new) (e1:((fl fY es).all q,cs.toList.all q,zv.cells.toList.all q)=(true,true,true))
  (pJ:0<n) (Bt:0<m) (hn:n+m<=maxLen) (hb:(n+m)*bytes<=140737488355328)
  (h:∀w' g' c',St w0 w' (fc q E 1 (cS g') (n+m) c' (fl fY (es++new))::own) ps->C w' ((d,.slice (cS g') (n+m) c')::l)):WE X w l (.call ⟨.builtin .append,#[x,y],#[t,t]⟩) (some d) C:=by
 have ht:=X.T.tyOk t
 simp only [cP] at e e1
 obtain ⟨e1',e2,e3,e4,e5,e6,e7,e8⟩:=e
 obtain ⟨f1,f2,f3⟩:=e1
 rw [e2] at ht
 have hg:=hs.pV e6
 have hr:Rd 1 w (cS g) m m cs.toList:=⟨by rw [dV,e8,gH],ar _,by omega,fun _=>⟨g,0,rfl,lt_of_block hg,fun i _=>by rw [bD,cell_of_row w g i cs E' (0,0) hg,dm]⟩⟩
 exact ⟨fun h1 hC=>LH h1 hs e1' ht.2 hi e7 e3 e4 (hs.pat e5).1 hr pJ Bt f1 f2 f3 hn hb fun a' w' g' c' h' rR=>hC a' w' _ (h w' g' c' (by rw [yz,<- ec]; exact rR)) h'⟩
end
theorem P5 (dy:u.Ok) (hm:u.Mem w0):
  Calls prog 23 #[.agg (uW u)] w0 fun e w'=>∃A n c,e=.returned (.tuple #[.slice A n c,aG 0])/\St w0 w' [fc dD 5 1 A n c (fl fY (GJ u))] []/\(GJ u).length=n:=by
 have q1:=dy.xg.1
 have q2:=dy.xg.2.1
 have q3:=dy.num
 have k0:=dy.cL.ln
 have k3:=dy.cR.ln
 have k5:=dy.cB.ln
 refine gQ func23 I ntmps23 I fun σ=>?_
 replace σ:=σ.aY hm.m6
 replace σ:=σ.aY hm.m5
 replace σ:=σ.aY hm.m4
 replace σ:=σ.aY hm.m3
 replace σ:=σ.aY hm.m1
 replace σ:=σ.aY hm.m0
 replace σ:=σ.aY hm.mP
 have hl0:=hm.m0.2.1
 have mJ:=hm.m1.2.1
 have ua:=hm.m3.2.1
 have Hj:=hm.m4.2.1
 have WB:=hm.m5.2.1
 have hl6:=hm.m6.2.1
 have hlp:=dy.len
 refine eE I<|ll σ I fun _ de σ=>gE 0 σ I<|eE I<|gV call42 (af7 dy ⟨σ.bW,σ.dw,σ.fX,σ.kC,σ.nX,σ.rK,σ.rX⟩) σ I fun _ σ=>lK I<|kB (b':=false) I<|iF I I<|eE I<|mi (z:=1) #[.int .u8 65,.int .u8 78,.int .u8 86,.int .u8 49] σ (dX.size) iN I bI fun _ eQ σ=>eE I<|cvB (es:=[65,78,86,49]) 0 σ underlying65 underlying5 I I aB fun _ σ=>lE 0 σ I<|vE I (fun η=>dS (m:=y8 ((u.k1:Nat):Int)) η I underlying3 underlying5 (ij _))<|lE 0 σ I<|vE I (fun η=>dS (m:=y8 ((u.k2:Nat):Int)) η I underlying3 underlying5 (ij _))<|lE 0 σ I<|vE I (fun η=>dS (m:=y8 ((u.n:Nat):Int)) η I underlying3 underlying5 (ij _))<|eE I<|mi (z:=1) #[.int .u8 (y8 ((u.k1:Nat):Int)),.int .u8 (y8 ((u.k2:Nat):Int)),.int .u8 (y8 ((u.n:Nat):Int))] σ (dX.size) iN I bI fun _ jh σ=>eE I<|afE (new:=[(y8 ((u.k1:Nat):Int)),(y8 ((u.k2:Nat):Int)),(y8 ((u.n:Nat):Int))]) 0 0 σ kD I I I aB aB aB aB fun _ jY uL σ=>lE 2 σ I<|ks (fun mz l w=>∃i:Nat,∃A4:Option Addr,∃c4:Nat,∃n4:Nat,∃os4:List Int,u.n - i=mz/\l=[(5,.slice A4 n4 c4),(36,aM i),(1,cY de),(34,.slice u.Ap u.n u.cp),(35,aM u.n)]/\St w0 w [fc dD 5 1 A4 n4 c4 (fl fY os4),bk jh #[.int .u8 (y8 ((u.k1:Nat):Int)),.int .u8 (y8 ((u.k2:Nat):Int)),.int .u8 (y8 ((u.n:Nat):Int))] 5,bk de (uW u) 30] [bH fY FY 1 (cS eQ) 4 4 ([65,78,86,49]),jD u.Ap u.n u.cp u.ps,fC u.A0 u.n0 u.c0 u.e0,fg u.A1 u.n u.c1 u.e1,fC u.A3 u.n3 u.c3 u.e3,fg u.A4 u.n u.c4 u.e4,fC u.A5 u.n5 u.c5 u.e5,fg u.A6 u.n u.c6 u.e6]/\i<=u.n/\n4=7+2*i/\os4=WJ u i/\os4.length=n4) ⟨0,(cS jY),uL,7,([65,78,86,49]++[(y8 ((u.k1:Nat):Int)),(y8 ((u.k2:Nat):Int)),(y8 ((u.n:Nat):Int))]),I,I,σ,(av _),I,(by unfold WJ yf; rw [jI,List.flatMap_nil,bq]),rfl⟩ aT ?_
 rintro _ _ _ ⟨i,A4,c4,n4,os4,rfl,rfl,σ,hi,hn4,akW,akX⟩
 refine il I<|wD (fun wU=>?_) fun wU=>?_
 ·have fh:i<u.n:=ae
  obtain ⟨⟨pa,pb⟩,eG⟩:∃e,u.ps[i]?=some e:=⟨_,ag ae⟩
  exact iT I I<|vE I (fun η=>aX (i:=i) η underlying22 (aO.size) I I ae I (show (jD u.Ap u.n u.cp u.ps).P _ from σ.dw).1)<|cE I (fun η=>cX (v:=#[aG pa,aG pb]) (i:=i) (e:=(pa,pb)) η aO I I iX (show (jD u.Ap u.n u.cp u.ps).P _ from σ.dw).1 ae eG I)<|eE I<|iR b6 σ I fun _ xW σ=>eE I<|fB 0 σ I fun _ σ=>lE 0 σ I<|vE I (fun η=>dS (m:=y8 pa) η I underlying3 underlying5 (ij _))<|lE 0 σ I<|vE I (fun η=>dS (m:=y8 pb) η I underlying3 underlying5 (ij _))<|eE I<|mi (z:=1) #[.int .u8 (y8 pa),.int .u8 (y8 pb)] σ (dX.size) iN I bI fun _ qt σ=>eE I<|oO (new:=[(y8 pa),(y8 pb)]) 2 0 σ kD I (by unfold maxLen; omega) ae fun _ tU JF σ=>can (j:=1) rfl ae<|gI ⟨i+1,(cS tU),JF,(n4+2),(os4++[(y8 pa),(y8 pb)]),rfl,rfl,σ.pick [2,3,4] [0,1,2,3,4,5,6,7] aB,ae,ae,(by rw [akW,WJ,WJ,vG eG,aH]; rfl),(by rw [ai,akX]; rfl)⟩ aT ae
 ·obtain rfl:i=u.n:=ae
  refine iF I I<|eE I<|gV call43 (uY (g:=de)) σ I fun _ σ=>ks (fun mz l w=>∃j:Nat,∃A5:Option Addr,∃c5:Nat,∃n5:Nat,∃P6:List Int,3 - j=mz/\l=[(5,.slice A5 n5 c5),(51,aM j),(50,.agg #[.pointer (some ⟨de,3,none⟩),.pointer (some ⟨de,7,none⟩),.pointer (some ⟨de,11,none⟩)])]/\St w0 w [fc dD 5 1 A5 n5 c5 (fl fY P6),bk jh #[.int .u8 (y8 ((u.k1:Nat):Int)),.int .u8 (y8 ((u.k2:Nat):Int)),.int .u8 (y8 ((u.n:Nat):Int))] 5,bk de (uW u) 30] [bH fY FY 1 (cS eQ) 4 4 ([65,78,86,49]),jD u.Ap u.n u.cp u.ps,fC u.A0 u.n0 u.c0 u.e0,fg u.A1 u.n u.c1 u.e1,fC u.A3 u.n3 u.c3 u.e3,fg u.A4 u.n u.c4 u.e4,fC u.A5 u.n5 u.c5 u.e5,fg u.A6 u.n u.c6 u.e6]/\j<=3/\n5<=100+j*100000/\P6=qF u j/\P6.length=n5) ⟨0,A4,c4,n4,os4,I,I,σ,(av _),ae,akW,akX⟩ aT ?_
  rintro _ _ _ ⟨j,A5,c5,n5,P6,rfl,rfl,σ,hj,hn5,VZ,Dx⟩
  rcases (show j=0∨j=1∨j=2∨j=3 by omega) with rfl|rfl|rfl|rfl
  ·refine il I<|kB (b':=true) aB<|iT I I<|vE I (fun η=>lF (v:=some ⟨de,3,none⟩) 0 η underlying112 eC I I aB I)<|lj [12] [0,4,8,12,17,20,24,28,32,37,40,46,50,52] bI σ fun _ σ=>lS 2 I<|vE I (fun η=>dS (m:=y8 ((u.k1:Nat):Int)) η I underlying3 underlying5 (ij _))<|lS 2 I<|vE I (fun η=>dS (m:=y8 ((u.gL:Nat):Int)) η I underlying3 underlying5 (ij _))<|eS I<|mi (z:=1) #[.int .u8 (y8 ((u.k1:Nat):Int)),.int .u8 (y8 ((u.gL:Nat):Int))] σ (dX.size) iN I bI fun _ D8 σ=>sk (σ.kd 1 0)<|eS I<|oO (new:=[(y8 ((u.k1:Nat):Int)),(y8 ((u.gL:Nat):Int))]) 1 0 σ kD I (by unfold maxLen; omega) ae fun _ WA c63 σ=>sz rfl<|lE 3 σ rfl<|eE rfl<|fk call44 (tC (x:=((u.n0:Nat):Int)) (σ.cF (k:=1) rfl []) (by rw [ai,Dx]; rfl) ae) rfl ?_
   rintro _ _ ⟨A64,TO,rfl,Iu⟩
   refine ⟨_,I,?_⟩
   replace σ:=σ.kL (k:=1) I Iu
   refine lE 3 σ I<|ks (fun mz l w=>∃x:Nat,∃A6:Option Addr,∃c6:Nat,∃n6:Nat,∃CY:List Int,u.n0 - x=mz/\l=[(5,.slice A6 n6 c6),(79,aM x),(9,.pointer (some ⟨de,3,none⟩)),(50,.agg #[.pointer (some ⟨de,3,none⟩),.pointer (some ⟨de,7,none⟩),.pointer (some ⟨de,11,none⟩)]),(51,aM 0),(77,.slice u.A0 u.n0 u.c0),(78,aM u.n0)]/\St w0 w [fc dD 5 1 A6 n6 c6 (fl fY CY),bk D8 #[.int .u8 (y8 ((u.k1:Nat):Int)),.int .u8 (y8 ((u.gL:Nat):Int))] 5,bk jh #[.int .u8 (y8 ((u.k1:Nat):Int)),.int .u8 (y8 ((u.k2:Nat):Int)),.int .u8 (y8 ((u.n:Nat):Int))] 5,bk de (uW u) 30] [bH fY FY 1 (cS eQ) 4 4 ([65,78,86,49]),jD u.Ap u.n u.cp u.ps,fC u.A0 u.n0 u.c0 u.e0,fg u.A1 u.n u.c1 u.e1,fC u.A3 u.n3 u.c3 u.e3,fg u.A4 u.n u.c4 u.e4,fC u.A5 u.n5 u.c5 u.e5,fg u.A6 u.n u.c6 u.e6]/\x<=u.n0/\n6=n5+4+6*x/\CY=P6++[y8 (u.k1:Nat),y8 (u.gL:Nat)]++nH (u.n0:Nat)++(u.e0.take x).flatMap LI/\CY.length=n6) ⟨0,A64,TO,((n5+2)+2),((P6++[(y8 ((u.k1:Nat):Int)),(y8 ((u.gL:Nat):Int))])++nH ((u.n0:Nat):Int)),I,I,σ.pick [1,0,2,3] [0,1,2,3,4,5,6,7] aB,(av _),ae,(by rw [jI,List.flatMap_nil,bq]),(by simp [Dx,nH])⟩ aT ?_
   rintro _ _ _ ⟨x,A6,c6,n6,CY,rfl,rfl,σ,hx,hn6,CZ,C0⟩
   refine il I<|wD (fun WH=>?_) fun WH=>?_
   ·have fh:x<u.n0:=ae
    obtain ⟨⟨op,tr,ra,rb,cn⟩,kf⟩:∃e,u.e0[x]?=some e:=⟨_,ag ae⟩
    refine iT I I<|vE I (fun η=>aX (i:=x) η underlying25 (aF.size) I I ae I (show (fC u.A0 u.n0 u.c0 u.e0).P _ from σ.fX).1)<|cE I (fun η=>cX (v:=#[aG op,aG tr,aG ra,aG rb,aG cn]) (i:=x) (e:=(op,tr,ra,rb,cn)) η aF I I lL (show (fC u.A0 u.n0 u.c0 u.e0).P _ from σ.fX).1 ae kf I)<|eE I<|iR bm σ I fun _ g68 σ=>eE I<|fB 0 σ I fun _ σ=>lE 0 σ I<|vE I (fun η=>dS (m:=y8 op) η I underlying3 underlying5 (ij _))<|lE 0 σ I<|vE I (fun η=>dS (m:=y8 tr) η I underlying3 underlying5 (ij _))<|lE 0 σ I<|vE I (fun η=>dS (m:=y8 ra) η I underlying3 underlying5 (ij _))<|lE 0 σ I<|vE I (fun η=>dS (m:=y8 rb) η I underlying3 underlying5 (ij _))<|eE I<|mi (z:=1) #[.int .u8 (y8 op),.int .u8 (y8 tr),.int .u8 (y8 ra),.int .u8 (y8 rb)] σ (dX.size) iN I bI fun _ g69 σ=>eE I<|oO (new:=[(y8 op),(y8 tr),(y8 ra),(y8 rb)]) 2 0 σ kD I (by unfold maxLen; omega) ae fun _ g70 X7 σ=>lE 1 σ rfl<|eE rfl<|fk call44 (tC (x:=cn) (σ.cF (k:=2) rfl []) (by rw [ai,C0]; rfl) ae) rfl ?_
    rintro _ _ ⟨Wy,Wz,rfl,Fm⟩
    refine ⟨_,I,?_⟩
    replace σ:=σ.kL (k:=2) I Fm
    exact can (j:=1) I ae<|gI ⟨x+1,Wy,Wz,(n6+6),((CY++[(y8 op),(y8 tr),(y8 ra),(y8 rb)])++nH cn),I,I,σ.pick [2,3,4,5] [0,1,2,3,4,5,6,7] aB,ae,ae,(by rw [CZ,vG kf]; simp only [LI,aH]),(by rw [ai,ai,C0]; rfl)⟩ aT ae
   ·rw [ax (show u.e0.length<=x by omega)] at CZ
    refine iF I I<|lE 3 σ I<|vE I (fun η=>dS (m:=y8 ((u.n:Nat):Int)) η I underlying3 underlying5 (ij _))<|eE I<|mi (z:=1) #[.int .u8 (y8 ((u.n:Nat):Int))] σ (dX.size) iN I bI fun _ g75 σ=>eE I<|oO (new:=[(y8 ((u.n:Nat):Int))]) 1 0 σ kD I (by unfold maxLen; omega) ae fun _ g76 YF σ=>lE 4 σ rfl<|ks (fun mz l w=>∃y:Nat,∃A7:Option Addr,∃c7:Nat,∃n7:Nat,∃C1:List Int,u.n - y=mz/\l=[(5,.slice A7 n7 c7),(117,aM y),(50,.agg #[.pointer (some ⟨de,3,none⟩),.pointer (some ⟨de,7,none⟩),.pointer (some ⟨de,11,none⟩)]),(51,aM 0),(115,.slice u.A1 u.n u.c1),(116,aM u.n)]/\St w0 w [fc dD 5 1 A7 n7 c7 (fl fY C1),bk g75 #[.int .u8 (y8 ((u.n:Nat):Int))] 5,bk D8 #[.int .u8 (y8 ((u.k1:Nat):Int)),.int .u8 (y8 ((u.gL:Nat):Int))] 5,bk jh #[.int .u8 (y8 ((u.k1:Nat):Int)),.int .u8 (y8 ((u.k2:Nat):Int)),.int .u8 (y8 ((u.n:Nat):Int))] 5,bk de (uW u) 30] [bH fY FY 1 (cS eQ) 4 4 ([65,78,86,49]),jD u.Ap u.n u.cp u.ps,fC u.A0 u.n0 u.c0 u.e0,fg u.A1 u.n u.c1 u.e1,fC u.A3 u.n3 u.c3 u.e3,fg u.A4 u.n u.c4 u.e4,fC u.A5 u.n5 u.c5 u.e5,fg u.A6 u.n u.c6 u.e6]/\y<=u.n/\n7=n6+1+y/\C1=CY++[y8 (u.n:Nat)]++(u.e1.take y).map y8/\C1.length=n7) ⟨0,(cS g76),YF,(n6+1),(CY++[(y8 ((u.n:Nat):Int))]),rfl,rfl,σ.pick [1,0,2,3,4] [0,1,2,3,4,5,6,7] aB,(av _),ae,fW,(by simp [C0])⟩ aT ?_
    rintro _ _ _ ⟨y,A7,c7,n7,C1,rfl,rfl,σ,hy,hn7,C2,Jq⟩
    refine il I<|wD (fun h78=>?_) fun h78=>?_
    ·have fh:y<u.n:=ae
     obtain ⟨rr,vQ⟩:∃e,u.e1[y]?=some e:=⟨_,ag ae⟩
     exact iT I I<|vE I (fun η=>aX (i:=y) η underlying26 (bn.size) I I ae I (show (fg u.A1 u.n u.c1 u.e1).P _ from σ.kC).1)<|cE I (fun η=>bE (i:=y) (j:=0) (e:=rr) η bn I I di aB (show (fg u.A1 u.n u.c1 u.e1).P _ from σ.kC).1 ae vQ I)<|vE I (fun η=>dS (m:=y8 rr) η I underlying3 underlying5 (ij _))<|eE I<|mi (z:=1) #[.int .u8 (y8 rr)] σ (dX.size) iN I bI fun _ g79 σ=>eE I<|oO (new:=[(y8 rr)]) 1 0 σ kD I (by unfold maxLen; omega) ae fun _ g80 c81 σ=>can (j:=1) rfl ae<|gI ⟨y+1,(cS g80),c81,(n7+1),(C1++[(y8 rr)]),rfl,rfl,σ.pick [1,2,3,4,5] [0,1,2,3,4,5,6,7] aB,ae,ae,(by rw [C2,take_one vQ,cD,aH]; rfl),(by rw [ai,Jq]; rfl)⟩ aT ae
    ·rw [ax (show u.e1.length<=y by omega),CZ] at C2
     have V0:C1=qF u 1:=by rw [C2,VZ]; simp only [qF,tX,hl0,mJ,aH]
     have V1:=Jq
     exact iF I I<|can (i:=0) (j:=1) I ae<|gI ⟨1,A7,c7,n7,C1,I,I,σ.pick [0,3,4] [0,1,2,3,4,5,6,7] aB,ae,ae,V0,V1⟩ aT ae
  ·refine il I<|kB (b':=true) aB<|iT I I<|vE I (fun η=>lF (v:=some ⟨de,7,none⟩) 1 η underlying112 eC I I aB I)<|lj [12] [0,4,8,12,17,20,24,28,32,37,40,46,50,52] bI σ fun _ σ=>lS 2 I<|vE I (fun η=>dS (m:=y8 ((u.k2:Nat):Int)) η I underlying3 underlying5 (ij _))<|lS 2 I<|vE I (fun η=>dS (m:=y8 ((u.gR:Nat):Int)) η I underlying3 underlying5 (ij _))<|eS I<|mi (z:=1) #[.int .u8 (y8 ((u.k2:Nat):Int)),.int .u8 (y8 ((u.gR:Nat):Int))] σ (dX.size) iN I bI fun _ g82 σ=>sk (σ.kd 1 0)<|eS I<|oO (new:=[(y8 ((u.k2:Nat):Int)),(y8 ((u.gR:Nat):Int))]) 1 0 σ kD I (by unfold maxLen; omega) ae fun _ g83 c84 σ=>sz rfl<|lE 3 σ rfl<|eE rfl<|fk call44 (tC (x:=((u.n3:Nat):Int)) (σ.cF (k:=1) rfl []) (by rw [ai,Dx]; rfl) ae) rfl ?_
   rintro _ _ ⟨A85,c86,rfl,TN⟩
   refine ⟨_,I,?_⟩
   replace σ:=σ.kL (k:=1) I TN
   refine lE 3 σ I<|ks (fun mz l w=>∃x:Nat,∃A6:Option Addr,∃c6:Nat,∃n6:Nat,∃CY:List Int,u.n3 - x=mz/\l=[(5,.slice A6 n6 c6),(79,aM x),(9,.pointer (some ⟨de,7,none⟩)),(50,.agg #[.pointer (some ⟨de,3,none⟩),.pointer (some ⟨de,7,none⟩),.pointer (some ⟨de,11,none⟩)]),(51,aM 1),(77,.slice u.A3 u.n3 u.c3),(78,aM u.n3)]/\St w0 w [fc dD 5 1 A6 n6 c6 (fl fY CY),bk g82 #[.int .u8 (y8 ((u.k2:Nat):Int)),.int .u8 (y8 ((u.gR:Nat):Int))] 5,bk jh #[.int .u8 (y8 ((u.k1:Nat):Int)),.int .u8 (y8 ((u.k2:Nat):Int)),.int .u8 (y8 ((u.n:Nat):Int))] 5,bk de (uW u) 30] [bH fY FY 1 (cS eQ) 4 4 ([65,78,86,49]),jD u.Ap u.n u.cp u.ps,fC u.A0 u.n0 u.c0 u.e0,fg u.A1 u.n u.c1 u.e1,fC u.A3 u.n3 u.c3 u.e3,fg u.A4 u.n u.c4 u.e4,fC u.A5 u.n5 u.c5 u.e5,fg u.A6 u.n u.c6 u.e6]/\x<=u.n3/\n6=n5+4+6*x/\CY=P6++[y8 (u.k2:Nat),y8 (u.gR:Nat)]++nH (u.n3:Nat)++(u.e3.take x).flatMap LI/\CY.length=n6) ⟨0,A85,c86,((n5+2)+2),((P6++[(y8 ((u.k2:Nat):Int)),(y8 ((u.gR:Nat):Int))])++nH ((u.n3:Nat):Int)),I,I,σ.pick [1,0,2,3] [0,1,2,3,4,5,6,7] aB,(av _),ae,(by rw [jI,List.flatMap_nil,bq]),(by simp [Dx,nH])⟩ aT ?_
   rintro _ _ _ ⟨x,A6,c6,n6,CY,rfl,rfl,σ,hx,hn6,CZ,C0⟩
   refine il I<|wD (fun h88=>?_) fun h88=>?_
   ·have fh:x<u.n3:=ae
    obtain ⟨⟨op,tr,ra,rb,cn⟩,kf⟩:∃e,u.e3[x]?=some e:=⟨_,ag ae⟩
    refine iT I I<|vE I (fun η=>aX (i:=x) η underlying25 (aF.size) I I ae I (show (fC u.A3 u.n3 u.c3 u.e3).P _ from σ.nX).1)<|cE I (fun η=>cX (v:=#[aG op,aG tr,aG ra,aG rb,aG cn]) (i:=x) (e:=(op,tr,ra,rb,cn)) η aF I I lL (show (fC u.A3 u.n3 u.c3 u.e3).P _ from σ.nX).1 ae kf I)<|eE I<|iR bm σ I fun _ g89 σ=>eE I<|fB 0 σ I fun _ σ=>lE 0 σ I<|vE I (fun η=>dS (m:=y8 op) η I underlying3 underlying5 (ij _))<|lE 0 σ I<|vE I (fun η=>dS (m:=y8 tr) η I underlying3 underlying5 (ij _))<|lE 0 σ I<|vE I (fun η=>dS (m:=y8 ra) η I underlying3 underlying5 (ij _))<|lE 0 σ I<|vE I (fun η=>dS (m:=y8 rb) η I underlying3 underlying5 (ij _))<|eE I<|mi (z:=1) #[.int .u8 (y8 op),.int .u8 (y8 tr),.int .u8 (y8 ra),.int .u8 (y8 rb)] σ (dX.size) iN I bI fun _ g90 σ=>eE I<|oO (new:=[(y8 op),(y8 tr),(y8 ra),(y8 rb)]) 2 0 σ kD I (by unfold maxLen; omega) ae fun _ g91 c92 σ=>lE 1 σ rfl<|eE rfl<|fk call44 (tC (x:=cn) (σ.cF (k:=2) rfl []) (by rw [ai,C0]; rfl) ae) rfl ?_
    rintro _ _ ⟨A93,c94,rfl,ae4⟩
    refine ⟨_,I,?_⟩
    replace σ:=σ.kL (k:=2) I ae4
    exact can (j:=1) I ae<|gI ⟨x+1,A93,c94,(n6+6),((CY++[(y8 op),(y8 tr),(y8 ra),(y8 rb)])++nH cn),I,I,σ.pick [2,3,4,5] [0,1,2,3,4,5,6,7] aB,ae,ae,(by rw [CZ,vG kf]; simp only [LI,aH]),(by rw [ai,ai,C0]; rfl)⟩ aT ae
   ·rw [ax (show u.e3.length<=x by omega)] at CZ
    refine iF I I<|lE 3 σ I<|vE I (fun η=>dS (m:=y8 ((u.n:Nat):Int)) η I underlying3 underlying5 (ij _))<|eE I<|mi (z:=1) #[.int .u8 (y8 ((u.n:Nat):Int))] σ (dX.size) iN I bI fun _ g96 σ=>eE I<|oO (new:=[(y8 ((u.n:Nat):Int))]) 1 0 σ kD I (by unfold maxLen; omega) ae fun _ g97 c98 σ=>lE 4 σ rfl<|ks (fun mz l w=>∃y:Nat,∃A7:Option Addr,∃c7:Nat,∃n7:Nat,∃C1:List Int,u.n - y=mz/\l=[(5,.slice A7 n7 c7),(117,aM y),(50,.agg #[.pointer (some ⟨de,3,none⟩),.pointer (some ⟨de,7,none⟩),.pointer (some ⟨de,11,none⟩)]),(51,aM 1),(115,.slice u.A4 u.n u.c4),(116,aM u.n)]/\St w0 w [fc dD 5 1 A7 n7 c7 (fl fY C1),bk g96 #[.int .u8 (y8 ((u.n:Nat):Int))] 5,bk g82 #[.int .u8 (y8 ((u.k2:Nat):Int)),.int .u8 (y8 ((u.gR:Nat):Int))] 5,bk jh #[.int .u8 (y8 ((u.k1:Nat):Int)),.int .u8 (y8 ((u.k2:Nat):Int)),.int .u8 (y8 ((u.n:Nat):Int))] 5,bk de (uW u) 30] [bH fY FY 1 (cS eQ) 4 4 ([65,78,86,49]),jD u.Ap u.n u.cp u.ps,fC u.A0 u.n0 u.c0 u.e0,fg u.A1 u.n u.c1 u.e1,fC u.A3 u.n3 u.c3 u.e3,fg u.A4 u.n u.c4 u.e4,fC u.A5 u.n5 u.c5 u.e5,fg u.A6 u.n u.c6 u.e6]/\y<=u.n/\n7=n6+1+y/\C1=CY++[y8 (u.n:Nat)]++(u.e4.take y).map y8/\C1.length=n7) ⟨0,(cS g97),c98,(n6+1),(CY++[(y8 ((u.n:Nat):Int))]),rfl,rfl,σ.pick [1,0,2,3,4] [0,1,2,3,4,5,6,7] aB,(av _),ae,fW,(by simp [C0])⟩ aT ?_
    rintro _ _ _ ⟨y,A7,c7,n7,C1,rfl,rfl,σ,hy,hn7,C2,Jq⟩
    refine il I<|wD (fun h99=>?_) fun h99=>?_
    ·have fh:y<u.n:=ae
     obtain ⟨rr,vQ⟩:∃e,u.e4[y]?=some e:=⟨_,ag ae⟩
     exact iT I I<|vE I (fun η=>aX (i:=y) η underlying26 (bn.size) I I ae I (show (fg u.A4 u.n u.c4 u.e4).P _ from σ.rK).1)<|cE I (fun η=>bE (i:=y) (j:=0) (e:=rr) η bn I I di aB (show (fg u.A4 u.n u.c4 u.e4).P _ from σ.rK).1 ae vQ I)<|vE I (fun η=>dS (m:=y8 rr) η I underlying3 underlying5 (ij _))<|eE I<|mi (z:=1) #[.int .u8 (y8 rr)] σ (dX.size) iN I bI fun _ ajD σ=>eE I<|oO (new:=[(y8 rr)]) 1 0 σ kD I (by unfold maxLen; omega) ae fun _ aqX aqY σ=>can (j:=1) rfl ae<|gI ⟨y+1,(cS aqX),aqY,(n7+1),(C1++[(y8 rr)]),rfl,rfl,σ.pick [1,2,3,4,5] [0,1,2,3,4,5,6,7] aB,ae,ae,(by rw [C2,take_one vQ,cD,aH]; rfl),(by rw [ai,Jq]; rfl)⟩ aT ae
    ·rw [ax (show u.e4.length<=y by omega),CZ] at C2
     have V0:C1=qF u 2:=by rw [C2,VZ]; simp only [qF,tX,ua,Hj,aH]
     have V1:=Jq
     exact iF I I<|can (i:=1) (j:=1) I ae<|gI ⟨2,A7,c7,n7,C1,I,I,σ.pick [0,3,4] [0,1,2,3,4,5,6,7] aB,ae,ae,V0,V1⟩ aT ae
  ·refine il I<|kB (b':=true) aB<|iT I I<|vE I (fun η=>lF (v:=some ⟨de,11,none⟩) 2 η underlying112 eC I I aB I)<|lj [12] [0,4,8,12,17,20,24,28,32,37,40,46,50,52] bI σ fun _ σ=>lS 2 I<|vE I (fun η=>dS (m:=y8 ((u.n:Nat):Int)) η I underlying3 underlying5 (ij _))<|lS 2 I<|vE I (fun η=>dS (m:=y8 ((u.gB:Nat):Int)) η I underlying3 underlying5 (ij _))<|eS I<|mi (z:=1) #[.int .u8 (y8 ((u.n:Nat):Int)),.int .u8 (y8 ((u.gB:Nat):Int))] σ (dX.size) iN I bI fun _ Y5 σ=>sk (σ.kd 1 0)<|eS I<|oO (new:=[(y8 ((u.n:Nat):Int)),(y8 ((u.gB:Nat):Int))]) 1 0 σ kD I (by unfold maxLen; omega) ae fun _ ayi ayj σ=>sz rfl<|lE 3 σ rfl<|eE rfl<|fk call44 (tC (x:=((u.n5:Nat):Int)) (σ.cF (k:=1) rfl []) (by rw [ai,Dx]; rfl) ae) rfl ?_
   rintro _ _ ⟨aqZ,aq0,rfl,akY⟩
   refine ⟨_,I,?_⟩
   replace σ:=σ.kL (k:=1) I akY
   refine lE 3 σ I<|ks (fun mz l w=>∃x:Nat,∃A6:Option Addr,∃c6:Nat,∃n6:Nat,∃CY:List Int,u.n5 - x=mz/\l=[(5,.slice A6 n6 c6),(79,aM x),(9,.pointer (some ⟨de,11,none⟩)),(50,.agg #[.pointer (some ⟨de,3,none⟩),.pointer (some ⟨de,7,none⟩),.pointer (some ⟨de,11,none⟩)]),(51,aM 2),(77,.slice u.A5 u.n5 u.c5),(78,aM u.n5)]/\St w0 w [fc dD 5 1 A6 n6 c6 (fl fY CY),bk Y5 #[.int .u8 (y8 ((u.n:Nat):Int)),.int .u8 (y8 ((u.gB:Nat):Int))] 5,bk jh #[.int .u8 (y8 ((u.k1:Nat):Int)),.int .u8 (y8 ((u.k2:Nat):Int)),.int .u8 (y8 ((u.n:Nat):Int))] 5,bk de (uW u) 30] [bH fY FY 1 (cS eQ) 4 4 ([65,78,86,49]),jD u.Ap u.n u.cp u.ps,fC u.A0 u.n0 u.c0 u.e0,fg u.A1 u.n u.c1 u.e1,fC u.A3 u.n3 u.c3 u.e3,fg u.A4 u.n u.c4 u.e4,fC u.A5 u.n5 u.c5 u.e5,fg u.A6 u.n u.c6 u.e6]/\x<=u.n5/\n6=n5+4+6*x/\CY=P6++[y8 (u.n:Nat),y8 (u.gB:Nat)]++nH (u.n5:Nat)++(u.e5.take x).flatMap LI/\CY.length=n6) ⟨0,aqZ,aq0,((n5+2)+2),((P6++[(y8 ((u.n:Nat):Int)),(y8 ((u.gB:Nat):Int))])++nH ((u.n5:Nat):Int)),I,I,σ.pick [1,0,2,3] [0,1,2,3,4,5,6,7] aB,(av _),ae,(by rw [jI,List.flatMap_nil,bq]),(by simp [Dx,nH])⟩ aT ?_
   rintro _ _ _ ⟨x,A6,c6,n6,CY,rfl,rfl,σ,hx,hn6,CZ,C0⟩
   refine il I<|wD (fun aq1=>?_) fun aq1=>?_
   ·have fh:x<u.n5:=ae
    obtain ⟨⟨op,tr,ra,rb,cn⟩,kf⟩:∃e,u.e5[x]?=some e:=⟨_,ag ae⟩
    refine iT I I<|vE I (fun η=>aX (i:=x) η underlying25 (aF.size) I I ae I (show (fC u.A5 u.n5 u.c5 u.e5).P _ from σ.rX).1)<|cE I (fun η=>cX (v:=#[aG op,aG tr,aG ra,aG rb,aG cn]) (i:=x) (e:=(op,tr,ra,rb,cn)) η aF I I lL (show (fC u.A5 u.n5 u.c5 u.e5).P _ from σ.rX).1 ae kf I)<|eE I<|iR bm σ I fun _ ayk σ=>eE I<|fB 0 σ I fun _ σ=>lE 0 σ I<|vE I (fun η=>dS (m:=y8 op) η I underlying3 underlying5 (ij _))<|lE 0 σ I<|vE I (fun η=>dS (m:=y8 tr) η I underlying3 underlying5 (ij _))<|lE 0 σ I<|vE I (fun η=>dS (m:=y8 ra) η I underlying3 underlying5 (ij _))<|lE 0 σ I<|vE I (fun η=>dS (m:=y8 rb) η I underlying3 underlying5 (ij _))<|eE I<|mi (z:=1) #[.int .u8 (y8 op),.int .u8 (y8 tr),.int .u8 (y8 ra),.int .u8 (y8 rb)] σ (dX.size) iN I bI fun _ ayl σ=>eE I<|oO (new:=[(y8 op),(y8 tr),(y8 ra),(y8 rb)]) 2 0 σ kD I (by unfold maxLen; omega) ae fun _ aym ayn σ=>lE 1 σ rfl<|eE rfl<|fk call44 (tC (x:=cn) (σ.cF (k:=2) rfl []) (by rw [ai,C0]; rfl) ae) rfl ?_
    rintro _ _ ⟨aq2,aq3,rfl,akZ⟩
    refine ⟨_,I,?_⟩
    replace σ:=σ.kL (k:=2) I akZ
    exact can (j:=1) I ae<|gI ⟨x+1,aq2,aq3,(n6+6),((CY++[(y8 op),(y8 tr),(y8 ra),(y8 rb)])++nH cn),I,I,σ.pick [2,3,4,5] [0,1,2,3,4,5,6,7] aB,ae,ae,(by rw [CZ,vG kf]; simp only [LI,aH]),(by rw [ai,ai,C0]; rfl)⟩ aT ae
   ·rw [ax (show u.e5.length<=x by omega)] at CZ
    refine iF I I<|lE 3 σ I<|vE I (fun η=>dS (m:=y8 ((u.n:Nat):Int)) η I underlying3 underlying5 (ij _))<|eE I<|mi (z:=1) #[.int .u8 (y8 ((u.n:Nat):Int))] σ (dX.size) iN I bI fun _ aq4 σ=>eE I<|oO (new:=[(y8 ((u.n:Nat):Int))]) 1 0 σ kD I (by unfold maxLen; omega) ae fun _ aq5 aq6 σ=>lE 4 σ rfl<|ks (fun mz l w=>∃y:Nat,∃A7:Option Addr,∃c7:Nat,∃n7:Nat,∃C1:List Int,u.n - y=mz/\l=[(5,.slice A7 n7 c7),(117,aM y),(50,.agg #[.pointer (some ⟨de,3,none⟩),.pointer (some ⟨de,7,none⟩),.pointer (some ⟨de,11,none⟩)]),(51,aM 2),(115,.slice u.A6 u.n u.c6),(116,aM u.n)]/\St w0 w [fc dD 5 1 A7 n7 c7 (fl fY C1),bk aq4 #[.int .u8 (y8 ((u.n:Nat):Int))] 5,bk Y5 #[.int .u8 (y8 ((u.n:Nat):Int)),.int .u8 (y8 ((u.gB:Nat):Int))] 5,bk jh #[.int .u8 (y8 ((u.k1:Nat):Int)),.int .u8 (y8 ((u.k2:Nat):Int)),.int .u8 (y8 ((u.n:Nat):Int))] 5,bk de (uW u) 30] [bH fY FY 1 (cS eQ) 4 4 ([65,78,86,49]),jD u.Ap u.n u.cp u.ps,fC u.A0 u.n0 u.c0 u.e0,fg u.A1 u.n u.c1 u.e1,fC u.A3 u.n3 u.c3 u.e3,fg u.A4 u.n u.c4 u.e4,fC u.A5 u.n5 u.c5 u.e5,fg u.A6 u.n u.c6 u.e6]/\y<=u.n/\n7=n6+1+y/\C1=CY++[y8 (u.n:Nat)]++(u.e6.take y).map y8/\C1.length=n7) ⟨0,(cS aq5),aq6,(n6+1),(CY++[(y8 ((u.n:Nat):Int))]),rfl,rfl,σ.pick [1,0,2,3,4] [0,1,2,3,4,5,6,7] aB,(av _),ae,fW,(by simp [C0])⟩ aT ?_
    rintro _ _ _ ⟨y,A7,c7,n7,C1,rfl,rfl,σ,hy,hn7,C2,Jq⟩
    refine il I<|wD (fun aq7=>?_) fun aq7=>?_
    ·have fh:y<u.n:=ae
     obtain ⟨rr,vQ⟩:∃e,u.e6[y]?=some e:=⟨_,ag ae⟩
     exact iT I I<|vE I (fun η=>aX (i:=y) η underlying26 (bn.size) I I ae I (show (fg u.A6 u.n u.c6 u.e6).P _ from (σ.pat (k:=7) I)).1)<|cE I (fun η=>bE (i:=y) (j:=0) (e:=rr) η bn I I di aB (show (fg u.A6 u.n u.c6 u.e6).P _ from (σ.pat (k:=7) I)).1 ae vQ I)<|vE I (fun η=>dS (m:=y8 rr) η I underlying3 underlying5 (ij _))<|eE I<|mi (z:=1) #[.int .u8 (y8 rr)] σ (dX.size) iN I bI fun _ ayo σ=>eE I<|oO (new:=[(y8 rr)]) 1 0 σ kD I (by unfold maxLen; omega) ae fun _ aq8 aq9 σ=>can (j:=1) rfl ae<|gI ⟨y+1,(cS aq8),aq9,(n7+1),(C1++[(y8 rr)]),rfl,rfl,σ.pick [1,2,3,4,5] [0,1,2,3,4,5,6,7] aB,ae,ae,(by rw [C2,take_one vQ,cD,aH]; rfl),(by rw [ai,Jq]; rfl)⟩ aT ae
    ·rw [ax (show u.e6.length<=y by omega),CZ] at C2
     have V0:C1=qF u 3:=by rw [C2,VZ]; simp only [qF,tX,WB,hl6,aH]
     have V1:=Jq
     exact iF I I<|can (i:=2) (j:=1) I ae<|gI ⟨3,A7,c7,n7,C1,I,I,σ.pick [0,3,4] [0,1,2,3,4,5,6,7] aB,ae,ae,V0,V1⟩ aT ae
  ·refine il I<|kB (b':=false) aB<|iF I I<|eE I<|gV call45 (Jp (qi (f:=fY) σ.jr Dx) (fun x hx=>VY (by rw [<- VZ]; exact hx)) ae) σ rfl fun _ σ=>eE rfl<|fk call44 (tC (x:=(((Db P6 n5):Nat):Int)) (σ.cF (k:=0) rfl []) Dx ae) rfl ?_
   rintro _ _ ⟨ayp,ayq,rfl,UI⟩
   refine ⟨_,I,?_⟩
   replace σ:=σ.kL (k:=0) I UI
   refine o2 results23 I<|?_
   have h9:P6++nH ((Db P6 n5:Nat):Int)=GJ u:=by rw [GJ,<- VZ,Dx]
   rw [h9] at σ
   exact ⟨_,_,_,I,σ.pick [0] [] aB,by rw [<- h9,ai,Dx]; rfl⟩
theorem St.rQ {w':World} {own ps:List PF} {o e:PF} (h:St w0 w own ps) (hk:own[k]?=some o) (hj:own[j]?=some e) (u5:j≠k) (hr:(dA w o).P w'):e.P w':=
 e.keep (h.owns hj) hr.1 fun b hb=>hr.2 b (e.lt (h.owns hj) hb) fun ho=>by
  have h1:=(aE.1 hk)
  have h2:=(aE.1 hj)
  have hp:=fH.1 h.nd
  rcases Nat.lt_or_gt_of_ne u5 with q | q
  ·have:=hp j k h2.1 h1.1 q b
   rw [h1.2,h2.2] at this
   exact this hb ho
  ·have:=hp k j h1.1 h2.1 q b
   rw [h1.2,h2.2] at this
   exact this ho hb
def s8 (x:Int):Int:=if x<128 then x else x - 256
theorem aah (h:0<=x/\x<256):IntKind.i8.wrap x=s8 x:=by
 have e:IntKind.i8.wrap x=if x%256>=128 then x%256 - 256 else x%256:=by
  show (if (true && decide (x%256>=128))=true then x%256 - 256 else x%256)=_
  simp
 rw [e]
 unfold s8
 split<;>split<;>omega
theorem ak0 (h:0<=x/\x<256):IntKind.i64.wrap (s8 x)=s8 x:=IntWalk.i64_in _ (by unfold s8; split<;>omega)
theorem vH {pz:Nat} (hS:St w0 w1 [bk gr #[.slice A n c,aM pz,.bool false] 157] [dA w1 (bk gr #[.slice A n c,aM pz,.bool false] 157),bH fY FY 1 A n c bs]) (hx:bs[pz]?=some x) (h8:0<=x/\x<256) {f:FuncId} {caps:Array Value} (hf:∀args w,(callFunc f args).run prog w=.ok (.enter f args) w) (hc:∀w,(dA w1 (bk gr #[.slice A n c,aM pz,.bool false] 157)).P w->Calls prog f (#[aG x]++caps) w fun e w'=>e=.returned (.bool true)/\Below w.heap.size w w'):
  Calls prog 122 #[cY gr,.func (.func f) #[] caps] w1 fun e w'=>e=.returned (aG x)/\St w0 w' [bk gr #[.slice A n c,aM (pz+1),.bool false] 157] [dA w1 (bk gr #[.slice A n c,aM pz,.bool false] 157)]:=by
 refine gQ func122 I ntmps122 I fun σ=>?_
 replace σ:=hS
 have nD:=hS.pat (k:=1) rfl
 have hlen:=nD.2.1
 have OG:=nD.1.cap
 have sK:=nD.1.big
 unfold maxLen at sK
 have G6:pz<n:=by have:=(aE.1 hx).1; omega
 refine lj [] [0,4,8,13,16,20,24,28,33,36,40,44,49,52,56,60,64,68,72,76,80,85,88,92,96,101,104,109,112,118,120,124] bI σ fun _ σ=>lS 0 I<|lS 0 I<|lS 0 I<|gj I<|kB (b':=false) (du.2 ae)<|lS 0 I<|lS 0 I<|vE I (fun η=>aX (i:=pz) η underlying65 (dX.size) I I ae I (show (bH fY FY 1 A n c bs).P _ from σ.dw).1)<|sE I (fun η hg=>bE (i:=pz) (j:=0) (e:=x) η dX I I yT aB (show (bH fY FY 1 A n c bs).P _ from (hg.pt (j:=1) I)).1 ae hx I)<|vE I (fun η=>dS (m:=x) η I underlying5 underlying3 (y64 h8))<|eS I<|sH hf I (hc _ σ.bW) fW ?_
 rintro _ _ ⟨rfl,hb⟩
 refine ⟨_,I,?_⟩
 replace σ:=σ.call hb
 refine sk σ.kn<|iF I I<|lE 0 σ I<|can (j:=1) I ae<|eE I<|mK 0 σ I fun _ σ=>?_
 have Fw:bs[(pz+1) - 1]?=some x:=hx
 exact lj [] [0,4,8,13,16,20,24,29,32,36,41,44,48] bI σ fun _ σ=>lS 0 I<|lS 0 I<|zN (j:=1) I ae<|vE I (fun η=>aX (i:=(pz+1) - 1) η underlying65 (dX.size) I I ae I (show (bH fY FY 1 A n c bs).P _ from σ.dw).1)<|sE I (fun η hg=>bE (i:=(pz+1) - 1) (j:=0) (e:=x) η dX I I yT aB (show (bH fY FY 1 A n c bs).P _ from (hg.pt (j:=1) I)).1 ae Fw I)<|vE I (fun η=>dS (m:=x) η I underlying5 underlying3 (y64 h8))<|o1 results122 I<|⟨I,σ.pick [0] [0] aB⟩
theorem LK {g1 g2:Nat} (h1:(bk g1 #[aG lo] 3).P w0) (h2:(bk g2 #[aG hi] 3).P w0) (C5:lo<=x) (hhi:x<=hi):
  Calls prog 123 #[aG x,cY g1,cY g2] w0 fun e w'=>e=.returned (.bool true)/\Below w0.heap.size w0 w':=by
 refine gQ func123 I ntmps123 I fun σ=>?_
 replace σ:=(σ.lZ _ h2).lZ _ h1
 exact cE I (fun η=>cC η bn I (ou σ.bW) I)<|xo I<|kB (b':=true) (a8 ae)<|cE I (fun η=>cC η bn I (ou σ.dw) I)<|Dn I<|o1 results123 I<|⟨aq (fun b=>Ending.returned (Value.bool b)) (a8 ae),σ.below⟩
theorem ib {pz:Nat} (hS:St w0 w1 [bk gr #[.slice A n c,aM pz,.bool false] 157] [dA w1 (bk gr #[.slice A n c,aM pz,.bool false] 157),bH fY FY 1 A n c bs]) (hx:bs[pz]?=some x) (h8:0<=x/\x<256) (C5:lo<=x) (hhi:x<=hi):
  Calls prog 79 #[cY gr,aG lo,aG hi] w1 fun e w'=>e=.returned (aG x)/\St w0 w' [bk gr #[.slice A n c,aM (pz+1),.bool false] 157] [dA w1 (bk gr #[.slice A n c,aM pz,.bool false] 157)]:=by
 refine gQ func79 I ntmps79 I fun σ=>?_
 replace σ:=hS
 have nD:=hS.pat (k:=1) rfl
 have hlen:=nD.2.1
 have OG:=nD.1.cap
 have sK:=nD.1.big
 unfold maxLen at sK
 have G6:pz<n:=by have:=(aE.1 hx).1; omega
 refine eE I<|ll σ I fun _ de σ=>eE I<|ll σ I fun _ eQ σ=>vE I (fun η=>fi (us:=#[]) (vs:=#[cY de,cY eQ]) η I I)<|eE I<|fk call122 (vH (x:=x) (caps:=#[cY de,cY eQ]) (σ.cF (k:=2) I [1]) hx h8 call123 (fun w9 h9=>LK (σ.rQ (k:=2) (j:=1) I I aB h9) (σ.rQ (k:=2) (j:=0) I I aB h9) C5 hhi)) I ?_
 rintro _ _ ⟨rfl,K1⟩
 refine ⟨_,I,?_⟩
 replace σ:=σ.kL (k:=2) I K1
 exact o1 results79 I<|⟨I,σ.pick [2] [0] aB⟩
theorem LL (hs:x<=16∨240<=x):
  Calls prog 124 #[aG x] w0 fun e w'=>e=.returned (.bool true)/\Below w0.heap.size w0 w':=by
 refine gQ func124 I ntmps124 I fun σ=>Dn I<|wD (fun lC=>?_) fun lC=>?_
 ·exact o1 results124 I<|⟨I,σ.below⟩
 ·exact xo I<|o1 results124 I<|⟨aq (fun b=>Ending.returned (Value.bool b)) (by simp; omega),σ.below⟩
theorem P7 {pz:Nat} (hS:St w0 w1 [bk gr #[.slice A n c,aM pz,.bool false] 157] [dA w1 (bk gr #[.slice A n c,aM pz,.bool false] 157),bH fY FY 1 A n c bs]) (hx:bs[pz]?=some x) (h8:0<=x/\x<256) (hs:x<=16∨240<=x):
  Calls prog 80 #[cY gr] w1 fun e w'=>e=.returned (aG (s8 x))/\St w0 w' [bk gr #[.slice A n c,aM (pz+1),.bool false] 157] [dA w1 (bk gr #[.slice A n c,aM pz,.bool false] 157)]:=by
 refine gQ func80 I ntmps80 I fun σ=>?_
 replace σ:=hS
 have nD:=hS.pat (k:=1) rfl
 have hlen:=nD.2.1
 have OG:=nD.1.cap
 have sK:=nD.1.big
 unfold maxLen at sK
 have G6:pz<n:=by have:=(aE.1 hx).1; omega
 refine eE I<|fk call122 (vH (x:=x) (caps:=#[]) (σ.cF (k:=0) I [1]) hx h8 call124 (fun w9 _=>LL hs)) I ?_
 rintro _ _ ⟨rfl,aq'⟩
 refine ⟨_,I,?_⟩
 replace σ:=σ.kL (k:=0) I aq'
 exact vE I (fun η=>dS (m:=s8 x) η I underlying3 underlying201 (aah h8))<|vE I (fun η=>dS (m:=s8 x) η I underlying201 underlying3 (ak0 h8))<|o1 results80 I<|⟨I,σ.pick [0] [0] aB⟩
end Go.Proofs.YtgopcdagnicekaaGreatDoor.W
