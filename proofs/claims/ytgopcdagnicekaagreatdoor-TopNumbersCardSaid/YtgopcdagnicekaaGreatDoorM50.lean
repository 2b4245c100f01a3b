/- Package exact, over rows. Printed by pv/gen_w5.py. No condition. -/
import Derived.Test.YtgopcdagnicekaaGreatDoorM1
import Derived.Test.YtgopcdagnicekaaGreatDoorM12
import Derived.Test.YtgopcdagnicekaaGreatDoorM43
import Derived.Test.YtgopcdagnicekaaGreatDoorM47
import Derived.Test.YtgopcdagnicekaaGreatDoorM49
import Derived.Test.YtgopcdagnicekaaGreatDoorM6
import Derived.Test.YtgopcdagnicekaaGreatDoorM45
import Derived.Test.YtgopcdagnicekaaGreatDoorM29
import Derived.Test.YtgopcdagnicekaaGreatDoorM44
import Derived.Test.YtgopcdagnicekaaGreatDoorM40
import Derived.Test.YtgopcdagnicekaaGreatDoorM48
import Derived.Test.YtgopcdagnicekaaGreatDoorM7
import Derived.Test.YtgopcdagnicekaaGreatDoorCards
import Derived.Test.YtgopcdagnicekaaGreatDoorTie
import Derived.LaidMore
import Derived.Stop.Joined
import Derived.SevenTiedAt
import Derived.Test.YtgopcdagnicekaaGreatDoorM31
import Derived.Test.YtgopcdagnicekaaGreatDoorM20
import Derived.Test.YtgopcdagnicekaaGreatDoorM19

set_option linter.unusedVariables false
set_option linter.unusedSimpArgs false
set_option linter.all false
set_option maxRecDepth 100000
set_option maxHeartbeats 4000000
namespace Go.Proofs.YtgopcdagnicekaaGreatDoor.W
open Go.RowKit Anv Go.Lib
theorem AU {A0:Option Addr} {n0 c0:Nat} {es0:List NE} {xs:List Int} {M:Option Addr} {d:Nat} {m:Int} {w0:World} (h0:(vh A0 n0 c0 es0).P w0) (jF:es0.map zz=xs) (hM:dK w0 M d m) (hm:zl m<=100) (hk:Zk 90000 xs) (hn:n0<=100000000):
  Calls Tryz.prog 198 #[.slice A0 n0 c0,.agg #[.bool (neg m),.slice M (zl m) d]] w0 fun e w'=>∃v,e=.returned v/\qC w0.heap.size w' v n0 (xs.map (m*·))/\Below w0.heap.size w0 w':=by
 have hzb:=hk.es jF
 subst jF
 refine enter Tryz.func198 rfl Tryz.ntmps198 rfl ?_
 intro a η σ
 replace σ:=σ.eO hM trivial
 have a8:=h0.2.1
 have bW:=bq h0.1.cap h0.1.big
 unfold maxLen at bW
 replace σ:=σ.aE h0
 clear h0
 refine wp_seq (aj ?_)
 refine au rfl (jL (c:=#[.bool (neg m),.slice M (zl m) d]) η σ rfl rfl rfl ?_)
 clear η σ a; intro a Uf bJ η σ
 refine sv (v:=bA) η rfl (aV η rfl) ?_
 clear η a; intro a η
 refine wpList_nil (aT (wp_seq (aj ?_)))
 revert a
 refine mA rfl rfl ?_
 refine sA (v:=.agg #[.bool (neg m),.slice M (zl m) d]) rfl (fun _ η=>dX η ah rfl σ.dj rfl) ?_
 refine sA (v:=.func (.func 97) #[.agg #[.bool (neg m),.slice M (zl m) d]] #[]) rfl (fun _ η=>cW (us:=#[.agg #[.bool (neg m),.slice M (zl m) d]]) (vs:=#[]) η rfl rfl) ?_
 intro a η
 refine au rfl (cV η rfl Tryz.call226 rfl (Fw (E:=(BW M d m)) (g:=(m*·)) (first:=#[.agg #[.bool (neg m),.slice M (zl m) d]]) (caps:=#[]) σ.aU σ.bC Tryz.call97 (fun _ _ _ _ _ q1 q2 hx=>oF cT (Ka (show dK _ M d m from q2) hx ae (by have:=hzb.at q1; omega))) hn) ?_)
 rintro e w59 ⟨_,rfl,⟨oK,nv,xJ,rfl,hr,Am,JM⟩,hb⟩
 refine ⟨_,rfl,?_⟩
 clear η a; intro a η
 replace σ:=σ.lN hb hr (lh hr.2.1 ⟨aL,⟨aN rfl,trivial⟩⟩)
 clear hr
 clear hb
 refine sv (v:=.slice oK n0 nv) η rfl (aV η rfl) ?_
 clear η a; intro a η
 refine wpList_nil (aT (wp_ret ?_))
 refine leave η (dA Tryz.results198 (RV.tmp η rfl)) ?_
 exact ⟨_,rfl,⟨_,_,_,rfl,σ.newRow (k:=0) (j:=0) rfl rfl,Am,JM⟩,σ.below⟩
theorem Ta {n:Nat} (h:n<=64):zl ((1:Int)*2 ^ n)<=3:=by
 rw [p']
 refine cQ ?_
 rw [OH]
 exact qf (fE ai h) ai
theorem Md {z:Int} (h:-512<=z/\z<=512):zl z<=2:=cQ ae
theorem adp:zl 1<=1:=cQ ai
theorem adq (n:Nat):(1:Int)*2 ^ n≠0:=by rw [p']; exact Int.ne_of_gt (Int.pow_pos ai)
theorem Me {c:Int} {x:Rw} (h:wS c x=true):Du c x:=fun z hz=>bX (dP.1 h z hz)
theorem G9 {vs:List LE} {R:List Rw} {r:Nat} {A:Option Addr} {n c:Nat} {es:List NE} (h:vs.map lz=R) (he:vs[r]?=some (A,n,c,es)):es.map zz=eQ R ((r:Nat):Int):=by
 have:R[r]?=some (es.map zz):=by rw [<- h,bo,he]; rfl
 unfold eQ
 rw [aF,mJ,this]; rfl
theorem AV (m:Int) (x:Rw):x.map (m*·)=x.map fun v=>v*m:=jh fun v _=>gn m v
theorem oV {p:Bool} {a z:Rw} (h:(if p=true then some a else none)=some z):p=true/\a=z:=by
 split at h
 ·exact ⟨by assumption,dw h⟩
 ·cases h
theorem adr {w0:World} {A0 A1:Option Addr} {n0 c0 c1:Nat} {es0 es1:List NE} {xs ys:List Int} (h0:(vh A0 n0 c0 es0).P w0) (jF:es0.map zz=xs) (h1:(vh A1 n0 c1 es1).P w0) (ld:es1.map zz=ys) (Ii:Zk 90000 xs) (Bc:Zk 90000 ys) (hn:n0<=100000000):
  Calls Tryz.prog 194 #[.slice A0 n0 c0,.slice A1 n0 c1] w0 fun e w'=>∃v,e=.returned v/\qC w0.heap.size w' v n0 (List.zipWith (·+·) xs ys)/\Below w0.heap.size w0 w':=by
 refine dp Tryz.func194 rfl Tryz.ntmps194 rfl fun σ=>?_
 have a8:=h0.2.1
 replace σ:=σ.aE h1
 replace σ:=σ.aE h0
 refine eE rfl<|cS Tryz.call195 (SS σ.aU jF σ.bC ld (Ii.mono ai) (Bc.mono ai) hn) rfl ?_
 rintro _ _ ⟨_,rfl,⟨Zm,Zn,ahH,rfl,Tc,xE,rF⟩,hb⟩
 refine ⟨_,rfl,?_⟩
 replace σ:=σ.lN hb Tc (lh Tc.2.1 ⟨aL,trivial⟩)
 exact o1 Tryz.results194 rfl<|⟨_,rfl,⟨_,_,_,rfl,σ.newRow (k:=0) (j:=0) rfl rfl,xE,rF⟩,σ.below⟩
theorem ads {w0:World} {A0 A1:Option Addr} {n0 c0 c1:Nat} {es0 es1:List NE} {xs ys:List Int} (h0:(vh A0 n0 c0 es0).P w0) (jF:es0.map zz=xs) (h1:(vh A1 n0 c1 es1).P w0) (ld:es1.map zz=ys) (Ii:Zk 90000 xs) (Bc:Zk 90000 ys) (hn:n0<=100000000):
  Calls Tryz.prog 196 #[.slice A0 n0 c0,.slice A1 n0 c1] w0 fun e w'=>∃v,e=.returned v/\qC w0.heap.size w' v n0 (List.zipWith (· - ·) xs ys)/\Below w0.heap.size w0 w':=by
 refine dp Tryz.func196 rfl Tryz.ntmps196 rfl fun σ=>?_
 have a8:=h0.2.1
 replace σ:=σ.aE h1
 replace σ:=σ.aE h0
 refine eE rfl<|cS Tryz.call197 (SU σ.aU jF σ.bC ld (Ii.mono ai) (Bc.mono ai) hn) rfl ?_
 rintro _ _ ⟨_,rfl,⟨Zm,Zn,ahH,rfl,Tc,xE,rF⟩,hb⟩
 refine ⟨_,rfl,?_⟩
 replace σ:=σ.lN hb Tc (lh Tc.2.1 ⟨aL,trivial⟩)
 exact o1 Tryz.results196 rfl<|⟨_,rfl,⟨_,_,_,rfl,σ.newRow (k:=0) (j:=0) rfl rfl,xE,rF⟩,σ.below⟩
theorem Mf {w0:World} {A0 M:Option Addr} {n0 c0 d:Nat} {es0:List NE} {xs:List Int} {m:Int} (h0:(vh A0 n0 c0 es0).P w0) (jF:es0.map zz=xs) (hM:dK w0 M d m) (hm:zl m<=100000) (Bn:m≠0) (Ii:Zk 90000 xs) (hn:n0<=100000000) (hdiv:Du m xs):
  Calls Tryz.prog 199 #[.slice A0 n0 c0,.agg #[.bool (neg m),.slice M (zl m) d]] w0 fun e w'=>∃v,e=.returned (.tuple #[v,.bool true])/\qC w0.heap.size w' v n0 (xs.map (· / m))/\Below w0.heap.size w0 w':=by
 refine dp Tryz.func199 rfl Tryz.ntmps199 rfl fun σ=>?_
 replace σ:=σ.aE h0
 replace σ:=σ.eO hM trivial
 refine eE rfl<|gN σ rfl fun _ bJ σ=>gE 0 σ rfl<|eE rfl<|cS Tryz.call200 (SO σ.bC jF (show dK _ M d m from σ.aU) hm Bn (Ii.mono ai) hn) rfl ?_
 rintro _ _ ⟨(⟨Ue,_,rfl,⟨z8,wh,Td,rfl,NY,Am,JM⟩⟩|⟨sY,_⟩),hb⟩
 ·refine ⟨_,rfl,?_⟩
  replace σ:=σ.lN hb NY (lh NY.2.1 ⟨aL,aN rfl,trivial⟩)
  exact cZ rfl<|kB (b':=true) rfl<|o2 Tryz.results199 rfl<|⟨_,rfl,⟨_,_,_,rfl,σ.newRow (k:=0) (j:=0) rfl rfl,Am,JM⟩,σ.below⟩
 ·exact absurd hdiv sY
theorem G' {w0:World} {n:Nat} (hn:n<=64):
  Calls Tryz.prog 225 #[ak n] w0 fun e w'=>∃v,e=.returned v/\pj w' v (1*2 ^ n)/\Below w0.heap.size w0 w':=by
 refine dp Tryz.func225 rfl Tryz.ntmps225 rfl fun σ=>eE rfl<|eL aG σ rfl fun _ bJ σ=>eE rfl<|cS Tryz.call18 (yU ae ae) rfl ?_
 rintro _ _ ⟨_,rfl,⟨z8,wh,rfl,adt⟩,hb⟩
 refine ⟨_,rfl,?_⟩
 replace σ:=(σ.call hb).eO adt ⟨aN rfl,trivial⟩
 refine eE rfl<|cS Tryz.call58 (Mc (show dK _ z8 wh 1 from σ.aU) (bq adp ai) ae) rfl ?_
 rintro _ _ ⟨_,rfl,⟨A55,c56,rfl,JM⟩,hb⟩
 refine ⟨_,rfl,?_⟩
 replace σ:=(σ.call hb).eO JM ⟨aN rfl,trivial⟩
 exact eE rfl<|eL aG σ rfl fun _ z7 σ=>eE rfl<|cX 0 σ rfl fun _ σ=>gE 0 σ rfl<|eE rfl<|cX 1 σ rfl fun _ σ=>oR (fun e=>dA Tryz.results225 (RV.cell e ah rfl σ.vQ rfl))<|⟨_,rfl,⟨A55,c56,rfl,σ.aU⟩,σ.below⟩
theorem Te {w0:World} {i g:Nat} {A0 A1:Option Addr} {n0 c0 n1 c1:Nat} {es0:List IE} {es1:List Int} (h0:(jM A0 n0 c0 es0).P w0) (h1:(bE A1 n1 c1 es1).P w0) (bH:jc (i:Nat) (g:Nat) n0 n1 es0 es1):
  Calls Tryz.prog 191 #[.agg (u4 i g A0 n0 c0 A1 n1 c1),ak i] w0 fun e w'=>e=.returned (aq 0)/\Below w0.heap.size w0 w':=by
 refine dp Tryz.func191 rfl Tryz.ntmps191 rfl fun σ=>?_
 have a8:=h0.2.1
 have ic:=h0.1.cap
 have bW:=h0.1.big
 unfold maxLen at bW
 have cY:=h1.2.1
 have kY:=h1.1.cap
 have eC:=h1.1.big
 unfold maxLen at eC
 replace σ:=σ.aE h0
 replace σ:=σ.aE h1
 exact eE rfl<|gN σ rfl fun _ bJ σ=>gE 0 σ rfl<|eE rfl<|dx Tryz.call41 (iu σ.bC σ.aU bH) σ rfl fun _ σ=>ir rfl<|kB (b':=false) rfl<|iF rfl rfl<|lE 0 σ rfl<|ir rfl<|kB (b':=false) (Bw rfl)<|iF rfl rfl<|o1 Tryz.results191 rfl<|⟨rfl,σ.below⟩
theorem Xx {w0:World}:
  Calls Tryz.prog 159 #[] w0 fun e w'=>e=.returned (.agg #[.func (.func 193) #[] #[],.func (.func 194) #[] #[],.func (.func 196) #[] #[],.func (.func 198) #[] #[],.func (.func 199) #[] #[]])/\Below w0.heap.size w0 w':=by
 exact dp Tryz.func159 rfl Tryz.ntmps159 rfl fun σ=>eE rfl<|eL iP σ rfl fun _ bJ σ=>vE rfl (fun η=>cK ju η rfl rfl)<|eE rfl<|cX 0 σ rfl fun _ σ=>oR (fun e=>dA Tryz.results159 (RV.cell e jm rfl σ.dj rfl))<|⟨rfl,σ.below⟩
theorem ahV {w0:World} {A0:Option Addr} {g c0 nn:Nat} {vs:List LE} {R:List Rw} {op tr xy vn cn:Int} {z:Rw} (h0:(Mt A0 g c0 vs).P w0) (mC:vs.map lz=R) (hM:cN (op,tr,xy,vn,cn) g) (yw:∀v∈vs,v.2.1=nn) (hn:nn<=10000) (hg:g<=200) (hZ:∀v∈vs,Zk 90000 (lz v)) (hs:lD op cn (eQ R xy) (eQ R vn)=some z):
  Calls Tryz.prog 192 #[.agg #[.func (.func 193) #[] #[],.func (.func 194) #[] #[],.func (.func 196) #[] #[],.func (.func 198) #[] #[],.func (.func 199) #[] #[]],.slice A0 g c0,.agg #[aq op,aq tr,aq xy,aq vn,aq cn]] w0 fun e w'=>∃v:LE,e=.returned (.tuple #[.slice v.1 v.2.1 v.2.2.1,.bool true])/\lz v=z/\(v∈vs∨∀a,v.1=some a->w0.heap.size<=a.block)/\(FL v).P w'/\Below w0.heap.size w0 w':=by
 refine dp Tryz.func192 rfl Tryz.ntmps192 rfl fun σ=>?_
 have xi:=hM
 unfold cN at xi
 dsimp only at xi
 obtain ⟨ra,rfl⟩:=dh (show 0<=xy by omega)
 obtain ⟨rb,rfl⟩:=dh (show 0<=vn by by_cases q:op=3∨op=4<;>omega)
 have UX:rb<g:=by by_cases q:op=3∨op=4<;>omega
 have hlen:=h0.2.1
 replace σ:=σ.aE h0
 obtain ⟨⟨Aa,na,ca,ea⟩,oQ⟩:∃e,vs[ra]?=some e:=⟨_,aw ae⟩
 replace σ:=σ.elem (k:=0) rfl oQ
 replace σ:St w0 _ [] [vh Aa na ca ea,Mt A0 g c0 vs]:=σ
 obtain ⟨⟨Ab,nb,cb,eb⟩,zD⟩:∃e,vs[rb]?=some e:=⟨_,aw ae⟩
 replace σ:=σ.elem (k:=1) rfl zD
 have hna:=yw _ (aB oQ)
 obtain rfl:na=nb:=hna.trans (yw _ (aB zD)).symm
 dsimp only at hna
 rw [<- G9 mC oQ,<- G9 mC zD] at hs
 refine eE rfl<|gN σ rfl fun _ bJ σ=>eE rfl<|gN σ rfl fun _ cJ σ=>gY [] [0,4,9,12,17,20,24,29,32,37,40,44] aK σ fun _ σ=>lS 0 rfl<|vE rfl (fun η=>az (i:=ra) η Tryz.underlying131 (aH.size) rfl rfl ae rfl σ.cF.1)<|sE rfl (fun η hg=>aJ (i:=ra) (j:=0) (e:=(Aa,na,ca,ea)) η aH rfl rfl gX ai (hg.pt (j:=2) rfl).1 ae oQ rfl)<|lS 0 rfl<|vE rfl (fun η=>az (i:=rb) η Tryz.underlying131 (aH.size) rfl rfl ae rfl σ.cF.1)<|sE rfl (fun η hg=>aJ (i:=rb) (j:=0) (e:=(Ab,na,cb,eb)) η aH rfl rfl gX ai (hg.pt (j:=2) rfl).1 ae zD rfl)<|lE 0 σ rfl<|cZ rfl<|wQ (fun lU=>?_) fun lU=>?_
 ·obtain rfl:op=2:=lU
  obtain rfl:=dw (show some (ea.map zz |>.map fun v=>-v)=some z from hs)
  refine iT rfl rfl<|lE 1 σ rfl<|eE rfl<|sf Tryz.call193 rfl (Xc σ.bC rfl ae) rfl ?_
  rintro _ _ ⟨_,rfl,⟨tS,sF,NZ,rfl,JN,Bv,Tf⟩,hb⟩
  refine ⟨_,rfl,?_⟩
  have Tg:=fun a (ha:tS=some a)=>bq σ.below.size (JN.2.2 a ha)
  replace σ:=σ.iW hb JN Bv (lh JN.2.1 ⟨aN rfl,aN rfl,trivial⟩)
  exact o2 Tryz.results192 rfl<|⟨(tS,na,sF,NZ),rfl,Tf,.inr Tg,σ.aU,σ.below⟩
 ·refine iF rfl rfl<|cZ rfl<|wQ (fun xg=>?_) fun xg=>?_
  ·obtain rfl:op=3:=xg
   obtain rfl:=dw (show some (List.zipWith (fun a b=>a+b) (ea.map zz) (eb.map zz))=some z from hs)
   refine iT rfl rfl<|lE 1 σ rfl<|eE rfl<|sf Tryz.call194 rfl (adr σ.bC rfl σ.aU rfl (hZ _ (aB oQ)) (hZ _ (aB zD)) ae) rfl ?_
   rintro _ _ ⟨_,rfl,⟨A61,c62,anI,rfl,adu,Ru,anJ⟩,hb⟩
   refine ⟨_,rfl,?_⟩
   have ahX:=fun a (ha:A61=some a)=>bq σ.below.size (adu.2.2 a ha)
   replace σ:=σ.iW hb adu Ru (lh adu.2.1 ⟨aN rfl,aN rfl,trivial⟩)
   exact o2 Tryz.results192 rfl<|⟨(A61,na,c62,anI),rfl,anJ,.inr ahX,σ.aU,σ.below⟩
  ·refine iF rfl rfl<|cZ rfl<|wQ (fun Zw=>?_) fun Zw=>?_
   ·obtain rfl:op=4:=Zw
    obtain rfl:=dw (show some (List.zipWith (fun a b=>a-b) (ea.map zz) (eb.map zz))=some z from hs)
    refine iT rfl rfl<|lE 1 σ rfl<|eE rfl<|sf Tryz.call196 rfl (ads σ.bC rfl σ.aU rfl (hZ _ (aB oQ)) (hZ _ (aB zD)) ae) rfl ?_
    rintro _ _ ⟨_,rfl,⟨A68,c69,anK,rfl,adv,RK,anL⟩,hb⟩
    refine ⟨_,rfl,?_⟩
    have ahY:=fun a (ha:A68=some a)=>bq σ.below.size (adv.2.2 a ha)
    replace σ:=σ.iW hb adv RK (lh adv.2.1 ⟨aN rfl,aN rfl,trivial⟩)
    exact o2 Tryz.results192 rfl<|⟨(A68,na,c69,anK),rfl,anL,.inr ahY,σ.aU,σ.below⟩
   ·refine iF rfl rfl<|cZ rfl<|wQ (fun Us=>?_) fun Us=>?_
    ·obtain rfl:op=5:=Us
     obtain rfl:=dw (show some ((ea.map zz).map fun v=>v*cn)=some z from hs)
     refine iT rfl rfl<|gY [] [0,5,8,12,17,22,26,28,32] aK σ fun _ σ=>lS 1 rfl<|lS 0 rfl<|eS rfl<|cS Tryz.call18 (yU (n:=cn) ae ae) rfl ?_
     rintro _ _ ⟨_,rfl,⟨A75,c76,rfl,anM⟩,hb⟩
     refine ⟨_,rfl,?_⟩
     replace σ:=(σ.call hb).eO anM ⟨aN rfl,aN rfl,trivial⟩
     refine sk (σ.kd 0 1)<|eS rfl<|sf Tryz.call198 rfl (AU σ.cF rfl (show dK _ A75 c76 cn from σ.aU) (bq (Md ae) ai) (hZ _ (aB oQ)) ae) rfl ?_
     rintro _ _ ⟨_,rfl,⟨A78,c79,anN,rfl,adw,tP,anO⟩,hb⟩
     refine ⟨_,rfl,?_⟩
     have ahZ:=fun a (ha:A78=some a)=>bq σ.below.size (adw.2.2 a ha)
     replace σ:=σ.iW hb adw tP (lh adw.2.1 ⟨aN rfl,aN rfl,trivial⟩)
     exact sk (σ.kd 0 2)<|o2 Tryz.results192 rfl<|⟨(A78,na,c79,anN),rfl,(anO.trans (AV _ _)),.inr ahZ,σ.aU,σ.below⟩
    ·refine iF rfl rfl<|cZ rfl<|wQ (fun h84=>?_) fun h84=>?_
     ·obtain rfl:op=7:=h84
      obtain ⟨cm,rfl⟩:=dh (show 0<=cn by omega)
      have Nt:1<=cm/\cm<=64:=ae
      obtain rfl:=dw (show some ((ea.map zz).map fun v=>v*2 ^ cm)=some z from hs)
      refine iT rfl rfl<|gY [] [0,5,8,12,17,22,26,28,32] aK σ fun _ σ=>lS 1 rfl<|lS 0 rfl<|eS rfl<|cS Tryz.call225 (G' (n:=cm) ae) rfl ?_
      rintro _ _ ⟨_,rfl,⟨A85,c86,rfl,anP⟩,hb⟩
      refine ⟨_,rfl,?_⟩
      replace σ:=(σ.call hb).eO anP ⟨aN rfl,aN rfl,trivial⟩
      refine sk (σ.kd 0 1)<|eS rfl<|sf Tryz.call198 rfl (AU σ.cF rfl (show dK _ A85 c86 (1*2 ^ cm) from σ.aU) (bq (Ta ae) ai) (hZ _ (aB oQ)) ae) rfl ?_
      rintro _ _ ⟨_,rfl,⟨A88,c89,anQ,rfl,adx,wq,anR⟩,hb⟩
      refine ⟨_,rfl,?_⟩
      have ah0:=fun a (ha:A88=some a)=>bq σ.below.size (adx.2.2 a ha)
      replace σ:=σ.iW hb adx wq (lh adx.2.1 ⟨aN rfl,aN rfl,trivial⟩)
      exact sk (σ.kd 0 2)<|o2 Tryz.results192 rfl<|⟨(A88,na,c89,anQ),rfl,(anR.trans ((AV _ _).trans (by rw [p']))),.inr ah0,σ.aU,σ.below⟩
     ·refine iF rfl rfl<|cZ rfl<|wQ (fun h94=>?_) fun h94=>?_
      ·obtain rfl:op=6:=h94
       obtain ⟨hd9,rfl⟩:=oV (show (if wS cn (ea.map zz)=true then some ((ea.map zz).map fun v=>v / cn) else none)=some z from hs)
       have Ue:=Me hd9
       refine iT rfl rfl<|gY [] [0,5,8,12,17,22,26,28,32,36,40] aK σ fun _ σ=>lS 1 rfl<|lS 0 rfl<|eS rfl<|cS Tryz.call18 (yU (n:=cn) ae ae) rfl ?_
       rintro _ _ ⟨_,rfl,⟨A95,c96,rfl,anT⟩,hb⟩
       refine ⟨_,rfl,?_⟩
       replace σ:=(σ.call hb).eO anT ⟨aN rfl,aN rfl,trivial⟩
       refine sk (σ.kd 0 1)<|eS rfl<|sf Tryz.call199 rfl (Mf σ.cF rfl (show dK _ A95 c96 cn from σ.aU) (bq (Md ae) ai) ae (hZ _ (aB oQ)) ae Ue) rfl ?_
       rintro _ _ ⟨_,rfl,⟨A98,c99,ah1,rfl,Th,ah2,ah3⟩,hb⟩
       refine ⟨_,rfl,?_⟩
       have ah4:=fun a (ha:A98=some a)=>bq σ.below.size (Th.2.2 a ha)
       replace σ:=σ.iW hb Th ah2 (lh Th.2.1 ⟨aN rfl,aN rfl,trivial⟩)
       exact sk (σ.kd 0 2)<|o2 Tryz.results192 rfl<|⟨(A98,na,c99,ah1),rfl,ah3,.inr ah4,σ.aU,σ.below⟩
      ·refine iF rfl rfl<|cZ rfl<|wQ (fun ah5=>?_) fun ah5=>?_
       ·obtain rfl:op=8:=ah5
        obtain ⟨cm,rfl⟩:=dh (show 0<=cn by omega)
        have Nt:1<=cm/\cm<=64:=ae
        obtain ⟨hd9,rfl⟩:=oV (show (if wS (2 ^ cm) (ea.map zz)=true then some ((ea.map zz).map fun v=>v / 2 ^ cm) else none)=some z from hs)
        have Ue:Du (1*2 ^ cm) (ea.map zz):=by rw [p']; exact Me hd9
        refine iT rfl rfl<|gY [] [0,5,8,12,17,22,26,28,32,36,40] aK σ fun _ σ=>lS 1 rfl<|lS 0 rfl<|eS rfl<|cS Tryz.call225 (G' (n:=cm) ae) rfl ?_
        rintro _ _ ⟨_,rfl,⟨anU,anV,rfl,ah6⟩,hb⟩
        refine ⟨_,rfl,?_⟩
        replace σ:=(σ.call hb).eO ah6 ⟨aN rfl,aN rfl,trivial⟩
        refine sk (σ.kd 0 1)<|eS rfl<|sf Tryz.call199 rfl (Mf σ.cF rfl (show dK _ anU anV (1*2 ^ cm) from σ.aU) (bq (Ta ae) ai) (adq _) (hZ _ (aB oQ)) ae Ue) rfl ?_
        rintro _ _ ⟨_,rfl,⟨ah7,anW,ah8,rfl,Ti,ah9,ah'⟩,hb⟩
        refine ⟨_,rfl,?_⟩
        have ady:=fun a (ha:ah7=some a)=>bq σ.below.size (Ti.2.2 a ha)
        replace σ:=σ.iW hb Ti ah9 (lh Ti.2.1 ⟨aN rfl,aN rfl,trivial⟩)
        exact sk (σ.kd 0 2)<|o2 Tryz.results192 rfl<|⟨(ah7,na,anW,ah8),rfl,(ah'.trans (by rw [p'])),.inr ady,σ.aU,σ.below⟩
       ·refine iF rfl rfl<|o2 Tryz.results192 rfl<|?_
        obtain rfl:op=1:=ae
        obtain rfl:=dw (show some (ea.map zz)=some z from hs)
        exact ⟨(Aa,na,ca,ea),rfl,rfl,.inl (aB oQ),σ.bC,σ.below⟩
def AW (B:Nat) (vs us:List LE):Prop:=∀v∈us,v∈vs∨∀a,v.1=some a->B<=a.block
theorem AW.anX (B:Nat) (vs:List LE):AW B vs vs:=fun _ h=>.inl h
theorem AW.step {B C:Nat} {vs us:List LE} {v:LE} {k:Nat} (h:AW B vs us) (hBC:B<=C) (hv:v∈us∨∀a,v.1=some a->C<=a.block):AW B vs (us.set k v):=fun u hu=>by
 rcases kr hu with q | q
 ·exact h u q
 ·subst q
  rcases hv with q | q
  ·exact h u q
  ·exact .inr fun a ha=>bq hBC (q a ha)
theorem AW.new {B C:Nat} {vs us:List LE} (h:AW B vs us) (hv:gZ C vs) (hBC:C<=B):gZ C us:=fun v Yo a ha=>by
 rcases h v Yo with q | q
 ·exact hv v q a ha
 ·exact bq hBC (q a ha)
theorem St.ZH {w0 w w':World} {own ps:List PF} {vs:List LE} {v:LE} {k:Nat} (h:St w0 w own ps) (hb:Below w.heap.size w w') (hk:ps[k]?=some (bL FL vs)) (hv:v∈vs∨∀a,v.1=some a->w.heap.size<=a.block) (hF:(FL v).P w') (hn:qB own):St w0 w' own (FL v::ps):=by
 have h3:=h.call hb
 refine h3.iB _ hF fun o ho b h1 hf=>?_
 rcases hv with q | q
 ·exact h3.apart _ (aB hk) o ho b h1 ⟨v,q,hf⟩
 ·rcases hf with ⟨_,off,e⟩ | hf
  ·have:=q _ e
   have h2:=o.lt (h.mine o ho) h1
   exact absurd this (Nat.not_le.2 h2)
  ·exact lh hF.2.2 hn o ho b h1 (h3.mine o ho) hf
theorem St.aia {α:Type} {f:α->List Value} {F:α->PF} {z n c k:Nat} {A:Option Addr} {es:List α} {w0 w:World} {own ps:List PF} (h:St w0 w own ps) (hk:ps[k]?=some (ag f F z A n c es)):St w0 w own (bL F es::ps):=
 h.iB _ (h.pat hk).2.2 fun o ho b h1 h2=>h.apart _ (aB hk) o ho b h1 (.inr h2)
theorem St.aib {w0 w:World} {own ps:List PF} (h:St w0 w own ps) (n:Nat):St w0 w own (bL FL (List.replicate n ((none,0,0,[]):LE))::ps):=
 h.iB _ (fun e he=>by rw [lW he]; exact Dq fN FN 2 w) fun o ho b h1 ⟨e,he,hf⟩=>by
  rw [lW he] at hf
  rcases hf with ⟨h0,_⟩ | ⟨x,hx,_⟩
  ·exact absurd h0 (Nat.lt_irrefl _)
  ·cases hx
theorem xk {w:World} {vs:List LE} {R:List Rw} {nn:Nat} (h:(bL FL vs).P w) (hR:∀r∈R,r.length=nn) (mC:vs.map lz=R):∀v∈vs,v.2.1=nn:=fun v hv=>by
 have h1:=(h v hv).2.1
 have h2:=hR (lz v) (mC ▸ qO hv)
 unfold lz at h2
 rw [aZ] at h2
 exact h1.symm.trans h2
theorem ZI {vs:List LE} {R:List Rw} {b:Nat} (h:nG b R) (hb:b<=2880000) (mC:vs.map lz=R):∀v∈vs,Zk 90000 (lz v):=fun v hv x hx=>JJ (h _ (mC ▸ qO hv) x hx) hb
theorem Ha {R R':List Rw} {es:List IE} {k:Nat} {e:IE} (h:kX R (es.drop k)=some R') (he:es[k]?=some e):∃z,lD e.1 e.2.2.2.2 (eQ R e.2.2.1) (eQ R e.2.2.2.1)=some z/\mg R e=some (R.set e.2.1.toNat z)/\kX (R.set e.2.1.toNat z) (es.drop (k+1))=some R':=by
 rw [kM he,gQ] at h
 unfold mg at h ⊢
 cases hr:lD e.1 e.2.2.2.2 (eQ R e.2.2.1) (eQ R e.2.2.2.1) with
 | none=>rw [hr] at h; cases h
 | some z=>rw [hr] at h; exact ⟨z,rfl,rfl,h⟩
theorem rG {w:World} {A:Option Addr} {E n c:Nat} {vs:List LE} (h:(av ar E 1 A n c (fl fL vs)).P w) (hl:vs.length=n) (hE:(bL FL vs).P w):(Mt A n c vs).P w:=⟨ax h,hl,hE⟩
section
variable {P:Program} {X:Cx P} {w w0:World} {own ps:List PF} {d:Nat} {l:List (Nat×Value)} {C:World->List (Nat×Value)->Prop}
theorem cpE {α:Type} {f:α->List Value} {T T2 E n c m d2 z:Nat} {x y:Operand} {A B:Option Addr} {es dL:List α} (j:Nat) (hs:St w0 w own ps) (hr:Rd z w B m d2 (fl f dL)) (hz:∀e,(f e).length=z) (hl:es.length=n) (jb:dL.length=m) (hq:∀e,(f e).all ar=true) (h1:∀e,∀v∈f e,v.oneCell'=true)
  (hE:∃i,P.info? E=some i/\i.size=z) (e:(Nat.blt d X.N,X.T.ty T,bV l x,bV l y,own[j]?)=(true,.sl E,some (.slice A n c),some (.slice B m d2),some (av ar E z A n c (fl f es))))
  (h:∀w',xB own j (av ar E z A n c (fl f (dL.take n++es.drop m))) fun jP=>St w0 w' jP ps->C w' ((d,ak (min m n))::l)):WE X w l (.call ⟨.builtin .copy,#[x,y],#[T,T2]⟩) (some d) C:=by
 have ht:=X.T.tyOk T
 simp only [ji] at e
 obtain ⟨e1,e2,e3,e4,e5⟩:=e
 rw [e2] at ht
 exact ⟨fun h0 hC=>PO h0 hs e1 ht.2 hE e3 e4 e5 hr hz hl jb hq h1 fun a' w' h' qq=>hC a' w' _ (kQ _ _ _ _ (h w') qq) h'⟩
end
theorem aic (e:NE):(fN e).all ar=true:=rfl
theorem aid (e:NE):∀v∈fN e,v.oneCell'=true:=fun v hv=>by
 rcases dW.1 hv with rfl | hv
 ·rfl
 ·rw [cC.1 hv]; rfl
theorem Eo {g n k:Nat} {G:List Rw} (hG:G.length<=g) (hk:k<g):(ie g n G)[k]?=some (if k<G.length then G.getD k [] else List.replicate n 0):=by
 unfold ie
 split
 ·rename_i h
  rw [jg h,aF,aw h]; rfl
 ·rename_i h
  rw [j8 ae,iN,aR ae]
theorem aie {vs:List LE} {G:List Rw} {k:Nat} {A:Option Addr} {n c:Nat} {es:List NE} (h:vs.map lz=G) (he:vs[k]?=some (A,n,c,es)):G.getD k []=es.map zz:=by
 rw [<- h,aF,bo,he]; rfl
theorem Tj {vs:List LE} {R:List Rw} {k g:Nat} {v:LE} {r:Rw} (h:vs.map lz=nH R k g []) (hr:R[k]?=some r) (hk:k<g) (hv:lz v=r):(vs.set k v).map lz=nH R (k+1) g []:=by
 rw [qK,h,hv]
 exact lR hr hk
theorem Tk (n:Nat):(List.replicate n ((none,0,0):NE)).map zz=List.replicate n 0:=mN
theorem Xy {vs:List LE} {R:List Rw} {r:Nat} {v:LE} (h:vs.map lz=R) (he:vs[r]?=some v):lz v=eQ R ((r:Nat):Int):=by
 obtain ⟨A,n,c,es⟩:=v
 exact G9 h he
theorem Xz {w0:World} {k:Int} {A:Option Addr} {n c:Nat}:
  Calls Tryz.prog 160 #[aq k,.slice A n c] w0 fun e w'=>e=.returned (.bool true)/\Below w0.heap.size w0 w':=by
 exact dp Tryz.func160 rfl Tryz.ntmps160 rfl fun σ=>o1 Tryz.results160 rfl<|⟨rfl,σ.below⟩
theorem adz {w0 w1:World} {i g c2 nn b:Nat} {A2:Option Addr} {A0 A1:Option Addr} {n0 c0 n1 c1:Nat} {es0:List IE} {vs:List LE} {R R':List Rw} (mC:vs.map lz=R) (iI:∀e∈es0,cN e g) (mr:kX R es0=some R') (EN:R.length=g/\∀r∈R,r.length=nn) (hn:nn<=10000) (hg:g<=200) (Kb:nG (b+64*0) R) (T5:b+64*n0<=2880000)
  (hS:St w0 w1 [aaP A2 g c2 vs] [bP w1 (aaP A2 g c2 vs),bL FL vs,jM A0 n0 c0 es0]):
  Calls Tryz.prog 158 #[.agg #[.func (.func 193) #[] #[],.func (.func 194) #[] #[],.func (.func 196) #[] #[],.func (.func 198) #[] #[],.func (.func 199) #[] #[]],.agg (u4 i g A0 n0 c0 A1 n1 c1),.slice A2 g c2,.func (.func 160) #[] #[]] w1 fun e w'=>∃us,e=.returned (aq (-1))/\St w0 w' [aaP A2 g c2 us] [bP w1 (aaP A2 g c2 vs),bL FL us]/\us.map lz=R'/\AW w1.heap.size vs us:=by
 refine dp Tryz.func158 rfl Tryz.ntmps158 rfl fun σ=>?_
 replace σ:=hS
 have a8:=σ.cF.2.1
 have hvl:vs.length=g:=by have:=aM List.length mC; rw [aZ] at this; exact this.trans EN.1
 refine eE rfl<|gN σ rfl fun _ bJ σ=>eE rfl<|gN σ rfl fun _ cJ σ=>We rfl<|lE 0 σ rfl<|fX (fun mz l w=>∃k:Nat,∃us:List LE,∃Rk:List Rw,n0 - k=mz/\l=[(16,ak k),(2,.slice A2 g c2),(3,.func (.func 160) #[] #[]),(4,bB bJ),(14,.slice A0 n0 c0),(15,ak n0)]/\St w0 w [aaP A2 g c2 us,bk cJ (u4 i g A0 n0 c0 A1 n1 c1) 28,bk bJ #[.func (.func 193) #[] #[],.func (.func 194) #[] #[],.func (.func 196) #[] #[],.func (.func 198) #[] #[],.func (.func 199) #[] #[]] 253] [bP w1 (aaP A2 g c2 vs),bL FL us,jM A0 n0 c0 es0]/\k<=n0/\us.length=g/\us.map lz=Rk/\kX Rk (es0.drop k)=some R'/\(Rk.length=g/\∀r∈Rk,r.length=nn)/\nG (b+64*k) Rk/\AW w1.heap.size vs us) ⟨0,vs,R,rfl,rfl,σ.pick [2,0,1] [0,1,2] ai,(bm _),hvl,mC,mr,EN,Kb,(AW.anX _ _)⟩ ay ?_
 rintro _ _ _ ⟨k,us,Rk,rfl,rfl,σ,hk,hul,mC,Y8,EN,Kb,hOL⟩
 refine ei rfl<|wD (fun lU=>?_) fun lU=>?_
 ·have cD:k<n0:=ae
  obtain ⟨⟨op,D9,ra,rb,cn⟩,b5⟩:∃e,es0[k]?=some e:=⟨_,aw ae⟩
  have hM:=iI _ (aB b5)
  have xi:=hM
  unfold cN at xi
  dsimp only at xi
  obtain ⟨tr,rfl⟩:=dh (show 0<=D9 by omega)
  obtain ⟨zr,N0,Ep,JO⟩:=Ha Y8 b5
  dsimp only at N0 Ep JO
  rw [mJ] at Ep JO
  skip
  refine iT rfl rfl<|vE rfl (fun η=>az (i:=k) η Tryz.underlying25 (an.size) rfl rfl ae rfl σ.cF.1)<|cE rfl (fun η=>bF (v:=#[aq op,ak tr,aq ra,aq rb,aq cn]) (i:=k) (e:=(op,((tr:Nat):Int),ra,rb,cn)) η an rfl rfl iR σ.cF.1 ae b5 rfl)<|eE rfl<|eL aI σ rfl fun _ eZ σ=>eE rfl<|cX 0 σ rfl fun _ σ=>?_
  have anZ:w1.heap.size<=_:=(show (bP w1 (aaP A2 g c2 vs)).P _ from σ.aU).1
  refine gE 3 σ rfl<|gE 0 σ rfl<|eE rfl<|cS Tryz.call192 (ahV (rG σ.fK hul σ.bC) mC hM (xk σ.bC EN.2 mC) hn hg (ZI Kb ae mC) N0) rfl ?_
  rintro _ _ ⟨⟨XA,XB,XC,adA⟩,rfl,Tf,aif,aih,hb⟩
  refine ⟨_,rfl,?_⟩
  have aj4:=σ.below.size
  have hnv:=aih.2.1
  replace σ:=σ.ZH hb (k:=1) rfl aif aih ⟨aN rfl,aL,aN rfl,aN rfl,trivial⟩
  refine iF rfl rfl<|lE 0 σ rfl<|vE rfl (fun η=>az (i:=tr) η Tryz.underlying131 (aH.size) rfl rfl ae rfl (ax σ.fK))<|eE rfl<|qI 1 tr (e1:=(XA,XB,XC,adA)) gX σ rfl rfl ae hul fun _ σ=>?_
  replace σ:=σ.qp (e:=(XA,XB,XC,adA)) (i:=2) (j:=0) rfl rfl tr
  refine eE rfl<|sf Tryz.call160 rfl (Xz (k:=((k:Nat):Int)) (A:=XA) (n:=XB) (c:=XC)) rfl ?_
  rintro _ _ ⟨rfl,hb⟩
  refine ⟨_,rfl,?_⟩
  replace σ:=σ.call hb
  exact iF rfl rfl<|can (j:=1) rfl ae<|dF ⟨k+1,(us.set tr (XA,XB,XC,adA)),(Rk.set tr zr),rfl,rfl,σ.pick [1,2,3] [2,0,4] ai,ae,(by rw [cH]; exact hul),(by rw [qK,mC,Tf]),JO,(xT Ep hM EN.1 EN.2),(by have:=KM Ep hM Kb; exact this.mono ae),(hOL.step anZ aif)⟩ ay ae
 ·obtain rfl:n0=k:=ae
  rw [dM ae] at Y8
  obtain rfl:Rk=R':=dw Y8
  exact iF rfl rfl<|o1 Tryz.results158 rfl<|⟨_,rfl,σ.pick [0] [0,1] ai,mC,hOL⟩
theorem Er {vs:List LE} {G:List Rw} {nn:Nat} (hG:∀r∈G,r.length=nn) (mC:vs.map lz=G) {w:World} (h:(bL FL vs).P w):∀v∈vs,v.2.1=nn:=xk h hG mC
theorem mI {g n:Nat} {G:List Rw} (hG:G.length<=g) (hn:∀r∈G,r.length=n):(ie g n G).length=g/\∀r∈ie g n G,r.length=n:=⟨iX hG,fun r hr=>by
 unfold ie at hr
 rcases b6.1 hr with h | h
 ·exact hn r h
 ·rw [lW h]; simp⟩
theorem Mg {b g n:Nat} {G:List Rw} (h:nG b G):nG b (ie g n G):=fun r hr v hv=>by
 unfold ie at hr
 rcases b6.1 hr with q | q
 ·exact h r q v hv
 ·rw [lW q] at hv
  rw [lW hv]
  exact nW (by decide)
theorem Es:∀(us:List LE) (k:Nat) (A:Option Addr) (n c:Nat) (e e':List NE),fl fL (us.set k (A,n,c,e))=fl fL (us.set k (A,n,c,e'))
 | [],_,_,_,_,_,_=>rfl
 | u::us,0,A,n,c,e,e'=>rfl
 | u::us,k+1,A,n,c,e,e'=>by
  rw [C0,C0,fl,fl,Es us k A n c e e']
theorem St.an0 {w0 w w':World} {own ps:List PF} {o o':PF} {k j:Nat} {vs us:List LE} (h:St w0 w own ps) (hk:own[k]?=some o) (hj:ps[j]?=some (bL FL vs)) (h':St w0 w' [o'] [bP w o,bL FL us]) (hO:AW w.heap.size vs us) (hn:qB own):St w0 w' (own.set k o') (bL FL us::ps):=by
 have h1:=h.j4 hk (o':=o') ⟨h'.below,h'.mine,h'.new,h'.nd,fun p hp=>h'.pers p (by rw [cC.1 hp]; exact bS ..),fun p hp=>h'.apart p (by rw [cC.1 hp]; exact bS ..)⟩
 have hE:(bL FL us).P w':=h'.pat (k:=1) rfl
 refine h1.iB _ hE fun e he b hb hf=>?_
 rcases kr he with q | q
 ·obtain ⟨v,hv,On⟩:=hf
  rcases hO v hv with p | p
  ·exact h1.apart _ (aB hj) e he b hb ⟨v,p,On⟩
  ·rcases On with ⟨_,off,e2⟩ | On
   ·have:=p _ e2
    have h2:=e.lt (h.mine e q) hb
    exact absurd this (Nat.not_le.2 h2)
   ·exact lh (hE v hv).2.2 hn e q b hb (h1.mine e he) On
 ·subst q
  exact h'.apart _ (cO _ (bS ..)) e (bS ..) b hb hf
theorem CJ {vs us:List LE} {R:List Rw} {os:List Int} {w r:Nat} {v u:LE} (h:vs.map lz=(os.map (eQ R)).take w) (ho:os[w]?=some ((r:Nat):Int)) (hu:us.map lz=R) (he:us[r]?=some v) (wJ:lz u=lz v):(vs++[u]).map lz=(os.map (eQ R)).take (w+1):=
 sq h (by rw [bo,ho]; rfl) (wJ.trans (Xy hu he))
theorem XD {w0:World} {i g nn:Nat} {A0 A1:Option Addr} {n0 c0 n1 c1:Nat} {es0:List IE} {es1:List Int} {A2:Option Addr} {c2:Nat} {vs:List LE} {G:List Rw} (h0:(ag fJ FJ 5 A0 n0 c0 es0).P w0) (h1:(ag fI FI 1 A1 n1 c1 es1).P w0) (h2:(ag fL FL 1 A2 i c2 vs).P w0) (bH:jc (i:Nat) (g:Nat) n0 n1 es0 es1) (mC:vs.map lz=G) (hG:∀r∈G,r.length=nn) (yw:1<=nn/\nn<=4096):
  Calls Tryz.prog 157 #[.agg #[.int .i64 (i:Nat),.int .i64 (g:Nat),.slice A0 n0 c0,.slice A1 n1 c1],.slice A2 i c2] w0 fun e w'=>∃A c vs,e=.returned (.tuple #[.slice A g c,.int .i64 0])/\St w0 w' [av ar 43 1 A g c (fl fL vs)] [bL FL vs]/\gZ w0.heap.size vs/\vs.map lz=ie g nn G:=by
 refine dp Tryz.func157 rfl Tryz.ntmps157 rfl fun σ=>?_
 have a8:=h0.2.1
 have ic:=h0.1.cap
 have bW:=h0.1.big
 unfold maxLen at bW
 have cY:=h1.2.1
 have kY:=h1.1.cap
 have eC:=h1.1.big
 unfold maxLen at eC
 replace σ:=σ.aE h0
 replace σ:=σ.aE h1
 clear h0 h1
 have q1:=bH.i1
 have kS:=h2.2.1
 have EL:G.length=i:=by rw [<- mC,aZ]; exact kS
 replace σ:=σ.aE h2
 obtain ⟨⟨A9,n9,c9,e9⟩,xv⟩:∃e,vs[0]?=some e:=⟨_,aw (by omega)⟩
 replace σ:=σ.elem (k:=0) rfl xv
 replace σ:St w0 _ [] [ag fN FN 2 A9 n9 c9 e9,ag fL FL 1 A2 i c2 vs,ag fI FI 1 A1 n1 c1 es1,ag fJ FJ 5 A0 n0 c0 es0]:=σ
 have hn9:=Er hG mC h2.2.2 _ (aB xv)
 dsimp only at hn9
 obtain rfl:nn=n9:=hn9.symm
 refine eE rfl<|gN σ rfl fun _ bJ σ=>gE 0 σ rfl<|eE rfl<|dx Tryz.call191 (Te (σ.pat (k:=3) rfl) (σ.pat (k:=2) rfl) bH) σ rfl fun _ σ=>ir rfl<|kB (b':=false) rfl<|iF rfl rfl<|vE rfl (fun η=>az (i:=0) η Tryz.underlying131 (aH.size) rfl rfl (by omega) rfl (show (ag fL FL 1 A2 i c2 vs).P _ from (σ.pat (k:=1) rfl)).1)<|cE rfl (fun η=>aJ (i:=0) (j:=0) (e:=(A9,nn,c9,e9)) η aH rfl rfl gX (by decide) (show (ag fL FL 1 A2 i c2 vs).P _ from (σ.pat (k:=1) rfl)).1 (by omega) xv rfl)<|lE 0 σ rfl<|eE rfl<|yg fL ((none,0,0,[]):LE) ar σ dI rfl (by omega) (by unfold maxLen; omega) fun _ cJ σ=>?_
 replace σ:=σ.aib g
 refine fX (fun mz l w=>∃k:Nat,∃us:List LE,g - k=mz/\l=[(26,.int .i64 (k:Nat)),(1,.slice A2 i c2),(7,.int .i64 (nn:Nat)),(8,.slice (some ⟨cJ,0,none⟩) g g),(25,.int .i64 (g:Nat))]/\St w0 w [av ar 43 1 (some ⟨cJ,0,none⟩) g g (fl fL us),bk bJ #[.int .i64 (i:Nat),.int .i64 (g:Nat),.slice A0 n0 c0,.slice A1 n1 c1] 28] [bL FL us,ag fN FN 2 A9 nn c9 e9,ag fL FL 1 A2 i c2 vs,ag fI FI 1 A1 n1 c1 es1,ag fJ FJ 5 A0 n0 c0 es0]/\k<=g/\us.map lz=nH (ie g nn G) k g []/\gZ w0.heap.size us) ⟨0,(List.replicate g ((none,0,0,[]):LE)),rfl,rfl,σ,(bm _),(by rw [Js,mN]; rfl),(fun v hv a ha=>by rw [lW hv] at ha; cases ha)⟩ ⟨rfl,rfl,rfl,rfl,rfl,trivial⟩ ?_
 rintro _ _ _ ⟨k,us,rfl,rfl,σ,hk,EO,EM⟩
 refine ei rfl<|wD (fun lU=>?_) fun lU=>?_
 ·have cD:k<g:=by omega
  refine iT rfl rfl<|eE rfl<|mkN fN ((none,0,0):NE) ar σ bK rfl mu (by omega) (by unfold maxLen; omega) fun _ eZ σ=>?_
  replace σ:=σ.sU (kI nn _) ⟨aL,aL,aN rfl,trivial⟩
  refine vE rfl (fun η=>az (i:=k) η Tryz.underlying131 (aH.size) rfl rfl (by omega) rfl (ax (σ.owns (k:=1) rfl)))<|eE rfl<|qI 1 k (e1:=((some ⟨eZ,0,none⟩),nn,nn,([]:List NE))) gX σ rfl rfl (by omega) (by have:=aM List.length EO; rw [aZ] at this; exact this.trans (iv hk (iX (by omega)).symm)) fun _ σ=>ei rfl<|wD (fun qx=>?_) fun qx=>?_
  ·obtain ⟨⟨Ak,nk,ck,ek⟩,hxk⟩:∃e,vs[k]?=some e:=⟨_,aw (by omega)⟩
   replace σ:=σ.elem (k:=3) rfl hxk
   replace σ:St w0 _ [av ar 52 2 (some ⟨eZ,0,none⟩) nn nn (fl fN (List.replicate nn ((none,0,0):NE))),av ar 43 1 (some ⟨cJ,0,none⟩) g g (fl fL (us.set k ((some ⟨eZ,0,none⟩),nn,nn,([]:List NE)))),bk bJ #[.int .i64 (i:Nat),.int .i64 (g:Nat),.slice A0 n0 c0,.slice A1 n1 c1] 28] [ag fN FN 2 Ak nk ck ek,bL FN (List.replicate nn ((none,0,0):NE)),bL FL us,ag fN FN 2 A9 nn c9 e9,ag fL FL 1 A2 i c2 vs,ag fI FI 1 A1 n1 c1 es1,ag fJ FJ 5 A0 n0 c0 es0]:=σ
   have hnk:=Er hG mC h2.2.2 _ (aB hxk)
   dsimp only at hnk
   obtain rfl:nn=nk:=hnk.symm
   have ZJ:=(σ.pat (k:=0) rfl).2.1
   replace σ:=σ.aia (k:=0) rfl
   refine iT rfl rfl<|vE rfl (fun η=>az (i:=k) η Tryz.underlying131 (aH.size) rfl rfl (by omega) rfl (show (ag fL FL 1 A2 i c2 vs).P _ from (σ.pat (k:=5) rfl)).1)<|cE rfl (fun η=>aJ (i:=k) (j:=0) (e:=(Ak,nn,ck,ek)) η aH rfl rfl gX (by decide) (show (ag fL FL 1 A2 i c2 vs).P _ from (σ.pat (k:=5) rfl)).1 (by omega) hxk rfl)<|ir rfl<|kB (b':=false) (Bw rfl)<|pd rfl<|kB (b':=false) (bR (by omega))<|iF rfl rfl<|gY [8] [0,4,8,13,16,20,24,29,34] (by kernel_rfl) σ fun _ σ=>vE rfl (fun η=>az (i:=k) η Tryz.underlying131 (aH.size) rfl rfl (by omega) rfl (ax (σ.owns (k:=1) rfl)))<|sE rfl (fun η hg=>aJ (i:=k) (j:=0) (e:=((some ⟨eZ,0,none⟩),nn,nn,([]:List NE))) η aH rfl rfl gX (by decide) (ax (hg.ow (j:=1) rfl)) (by omega) (C2 (by rw [show us.length=g by have:=aM List.length EO; rw [aZ] at this; exact this.trans (iv hk (iX (by omega)).symm)]; exact cD)) rfl)<|vE rfl (fun η=>az (i:=k) η Tryz.underlying131 (aH.size) rfl rfl (by omega) rfl (show (ag fL FL 1 A2 i c2 vs).P _ from (σ.pat (k:=5) rfl)).1)<|sE rfl (fun η hg=>aJ (i:=k) (j:=0) (e:=(Ak,nn,ck,ek)) η aH rfl rfl gX (by decide) (show (ag fL FL 1 A2 i c2 vs).P _ from (hg.pt (j:=5) rfl)).1 (by omega) hxk rfl)<|eS rfl<|cpE 0 σ (σ.pat (k:=1) rfl).1 eF (by simp) ZJ aic aid (ah.size) rfl fun _ σ=>sz rfl<|?_
   have hle:ek.length=nn:=ZJ
   rw [bD (by omega),show (List.replicate nn ((none,0,0):NE)).drop nn=[] by simp,fv] at σ
   have XE:∀a:Addr,((some ⟨eZ,0,none⟩):Option Addr)=some a->w0.heap.size<=a.block:=fun a ha=>by cases ha; exact oU σ (k:=0) rfl
   rw [Es us k (some ⟨eZ,0,none⟩) nn nn [] ek] at σ
   replace σ:=σ.rU (k:=0) (j:=0) rfl rfl hle
   replace σ:=σ.qp (F:=FL) (e:=((some ⟨eZ,0,none⟩),nn,nn,ek)) (i:=5) (j:=0) rfl rfl k
   replace σ:St w0 _ [av ar 43 1 (some ⟨cJ,0,none⟩) g g (fl fL (us.set k ((some ⟨eZ,0,none⟩),nn,nn,ek))),bk bJ #[.int .i64 (i:Nat),.int .i64 (g:Nat),.slice A0 n0 c0,.slice A1 n1 c1] 28] [bL FL (us.set k ((some ⟨eZ,0,none⟩),nn,nn,ek)),ag fN FN 2 (some ⟨eZ,0,none⟩) nn nn ek,bL FN ek,ag fN FN 2 Ak nn ck ek,bL FN (List.replicate nn ((none,0,0):NE)),bL FL us,ag fN FN 2 A9 nn c9 e9,ag fL FL 1 A2 i c2 vs,ag fI FI 1 A1 n1 c1 es1,ag fJ FJ 5 A0 n0 c0 es0]:=σ.pick [0,1] [0,1,3,4,5,6,7,8,9,10] (by decide)
   exact can (j:=1) rfl (by omega)<|dF ⟨k+1,(us.set k ((some ⟨eZ,0,none⟩),nn,nn,ek)),rfl,rfl,σ.pick [0,1] [0,6,7,8,9] (by decide),(by omega),(Tj EO (by rw [Eo (by omega) cD,aR (by omega),aie mC hxk]; rfl) cD rfl),(EM.set XE)⟩ ⟨rfl,rfl,rfl,rfl,rfl,trivial⟩ (by omega)
  ·have hle:(List.replicate nn ((none,0,0):NE)).length=nn:=by simp
   have XE:∀a:Addr,((some ⟨eZ,0,none⟩):Option Addr)=some a->w0.heap.size<=a.block:=fun a ha=>by cases ha; exact oU σ (k:=0) rfl
   rw [Es us k (some ⟨eZ,0,none⟩) nn nn [] (List.replicate nn ((none,0,0):NE))] at σ
   replace σ:=σ.rU (k:=0) (j:=0) rfl rfl hle
   replace σ:=σ.qp (F:=FL) (e:=((some ⟨eZ,0,none⟩),nn,nn,(List.replicate nn ((none,0,0):NE)))) (i:=3) (j:=0) rfl rfl k
   replace σ:St w0 _ [av ar 43 1 (some ⟨cJ,0,none⟩) g g (fl fL (us.set k ((some ⟨eZ,0,none⟩),nn,nn,(List.replicate nn ((none,0,0):NE))))),bk bJ #[.int .i64 (i:Nat),.int .i64 (g:Nat),.slice A0 n0 c0,.slice A1 n1 c1] 28] [bL FL (us.set k ((some ⟨eZ,0,none⟩),nn,nn,(List.replicate nn ((none,0,0):NE)))),ag fN FN 2 (some ⟨eZ,0,none⟩) nn nn (List.replicate nn ((none,0,0):NE)),bL FN (List.replicate nn ((none,0,0):NE)),bL FL us,ag fN FN 2 A9 nn c9 e9,ag fL FL 1 A2 i c2 vs,ag fI FI 1 A1 n1 c1 es1,ag fJ FJ 5 A0 n0 c0 es0]:=σ.pick [0,1] [0,1,3,4,5,6,7,8] (by decide)
   exact iF rfl rfl<|can (j:=1) rfl (by omega)<|dF ⟨k+1,(us.set k ((some ⟨eZ,0,none⟩),nn,nn,(List.replicate nn ((none,0,0):NE)))),rfl,rfl,σ.pick [0,1] [0,4,5,6,7] (by decide),(by omega),(Tj EO (by rw [Eo (by omega) cD,aQ (by omega)]) cD (Tk nn)),(EM.set XE)⟩ ⟨rfl,rfl,rfl,rfl,rfl,trivial⟩ (by omega)
 ·obtain rfl:g=k:=by omega
  exact iF rfl rfl<|o2 Tryz.results157 rfl<|⟨_,_,_,rfl,σ.pick [0] [0] (by decide),EM,by rw [EO,wA (iX (by omega))]⟩
theorem Mh {w0:World} {i g nn:Nat} {A0 A1:Option Addr} {n0 c0 n1 c1:Nat} {es0:List IE} {es1:List Int} {A2:Option Addr} {c2:Nat} {vs:List LE} {G:List Rw} (h0:(ag fJ FJ 5 A0 n0 c0 es0).P w0) (h1:(ag fI FI 1 A1 n1 c1 es1).P w0) (h2:(ag fL FL 1 A2 i c2 vs).P w0) (bH:jc (i:Nat) (g:Nat) n0 n1 es0 es1) (mC:vs.map lz=G) (hG:∀r∈G,r.length=nn) (yw:1<=nn/\nn<=4096) {b:Nat} {R':List Rw} (Kb:nG (b+64*0) G) (T5:b+64*n0<=2880000) (mr:kX (ie g nn G) es0=some R'):
  Calls Tryz.prog 112 #[.agg #[.int .i64 (i:Nat),.int .i64 (g:Nat),.slice A0 n0 c0,.slice A1 n1 c1],.slice A2 i c2] w0 fun e w'=>∃A c vo,e=.returned (.tuple #[.slice A n1 c,.int .i64 0,.int .i64 0])/\St w0 w' [av ar 43 1 A n1 c (fl fL vo)] [bL FL vo]/\gZ w0.heap.size vo/\vo.map lz=es1.map (eQ R'):=by
 refine dp Tryz.func112 rfl Tryz.ntmps112 rfl fun σ=>?_
 have a8:=h0.2.1
 have ic:=h0.1.cap
 have bW:=h0.1.big
 unfold maxLen at bW
 have cY:=h1.2.1
 have kY:=h1.1.cap
 have eC:=h1.1.big
 unfold maxLen at eC
 replace σ:=σ.aE h0
 replace σ:=σ.aE h1
 clear h0 h1
 have q1:=bH.i1
 have q2:=bH.ln
 have kS:=h2.2.1
 have EL:G.length=i:=by rw [<- mC,aZ]; exact kS
 replace σ:=σ.aE h2
 refine eE rfl<|gN σ rfl fun _ bJ σ=>gE 0 σ rfl<|eE rfl<|cS Tryz.call157 (XD (σ.pat (k:=2) rfl) (σ.pat (k:=1) rfl) (σ.pat (k:=0) rfl) bH mC hG yw) rfl ?_
 rintro _ _ ⟨Ar,cr,ur,rfl,hSr,hNr,hur⟩
 refine ⟨_,rfl,?_⟩
 have hs1:=σ.below.size
 replace σ:=σ.oT hSr hNr ⟨aN rfl,trivial⟩
 replace hNr:gZ w0.heap.size ur:=fun v hv a ha=>bq hs1 (hNr v hv a ha)
 refine ir rfl<|kB (b':=false) rfl<|iF rfl rfl<|gY [3] [5,8,2,14,16] (by kernel_rfl) σ fun _ σ=>gS 1 rfl<|eS rfl<|dx Tryz.call159 Xx σ rfl fun _ σ=>sk σ.kn<|eS rfl<|cS Tryz.call158 (adz (i:=i) (n1:=n1) (c1:=c1) (A1:=A1) hur bH.may mr (mI (by omega) hG) (by omega) (by omega) (Mg Kb) T5 (σ.bO (k:=0) rfl [0,3])) rfl ?_
 rintro _ _ ⟨uq,rfl,ZK,huq,hOq⟩
 refine ⟨_,rfl,?_⟩
 have ME:=σ.below.size
 replace σ:=σ.an0 (k:=0) rfl (j:=0) rfl ZK hOq ⟨aL,aN rfl,trivial⟩
 have hNq:=hOq.new hNr ME
 refine sz rfl<|xd rfl<|kB (b':=false) rfl<|iF rfl rfl<|lE 1 σ rfl<|?_
 replace σ:=(σ.cl ar 43 1).nP FL
 refine fX (fun mz l w=>∃x:Nat,∃A4:Option Addr,∃c4:Nat,∃vo:List LE,n1 - x=mz/\l=[(32,.int .i64 (x:Nat)),(10,.slice A4 x c4),(7,.slice Ar g cr),(30,.slice A1 n1 c1),(31,.int .i64 (n1:Nat))]/\St w0 w [av ar 43 1 A4 x c4 (fl fL vo),av ar 43 1 Ar g cr (fl fL uq),bk bJ #[.int .i64 (i:Nat),.int .i64 (g:Nat),.slice A0 n0 c0,.slice A1 n1 c1] 28] [bL FL vo,bL FL uq,ag fL FL 1 A2 i c2 vs,ag fI FI 1 A1 n1 c1 es1,ag fJ FJ 5 A0 n0 c0 es0]/\x<=n1/\vo.map lz=(es1.map (eQ R')).take x/\gZ w0.heap.size vo) ⟨0,none,0,[],rfl,rfl,σ.pick [0,1,2] [0,1,3,4,5] (by decide),(bm _),rfl,(gZ.nil _)⟩ ⟨rfl,rfl,rfl,rfl,rfl,trivial⟩ ?_
 rintro _ _ _ ⟨x,A4,c4,vo,rfl,rfl,σ,hx,hvo,OD⟩
 refine ei rfl<|wD (fun jG=>?_) fun jG=>?_
 ·have cD:x<n1:=by omega
  obtain ⟨r0,iH⟩:∃e,es1[x]?=some e:=⟨_,aw (by omega)⟩
  have hr8:=bH.out _ (aB iH)
  obtain ⟨r9,rfl⟩:=dh hr8.1
  have hql:uq.length=g:=by have:=aM List.length huq; rw [aZ] at this; rw [this]; exact (xU es0 mr bH.may (mI (by omega) hG).1 (mI (by omega) hG).2).1
  obtain ⟨⟨Aq,nq,cq,eq9⟩,xG⟩:∃e,uq[r9]?=some e:=⟨_,aw (by omega)⟩
  replace σ:=σ.qo (k:=1) rfl xG
  replace σ:St w0 _ [av ar 43 1 A4 x c4 (fl fL vo),av ar 43 1 Ar g cr (fl fL uq),bk bJ #[.int .i64 (i:Nat),.int .i64 (g:Nat),.slice A0 n0 c0,.slice A1 n1 c1] 28] [ag fN FN 2 Aq nq cq eq9,bL FL vo,bL FL uq,ag fL FL 1 A2 i c2 vs,ag fI FI 1 A1 n1 c1 es1,ag fJ FJ 5 A0 n0 c0 es0]:=σ
  have Vd:=xk (σ.pat (k:=2) rfl) (xU es0 mr bH.may (mI (by omega) hG).1 (mI (by omega) hG).2).2 huq _ (aB xG)
  dsimp only at Vd
  obtain rfl:nn=nq:=Vd.symm
  refine iT rfl rfl<|vE rfl (fun η=>az (i:=x) η Tryz.underlying26 (aD.size) rfl rfl (by omega) rfl (show (ag fI FI 1 A1 n1 c1 es1).P _ from (σ.pat (k:=4) rfl)).1)<|cE rfl (fun η=>aJ (i:=x) (j:=0) (e:=((r9:Nat):Int)) η aD rfl rfl bn (by decide) (show (ag fI FI 1 A1 n1 c1 es1).P _ from (σ.pat (k:=4) rfl)).1 (by omega) iH rfl)<|vE rfl (fun η=>az (i:=r9) η Tryz.underlying131 (aH.size) rfl rfl (by omega) rfl (ax (σ.owns (k:=1) rfl)))<|cE rfl (fun η=>aJ (i:=r9) (j:=0) (e:=(Aq,nn,cq,eq9)) η aH rfl rfl gX (by decide) (ax (σ.owns (k:=1) rfl)) (by omega) xG rfl)<|eE rfl<|cS Tryz.call161 (En (σ.pat (k:=0) rfl) rfl (by omega) (by omega)) rfl ?_
  rintro _ _ ⟨_,rfl,⟨oK,nv,xJ,rfl,AR,xF,xI⟩,hb⟩
  refine ⟨_,rfl,?_⟩
  have Ma:=fun a (ha:oK=some a)=>bq σ.below.size (AR.2.2 a ha)
  replace σ:=σ.iW hb AR xF (lh AR.2.1 ⟨aL,aL,aN rfl,trivial⟩)
  refine eE rfl<|lr (z:=1) #[.slice oK nn nv] σ (aH.size) dV rfl (by kernel_rfl) fun _ B4 σ=>eE rfl<|pT (new:=[(oK,nn,nv,xJ)]) 1 0 σ dI rfl (by unfold maxLen; omega) (by omega) fun _ Bt uc σ=>?_
  replace σ:=σ.l7 (e:=(oK,nn,nv,xJ)) (i:=2) (j:=0) rfl rfl
  exact can (j:=1) rfl (by omega)<|dF ⟨x+1,(some ⟨Bt,0,none⟩),uc,(vo++[(oK,nn,nv,xJ)]),rfl,rfl,σ.pick [1,2,3] [0,4,5,6,7] (by decide),(by omega),(CJ hvo iH huq xG xI),(OD.snoc (v:=(oK,nn,nv,xJ)) Ma)⟩ ⟨rfl,rfl,rfl,rfl,rfl,trivial⟩ (by omega)
 ·obtain rfl:n1=x:=by omega
  refine iF rfl rfl<|o3 Tryz.results112 rfl<|?_
  rw [bD (by rw [aZ]; omega)] at hvo
  exact ⟨_,_,_,rfl,σ.pick [0] [0] (by decide),OD,hvo⟩
def oW (e:IE):Prop:=e.1≠6/\e.1≠8
theorem qy {op t a b c:Int} (h6:op≠6) (h8:op≠8):oW (op,t,a,b,c):=⟨h6,h8⟩
theorem Tm (t a c:Int):oW (oI t a c):=by unfold oI; split; exact qy ai ai; split; exact qy ai ai; split<;>exact qy ai ai
theorem Tn {e:IE} (h:oW e):∀f∈vp e,oW f:=fun f hf=>by
 unfold vp at hf
 split at hf
 ·cases hf
 ·rw [cC.1 hf]; exact h
theorem Et (t c:Int):∀(m:Nat) (a:Int),∀f∈wV t a c m,oW f
 | 0,_,f,hf=>by cases hf
 | m+1,a,f,hf=>by
  unfold wV at hf
  rcases b6.1 hf with q | q
  ·exact Tn (Tm _ _ _) f q
  ·exact Et t c m t f q
theorem adD (k:Nat) (t term A B from_:Int) (j:Nat):∀f∈K3 k t term A B from_ j,oW f:=fun f hf=>by
 unfold K3 at hf
 rcases b6.1 hf with q | q
 ·exact Tn (Tm _ _ _) f q
 ·split at q
  ·rw [cC.1 q]; exact qy ai ai
  ·split at q
   ·rw [cC.1 q]; exact qy ai ai
   ·rcases b6.1 q with p | p
    ·exact Et _ _ _ _ f p
    ·rw [cC.1 p]; exact qy ai ai
theorem To (k:Nat) (t term A B:Int):∀(m:Nat) (from_:Int),∀f∈Dl k t term A B from_ m,oW f
 | 0,_,f,hf=>by cases hf
 | m+1,from_,f,hf=>by
  unfold Dl at hf
  rcases b6.1 hf with q | q
  ·exact adD _ _ _ _ _ _ _ f q
  ·exact To k t term A B m t f q
theorem adE (k:Nat) (term t:Int) (q:Int×Int):∀f∈Bs k term t q,oW f:=fun f hf=>by
 unfold Bs at hf
 split at hf
 ·cases hf
 ·split at hf
  ·rw [cC.1 hf]; exact qy ai ai
  ·split at hf
   ·exact Et _ _ _ _ f hf
   ·split at hf
    ·exact Et _ _ _ _ f hf
    ·exact To _ _ _ _ _ _ _ f hf
theorem JQ (k:Nat) (term:Int):∀(l:List (Int×Int)) (i:Nat),∀f∈iw k term i l,oW f
 | [],_,f,hf=>by cases hf
 | q::l,i,f,hf=>by
  unfold iw at hf
  rcases b6.1 hf with p | p
  ·exact adE _ _ _ _ f p
  ·exact JQ k term l (i+1) f p
theorem Hb {e:IE} (h:oW e):oW (bM e):=by
 obtain ⟨op,t,a,b,c⟩:=e
 unfold oW at h
 unfold bM oW
 dsimp only at h ⊢
 split
 ·split
  ·exact qy ai ai
  ·exact h
 ·split
  ·split
   ·exact qy ai ai
   ·split
    ·exact qy ai ai
    ·split
     ·rw [aR ae]; exact qy ai ai
     ·exact h
  ·exact h
theorem adF {f c s d:Int} {q:Int×Int} (hf:f≠6/\f≠8) (hs:s≠6/\s≠8) (h:mG f c s d=some q):q.1≠6/\q.1≠8:=by
 unfold mG at h
 repeat' split at h
 all_goals first
  | (cases h; done)
  | (have e:=dw h; subst e; dsimp only; omega)
theorem XF {a b x:IE} (ha:oW a) (hb:oW b) (h:eD a b=some x):oW x:=by
 unfold eD at h
 split at h
 ·cases h
 ·cases ht:mG a.1 a.2.2.2.2 b.1 b.2.2.2.2 with
  | none=>rw [ht] at h; cases h
  | some q=>
   rw [ht] at h
   obtain rfl:=dw h
   exact Hb (adF ha hb ht)
theorem CK:∀(st:List IE) (b:IE),(∀e∈st,oW e)->oW b->∀e∈dJ st b,oW e
 | [],b,_,hb,e,he=>by
  unfold dJ at he
  split at he
  ·cases he
  ·rw [cC.1 he]; exact hb
 | a::st,b,hs,hb,e,he=>by
  unfold dJ at he
  split at he
  ·exact hs e he
  ·split at he
   ·rcases dW.1 he with rfl | he
    ·exact hb
    ·exact hs e he
   ·next x hx=>exact CK st x (fun e he=>hs e (cO _ he)) (XF (hs a (bS ..)) hb hx) e he
theorem Tp {es:List IE} (h:∀e∈es,oW e):∀e∈kK es,oW e:=by
 have go:∀(l st:List IE),(∀e∈l,oW e)->(∀e∈st,oW e)->∀e∈l.foldl (fun st e=>dJ st (bM e)) st,oW e:=by
  intro l
  induction l with
  | nil=>intro st _ hs; exact hs
  | cons x l ih=>intro st hl hs; exact ih _ (fun e he=>hl e (cO _ he)) (CK st _ hs (Hb (hl x (bS ..))))
 intro e he
 exact go es [] h (fun _ q=>by cases q) e (List.mem_reverse.1 he)
theorem N1 {i g:Nat} {es:List IE} (h:∀e∈es,oW e):∀e∈l8 i g es,oW e:=by
 have go:∀(l:List IE) (s:Tb×List IE),(∀e∈l,oW e)->(∀e∈s.2,oW e)->∀e∈(l.foldl gF s).2,oW e:=by
  intro l
  induction l with
  | nil=>intro s _ hs; exact hs
  | cons x l ih=>
   intro s hl hs
   refine ih _ (fun e he=>hl e (cO _ he)) ?_
   unfold gF
   dsimp only
   split
   ·exact hs
   ·intro e he
    rcases b6.1 he with q | q
    ·exact hs e q
    ·rw [cC.1 q]
     split
     ·exact qy ai ai
     ·exact hl x (bS ..)
 exact go es _ h (fun _ q=>by cases q)
theorem Tq {i g:Nat} {p:List IE×List Int} (h:∀e∈p.1,oW e):∀e∈(DC i g p).1,oW e:=fun e he=>N1 (Tp h) e (oH _ _ e he)
theorem Mi {i g:Nat}:∀(n:Nat) (p:List IE×List Int),(∀e∈p.1,oW e)->∀e∈(gH i g n p).1,oW e
 | 0,p,h=>h
 | n+1,p,h=>by
  unfold gH
  split
  ·exact Tq h
  ·exact Mi n _ (Tq h)
theorem Hc {u:List Int}:∀(es:List IE) (qs:List (Int×Int)) (k:Nat) (p:Pk),(∀e∈es,oW e)->∀e∈(iZ u k p es qs).2,oW e
 | [],qs,k,p,_,e,he=>by cases qs<;>cases he
 | x::es,[],k,p,_,e,he=>by cases he
 | x::es,q::qs,k,p,h,e,he=>by
  unfold iZ at he
  dsimp only at he
  rcases dW.1 he with rfl | he
  ·exact h x (bS ..)
  ·exact Hc es qs _ _ (fun e he=>h e (cO _ he)) e he
theorem Mj {i g:Nat} {es:List IE} {os:List Int} (h:∀e∈es,oW e):∀e∈ig i g es os,oW e:=fun e he=>Hc _ _ _ _ (Mi 16 (es,os) h) e he
theorem XG {k t:Nat} {p:Pt} (h:mv p) (hk:k<=15) (ht:t<k):(ma k p t).natAbs<2 ^ 64:=by
 unfold ma
 rw [lH]
 have h1:(p.1 ^ t).natAbs*(p.2 ^ (k - 1 - t)).natAbs<=16 ^ t*16 ^ (k - 1 - t):=fG (adk h.1 t) (adk h.2 _)
 rw [<- mM] at h1
 have h2:16 ^ (t+(k - 1 - t))<=16 ^ 14:=fE ai ae
 exact qf (bq h1 h2) ai
theorem adG {es:List Pt} (h:iA es):nG (64+64*0) (Bb es):=fun r hr v hv=>by
 obtain ⟨p,hp,rfl⟩:=ff.1 hr
 obtain ⟨t,ht,rfl⟩:=ff.1 hv
 exact XG (h.qH p hp).1 h.some_.2 (nZ.1 ht)
theorem adH (k:Nat):nG (64+64*0) (wW k):=fun r hr v hv=>by
 obtain ⟨p,hp,rfl⟩:=ff.1 hr
 obtain ⟨t,ht,rfl⟩:=ff.1 hv
 unfold Ba
 split<;>decide
theorem XH (es:List Pt):∀r∈Bb es,r.length=es.length:=fun r hr=>by
 obtain ⟨p,_,rfl⟩:=ff.1 hr
 exact pO _ _
theorem adJ {n j:Nat}:(List.replicate n (0:Int)).set j 1=rf n (Ba j):=by
 unfold rf Ba
 apply CU cT
 intro t h1 h2
 rw [List.getElem_set,List.getElem_map,List.getElem_range,List.getElem_replicate]
 split
 ·rename_i q; subst q; rw [aR rfl]
 ·rename_i q; rw [aQ (qm q)]
theorem Tr {vs:List LE} {R:List Rw} {j:Nat} {A:Option Addr} {n c:Nat} {es:List NE} {r:Rw} (h:vs.map lz=R) (he:vs[j]?=some (A,n,c,es)) (hr:R[j]?=some r):es.map zz=r:=by
 rw [<- h,bo,he] at hr
 exact dw hr
theorem aij {es:List Pt} (h:zZ es) {j:Nat} {p:Pt} (he:es[j]?=some p):vq p.1/\vq p.2:=h.2.2 p (aB he)
theorem N2 {w0:World} {A0 A1 A2:Option Addr} {n0 c0 c1 n2 c2 g:Nat} {es0:List IE} {es1:List Int} {dL:List Pt} (h0:(jM A0 n0 c0 es0).P w0) (h1:(bE A1 n2 c1 es1).P w0) (h2:(u3 A2 n2 c2 dL).P w0) (bH:jc (n2:Nat) (g:Nat) n0 n2 es0 es1) (vf:iA dL) (hpr:lp n2 g n2 (Bb dL) es0 es1 (wW n2)):
  Calls Tryz.prog 77 #[.agg (u4 n2 g A0 n0 c0 A1 n2 c1),.slice A2 n2 c2] w0 fun e w'=>e=.returned (.tuple #[.bool true,aq 0])/\Below w0.heap.size w0 w':=by
 refine dp Tryz.func77 rfl Tryz.ntmps77 rfl fun σ=>?_
 have a8:=h0.2.1
 have cY:=h1.2.1
 have kS:=h2.2.1
 replace σ:=σ.aE h0
 replace σ:=σ.aE h1
 replace σ:=σ.aE h2
 have q1:=bH.i1
 have q2:=bH.ln
 have q3:=vf.some_
 obtain ⟨R',mr,y7⟩:=hpr.run
 refine eE rfl<|gN σ rfl fun _ bJ σ=>eE rfl<|cS Tryz.call116 (Xu σ.aU vf) rfl ?_
 rintro _ _ ⟨Ag,cg,ug,rfl,hSg,hNg,hug⟩
 refine ⟨_,rfl,?_⟩
 replace σ:=σ.oT hSg hNg ⟨aN rfl,trivial⟩
 have EJ:ug.length=n2:=by have:=aM List.length hug; rw [aZ] at this; exact this.trans (by unfold Bb; rw [aZ]; exact kS)
 refine ir rfl<|kB (b':=false) rfl<|iF rfl rfl<|gE 1 σ rfl<|eE rfl<|dx Tryz.call41 (iu σ.eY σ.cF bH) σ rfl fun _ σ=>ir rfl<|kB (b':=false) rfl<|iF rfl rfl<|lE 1 σ rfl<|ir rfl<|kB (b':=false) (Bw rfl)<|lE 1 σ rfl<|ir rfl<|kB (b':=false) (Bw rfl)<|iF rfl rfl<|gE 1 σ rfl<|eE rfl<|cS Tryz.call112 (Mh σ.eY σ.cF (rG σ.dm EJ σ.aU) bH hug (by rw [<- kS]; exact XH dL) ⟨by omega,by omega⟩ (adG vf) ae mr) rfl ?_
 rintro _ _ ⟨Ao,co,uo,rfl,hSo,OD,XI⟩
 refine ⟨_,rfl,?_⟩
 replace σ:=σ.oT hSo OD ⟨aL,aN rfl,trivial⟩
 rw [y7] at XI
 refine ir rfl<|kB (b':=false) rfl<|iF rfl rfl<|fX (fun mz l w=>∃j:Nat,n2 - j=mz/\l=[(54,ak j),(1,.slice A2 n2 c2),(52,.slice Ao n2 co),(53,ak n2)]/\St w0 w [aaP Ao n2 co uo,aaP Ag n2 cg ug,bk bJ (u4 n2 g A0 n0 c0 A1 n2 c1) 28] [bL FL uo,bL FL ug,u3 A2 n2 c2 dL,bE A1 n2 c1 es1,jM A0 n0 c0 es0]/\j<=n2) ⟨0,rfl,rfl,σ,(bm _)⟩ ay ?_
 rintro _ _ _ ⟨j,rfl,rfl,σ,hj⟩
 refine ei rfl<|wD (fun jG=>?_) fun jG=>?_
 ·have cD:j<n2:=ae
  have mE:uo.length=n2:=by have:=aM List.length XI; rw [aZ,kN] at this; exact this
  obtain ⟨⟨Ax,nx,cx,ex⟩,hxo⟩:∃e,uo[j]?=some e:=⟨_,aw ae⟩
  replace σ:=σ.qo (k:=0) rfl hxo
  refine iT rfl rfl<|vE rfl (fun η=>az (i:=j) η Tryz.underlying131 (aH.size) rfl rfl ae rfl (ax σ.dm))<|cE rfl (fun η=>aJ (i:=j) (j:=0) (e:=(Ax,nx,cx,ex)) η aH rfl rfl gX ai (ax σ.dm) ae hxo rfl)<|eE rfl<|cS Tryz.call117 (Fy (n:=n2) (k:=j) ae ae) rfl ?_
  rintro _ _ ⟨_,rfl,⟨oK,nv,xJ,rfl,AR,xF,xI⟩,hb⟩
  refine ⟨_,rfl,?_⟩
  have Ma:=fun a (ha:oK=some a)=>bq σ.below.size (AR.2.2 a ha)
  replace σ:=σ.iW hb AR xF (lh AR.2.1 ⟨aL,aL,aN rfl,trivial⟩)
  exact eE rfl<|dx Tryz.call118 (JP σ.bC (Tr XI hxo (ZG ae)) σ.aU (xI.trans adJ)) σ rfl fun _ σ=>iF rfl rfl<|can (j:=1) rfl ae<|dF ⟨j+1,rfl,rfl,σ.pick [0,1,2] [2,3,4,5,6] ai,ae⟩ ay ae
 ·exact iF rfl rfl<|o2 Tryz.results77 rfl<|⟨rfl,σ.below⟩
theorem Hd {w0:World} {kk:Nat} {A0 A1 A2:Option Addr} {n0 c0 c1 n2 c2 g:Nat} {es0:List IE} {es1:List Int} {dL:List Pt} (h0:(jM A0 n0 c0 es0).P w0) (h1:(bE A1 n2 c1 es1).P w0) (h2:(u3 A2 n2 c2 dL).P w0) (hk:1<=kk/\kk<=8) (bH:jc (kk:Nat) (g:Nat) n0 n2 es0 es1) (vf:zZ dL) (rR:∀e∈es0,oW e) (hpr:lp kk g kk (wW kk) es0 es1 (dL.map fun q=>rf kk (ma kk q))):
  Calls Tryz.prog 74 #[.agg (u4 kk g A0 n0 c0 A1 n2 c1),ak kk,.slice A2 n2 c2] w0 fun e w'=>e=.returned (.tuple #[.bool true,aq 0])/\Below w0.heap.size w0 w':=by
 refine dp Tryz.func74 rfl Tryz.ntmps74 rfl fun σ=>?_
 have a8:=h0.2.1
 have cY:=h1.2.1
 have kS:=h2.2.1
 replace σ:=σ.aE h0
 replace σ:=σ.aE h1
 replace σ:=σ.aE h2
 have q1:=bH.i1
 have q2:=bH.ln
 obtain ⟨R',mr,y7⟩:=hpr.run
 refine eE rfl<|gN σ rfl fun _ bJ σ=>ei rfl<|kB (b':=false) (bR ae)<|pd rfl<|kB (b':=false) (bR ae)<|eE rfl<|dx Tryz.call82 (Cv σ.aU) σ rfl fun _ σ=>kB (b':=true) (dU vf)<|iF rfl rfl<|gE 0 σ rfl<|eE rfl<|dx Tryz.call41 (iu σ.cF σ.bC bH) σ rfl fun _ σ=>ir rfl<|kB (b':=false) rfl<|iF rfl rfl<|lE 0 σ rfl<|ir rfl<|kB (b':=false) (Bw rfl)<|lE 0 σ rfl<|ir rfl<|kB (b':=false) (Bw rfl)<|iF rfl rfl<|lE 0 σ rfl<|fX (fun mz l w=>∃k:Nat,n0 - k=mz/\l=[(54,ak k),(1,ak kk),(2,.slice A2 n2 c2),(3,bB bJ),(52,.slice A0 n0 c0),(53,ak n0)]/\St w0 w [bk bJ (u4 kk g A0 n0 c0 A1 n2 c1) 28] [u3 A2 n2 c2 dL,bE A1 n2 c1 es1,jM A0 n0 c0 es0]/\k<=n0) ⟨0,rfl,rfl,σ,(bm _)⟩ ay ?_
 rintro _ _ _ ⟨k,rfl,rfl,σ,hk⟩
 refine ei rfl<|wD (fun jG=>?_) fun jG=>?_
 ·have cD:k<n0:=ae
  obtain ⟨⟨op,tr,ra,rb,cn⟩,b5⟩:∃e,es0[k]?=some e:=⟨_,aw ae⟩
  have XJ:=rR _ (aB b5)
  unfold oW at XJ
  dsimp only at XJ
  exact iT rfl rfl<|vE rfl (fun η=>az (i:=k) η Tryz.underlying25 (an.size) rfl rfl ae rfl σ.cF.1)<|cE rfl (fun η=>bF (v:=#[aq op,aq tr,aq ra,aq rb,aq cn]) (i:=k) (e:=(op,tr,ra,rb,cn)) η an rfl rfl iR σ.cF.1 ae b5 rfl)<|eE rfl<|eL aI σ rfl fun _ fo σ=>eE rfl<|cX 0 σ rfl fun _ σ=>lE 0 σ rfl<|cZ rfl<|kB (b':=false) (kv.2 XJ.1)<|lE 0 σ rfl<|cZ rfl<|kB (b':=false) (kv.2 XJ.2)<|iF rfl rfl<|can (j:=1) rfl ae<|dF ⟨k+1,rfl,rfl,σ.pick [1] [0,1,2] ai,ae⟩ ay ae
 ·refine iF rfl rfl<|gY [] [1,4,10,14,16,20,24,28,32,36,40] aK σ fun _ σ=>gS 0 rfl<|eS rfl<|cS Tryz.call113 (S4 (k:=kk) ae) rfl ?_
  rintro _ _ ⟨Ag,cg,ug,rfl,hSg,hNg,hug⟩
  refine ⟨_,rfl,?_⟩
  replace σ:=σ.oT hSg hNg ⟨aN rfl,trivial⟩
  have EJ:ug.length=kk:=by have:=aM List.length hug; rw [aZ,kN] at this; exact this
  refine sk (σ.kd 1 1)<|eS rfl<|cS Tryz.call112 (Mh σ.eY σ.cF (rG σ.dm EJ σ.aU) bH hug (F4 kk) ⟨by omega,by omega⟩ (adH kk) ae mr) rfl ?_
  rintro _ _ ⟨Ao,co,uo,rfl,hSo,OD,XI⟩
  refine ⟨_,rfl,?_⟩
  replace σ:=σ.oT hSo OD ⟨aL,aN rfl,trivial⟩
  rw [y7] at XI
  refine sk (σ.kd 2 2)<|ir rfl<|kB (b':=false) rfl<|iF rfl rfl<|fX (fun mz l w=>∃j:Nat,n2 - j=mz/\l=[(79,ak j),(1,ak kk),(12,.slice Ao n2 co),(77,.slice A2 n2 c2),(78,ak n2)]/\St w0 w [aaP Ao n2 co uo,aaP Ag kk cg ug,bk bJ (u4 kk g A0 n0 c0 A1 n2 c1) 28] [bL FL uo,bL FL ug,u3 A2 n2 c2 dL,bE A1 n2 c1 es1,jM A0 n0 c0 es0]/\j<=n2) ⟨0,rfl,rfl,σ,(bm _)⟩ ay ?_
  rintro _ _ _ ⟨j,rfl,rfl,σ,hj⟩
  refine ei rfl<|wD (fun pV=>?_) fun pV=>?_
  ·have cD:j<n2:=ae
   obtain ⟨⟨pa,pb⟩,Cp⟩:∃e,dL[j]?=some e:=⟨_,aw ae⟩
   have mE:uo.length=n2:=by have:=aM List.length XI; rw [aZ,aZ] at this; exact this.trans kS
   obtain ⟨⟨Ax,nx,cx,ex⟩,hxo⟩:∃e,uo[j]?=some e:=⟨_,aw ae⟩
   replace σ:=σ.qo (k:=0) rfl hxo
   replace σ:St w0 _ [aaP Ao n2 co uo,aaP Ag kk cg ug,bk bJ (u4 kk g A0 n0 c0 A1 n2 c1) 28] [vh Ax nx cx ex,bL FL uo,bL FL ug,u3 A2 n2 c2 dL,bE A1 n2 c1 es1,jM A0 n0 c0 es0]:=σ
   have OB:=Tr XI hxo (r:=rf kk (ma kk (pa,pb))) (by rw [bo,Cp]; rfl)
   have H7:=σ.aU.2.1
   have hx8:=aM List.length OB
   rw [aZ,pO] at hx8
   obtain rfl:kk=nx:=ae
   refine iT rfl rfl<|vE rfl (fun η=>az (i:=j) η Tryz.underlying22 (aC.size) rfl rfl ae rfl σ.eY.1)<|cE rfl (fun η=>bF (v:=#[aq pa,aq pb]) (i:=j) (e:=(pa,pb)) η aC rfl rfl ft σ.eY.1 ae Cp rfl)<|eE rfl<|eL bp σ rfl fun _ oo σ=>eE rfl<|cX 0 σ rfl fun _ σ=>gE 0 σ rfl<|eE rfl<|cS Tryz.call114 (CH (n:=kk) (aij vf Cp) ae) rfl ?_
   rintro _ _ ⟨GD,D4,XK,rfl,adL,an5,adM,hb⟩
   refine ⟨_,rfl,?_⟩
   have aq4:=fun a (ha:GD=some a)=>bq σ.below.size (adL.2.2 a ha)
   replace σ:=σ.iW hb adL an5 (lh adL.2.1 ⟨aN rfl,aL,aL,aN rfl,trivial⟩)
   refine vE rfl (fun η=>az (i:=j) η Tryz.underlying131 (aH.size) rfl rfl ae rfl (ax σ.fK))<|cE rfl (fun η=>aJ (i:=j) (j:=0) (e:=(Ax,kk,cx,ex)) η aH rfl rfl gX ai (ax σ.fK) ae hxo rfl)<|fX (fun mz l w=>∃t9:Nat,kk - t9=mz/\l=[(95,ak t9),(1,ak kk),(12,.slice Ao n2 co),(16,.slice GD kk D4),(77,.slice A2 n2 c2),(78,ak n2),(79,ak j),(93,.slice Ax kk cx),(94,ak kk)]/\St w0 w [bk oo #[aq pa,aq pb] 61,aaP Ao n2 co uo,aaP Ag kk cg ug,bk bJ (u4 kk g A0 n0 c0 A1 n2 c1) 28] [vh GD kk D4 XK,vh Ax kk cx ex,bL FL uo,bL FL ug,u3 A2 n2 c2 dL,bE A1 n2 c1 es1,jM A0 n0 c0 es0]/\t9<=kk) ⟨0,rfl,rfl,σ,(bm _)⟩ ay ?_
   rintro _ _ _ ⟨t9,rfl,rfl,σ,ht⟩
   refine ei rfl<|wD (fun Jd=>?_) fun Jd=>?_
   ·have au':t9<kk:=ae
    obtain ⟨⟨Au,cu,zu⟩,heu⟩:∃e,ex[t9]?=some e:=⟨_,aw ae⟩
    replace σ:=σ.elem (k:=1) rfl heu
    obtain ⟨⟨Aw,cw,zw⟩,hew⟩:∃e,XK[t9]?=some e:=⟨_,aw ae⟩
    replace σ:=σ.elem (k:=1) rfl hew
    obtain rfl:zu=zw:=Xb OB adM heu hew
    exact iT rfl rfl<|vE rfl (fun η=>az (i:=t9) η Tryz.underlying43 (ah.size) rfl rfl ae rfl σ.eY.1)<|cE rfl (fun η=>bF (i:=t9) (e:=(Au,cu,zu)) η ah rfl rfl eF σ.eY.1 ae heu rfl)<|eE rfl<|eL aG σ rfl fun _ WD σ=>eE rfl<|cX 0 σ rfl fun _ σ=>gY [] [1,4,8,12,17,22,24] aK σ fun _ σ=>gS 0 rfl<|vE rfl (fun η=>az (i:=t9) η Tryz.underlying43 (ah.size) rfl rfl ae rfl σ.cF.1)<|sE rfl (fun η hg=>bF (i:=t9) (e:=(Aw,cw,zu)) η ah rfl rfl eF (hg.pt (j:=2) rfl).1 ae hew rfl)<|eS rfl<|dx Tryz.call115 (Yv (x:=zu) (y:=zu) (show dK _ Au cu zu from σ.bC) (show dK _ Aw cw zu from σ.aU)) σ rfl fun _ σ=>sk σ.kn<|ir rfl<|kB (b':=false) (by rw [Int.sub_self]; rfl)<|iF rfl rfl<|can (j:=1) rfl ae<|dF ⟨t9+1,rfl,rfl,σ.pick [1,2,3,4] [2,3,4,5,6,7,8] ai,ae⟩ ay ae
   ·exact iF rfl rfl<|can (j:=1) rfl ae<|dF ⟨j+1,rfl,rfl,σ.pick [1,2,3] [2,3,4,5,6] ai,ae⟩ ay ae
  ·exact iF rfl rfl<|o2 Tryz.results74 rfl<|⟨rfl,σ.below⟩
theorem rH {α:Type} {f:α->List Value} {E z n c:Nat} {A:Option Addr} {es:List α} {w:World} (h:(av ar E z A n c (fl f es)).P w) (hl:es.length=n):(ag f (fun _=>jY) z A n c es).P w:=⟨ax h,hl,fun _ _=>trivial⟩
theorem Mk {k1 k2:Int} {es:List Pt} (h:oq k1 k2 es) (hp:iA es):zZ es:=⟨hp.some_.1,hp.some_.2,h.2.2⟩
theorem adO {w0:World} {k1 k2:Int} {A0:Option Addr} {n0 c0:Nat} {es0:List Pt} (h0:(u3 A0 n0 c0 es0).P w0) (hD:iG w0) (hn:n0<=9223372036854775807):
  Calls Tryz.prog 27 #[aq k1,aq k2,.slice A0 n0 c0] w0 fun e w'=>((e=.returned (.tuple #[.agg #[aq 0,aq 0,bA,aq 0,aq 0,bA,bA,aq 0,aq 0,bA,bA,aq 0,aq 0,bA,bA],aq 70])/\¬oq k1 k2 es0/\Below w0.heap.size w0 w')∨(e=.returned (.tuple #[.agg #[aq 0,aq 0,bA,aq 0,aq 0,bA,bA,aq 0,aq 0,bA,bA,aq 0,aq 0,bA,bA],aq 71])/\oq k1 k2 es0/\(¬((n0:Nat):Int)=k1+k2 - 1∨He es0∨sZ es0)/\Below w0.heap.size w0 w')∨(oq k1 k2 es0/\((n0:Nat):Int)=k1+k2 - 1/\iA es0/\∃u1 u2:Nat,k1=((u1:Nat):Int)/\k2=((u2:Nat):Int)/\∃Ap cp A1 m1 d1 B1 e1 A2 m2 d2 B2 e2 A3 m3 d3 B3 e3,e=.returned (.tuple #[.agg #[ak u1,ak u2,.slice Ap n0 cp,ak u1,ak (u1+n0+1),.slice A1 m1 d1,.slice B1 n0 e1,ak u2,ak (u2+n0+1),.slice A2 m2 d2,.slice B2 n0 e2,ak n0,ak (3*n0+1),.slice A3 m3 d3,.slice B3 n0 e3],aq 0])/\St w0 w' [aa1 Ap n0 cp es0,aad A1 m1 d1 (iw u1 ((u1+n0:Nat):Int) 0 es0),aab B1 n0 e1 (jd u1 n0),aad A2 m2 d2 (iw u2 ((u2+n0:Nat):Int) 0 es0),aab B2 n0 e2 (jd u2 n0),aad A3 m3 d3 (nS es0),aab B3 n0 e3 (sX n0)] []/\(iw u1 ((u1+n0:Nat):Int) 0 es0).length=m1/\(iw u2 ((u2+n0:Nat):Int) 0 es0).length=m2/\(nS es0).length=m3)):=by
 refine dp Tryz.func27 rfl Tryz.ntmps27 rfl fun σ=>?_
 replace σ:=σ.j1 hD
 have a8:=h0.2.1
 have ic:=h0.1.cap
 have bW:=h0.1.big
 unfold maxLen at bW
 replace σ:=σ.aE h0
 refine eE rfl<|eL cA σ rfl fun _ bJ σ=>eE rfl<|cS Tryz.call39 (Tw (k1:=k1) (k2:=k2) σ.aU ae) rfl ?_
 rintro _ _ ⟨v9,er9,rfl,h9,hb⟩
 refine ⟨_,rfl,?_⟩
 replace σ:=σ.call hb
 rcases h9 with ⟨rfl,hnL⟩|⟨rfl,hL,JR⟩|⟨rfl,hL,vg,vf⟩
 ·exact ir rfl<|kB (b':=true) rfl<|iT rfl rfl<|vE rfl (fun η=>cK (c:=#[aq 0,aq 0,bA,aq 0,aq 0,bA,bA,aq 0,aq 0,bA,bA,aq 0,aq 0,bA,bA]) gT η rfl rfl)<|eE rfl<|cX 0 σ rfl fun _ σ=>oR (fun e=>gC Tryz.results27 (RV.cell e eI rfl σ.dj rfl) (RV.tmp e rfl))<|.inl ⟨rfl,hnL,σ.below⟩
 ·exact ir rfl<|kB (b':=true) rfl<|iT rfl rfl<|vE rfl (fun η=>cK (c:=#[aq 0,aq 0,bA,aq 0,aq 0,bA,bA,aq 0,aq 0,bA,bA,aq 0,aq 0,bA,bA]) gT η rfl rfl)<|eE rfl<|cX 0 σ rfl fun _ σ=>oR (fun e=>gC Tryz.results27 (RV.cell e eI rfl σ.dj rfl) (RV.tmp e rfl))<|.inr (.inl ⟨rfl,hL,JR,σ.below⟩)
 ·obtain ⟨u1,rfl⟩:=dh (show 0<=k1 by have:=hL.1; omega)
  obtain ⟨u2,rfl⟩:=dh (show 0<=k2 by have:=hL.2.1; omega)
  have hL1:=hL.1
  have hL2:=hL.2.1
  have JS:=Mk hL vf
  have ZL:=vf.some_
  refine ir rfl<|kB (b':=false) rfl<|iF rfl rfl<|eE rfl<|cS Tryz.call20 (tV σ.aU ae) rfl ?_
  rintro _ _ ⟨z8,wh,rfl,D6⟩
  refine ⟨_,rfl,?_⟩
  replace σ:=σ.more D6
  refine vE rfl (fun η=>cK (c:=#[ak u1,ak u2,.slice z8 n0 wh,aq 0,aq 0,bA,bA,aq 0,aq 0,bA,bA,aq 0,aq 0,bA,bA]) gT η rfl aK)<|eE rfl<|eL cA σ rfl fun _ yi σ=>eE rfl<|cX 0 σ rfl fun _ σ=>eE rfl<|cS Tryz.call47 (JZ (kk:=u1) σ.aU σ.bC ae ae JS) rfl ?_
  rintro _ _ ⟨A1,m1,d1,B1,e1,rfl,hTw,iQ,hb⟩
  refine ⟨_,rfl,?_⟩
  replace σ:=σ.afU hb hTw
  refine eE rfl<|cX 2 σ rfl fun _ σ=>ir rfl<|kB (b':=false) rfl<|iF rfl rfl<|eE rfl<|cS Tryz.call47 (JZ (kk:=u2) σ.aU σ.bC ae ae JS) rfl ?_
  rintro _ _ ⟨A2,m2,d2,B2,e2,rfl,hTw,jb,hb⟩
  refine ⟨_,rfl,?_⟩
  replace σ:=σ.afU hb hTw
  refine eE rfl<|cX 4 σ rfl fun _ σ=>ir rfl<|kB (b':=false) rfl<|iF rfl rfl<|eE rfl<|cS Tryz.call48 (Jo σ.aU vf) rfl ?_
  rintro _ _ ⟨A3,m3,d3,B3,e3,rfl,hS3,sH⟩
  refine ⟨_,rfl,?_⟩
  replace σ:=σ.more hS3
  exact eE rfl<|cX 6 σ rfl fun _ σ=>ir rfl<|kB (b':=false) rfl<|iF rfl rfl<|gE 6 σ rfl<|eE rfl<|cX 8 σ rfl fun _ σ=>oR (fun e=>gC Tryz.results27 (RV.cell e eI rfl (σ.nA (k:=8) rfl) rfl) (RV.tmp e rfl))<|.inr (.inr ⟨hL,vg,vf,u1,u2,rfl,rfl,z8,wh,A1,m1,d1,B1,e1,A2,m2,d2,B2,e2,A3,m3,d3,B3,e3,rfl,σ.pick [7,4,5,2,3,0,1] [] ai,iQ,jb,sH⟩)
def OE (i:Nat) (p:Nat×List IE×List Int) (b:Bool):Nat×List IE×List Int:=match b with
 | true=>(nt i p.1 p.2.1 p.2.2,ig i p.1 p.2.1 p.2.2,ns i p.1 p.2.1 p.2.2)
 | false=>p
theorem CL {k n:Nat} {l:List Pt} (hl:l.length=n) (h1:1<=k) (h8:k<=8) (hP:zZ l):lp k (k+n+1) k (wW k) (iw k ((k+n:Nat):Int) 0 l) (jd k n) (l.map fun q=>rf k (ma k q))/\(iw k ((k+n:Nat):Int) 0 l).length<=960:=by
 subst hl
 refine ⟨af5 h1 hP.2.2,?_⟩
 have:=K5 ((k+l.length:Nat):Int) h8 l 0
 have:=hP.2.1
 omega
theorem Ex {k n m:Nat} {l:List Pt} (hl:l.length=n) (h1:1<=k) (h8:k<=8) (hP:zZ l) (hm:(iw k ((k+n:Nat):Int) 0 l).length=m):jc (k:Nat) ((k+n+1:Nat):Int) m n (iw k ((k+n:Nat):Int) 0 l) (jd k n):=by
 obtain ⟨hp,hq⟩:=CL hl h1 h8 hP
 have h2:=hP.1
 have h3:=hP.2.1
 exact ⟨⟨by omega,by omega,by omega⟩,⟨by omega,by omega,by omega⟩,hp.may,hp.out⟩
theorem Ml {n:Nat} {l:List Pt} (hl:l.length=n) (hP:iA l):lp n (3*n+1) n (Bb l) (nS l) (sX n) (wW n):=by
 subst hl
 exact af8 hP
theorem Tx {n m:Nat} {l:List Pt} (hl:l.length=n) (hP:iA l) (hm:(nS l).length=m):jc (n:Nat) ((3*n+1:Nat):Int) m n (nS l) (sX n):=by
 have hp:=Ml hl hP
 have h2:=hP.some_
 have h3:=aa4 h2.2
 exact ⟨⟨by omega,by omega,by omega⟩,⟨by omega,by omega,by omega⟩,hp.may,hp.out⟩
theorem AX (k n:Nat):(jd k n).length=n:=by unfold jd; split<;>simp
theorem Mm (n:Nat):(sX n).length=n:=by unfold sX; simp
theorem Ey {n:Nat} {l:List Pt} (hl:l.length=n):(Bb l).length=n:=by unfold Bb; rw [aZ]; exact hl
theorem Hh {w0:World} {g:Nat}:
  Calls Tryz.prog 28 #[bB g] w0 fun e w'=>∃h,e=.returned (.slice (bh h) 3 3)/\St w0 w' [bk h #[.pointer (some ⟨g,3,none⟩),.pointer (some ⟨g,7,none⟩),.pointer (some ⟨g,11,none⟩)] 77] []:=by
 exact dp Tryz.func28 rfl Tryz.ntmps28 rfl fun σ=>gY [] [0,4,8,12,16,20,24,28,32,38,40] aK σ fun _ σ=>eS rfl<|lr #[.pointer (some ⟨g,3,none⟩),.pointer (some ⟨g,7,none⟩),.pointer (some ⟨g,11,none⟩)] σ (eP.size) uC rfl aK fun _ bJ σ=>sk (σ.kd 1 0)<|o1 Tryz.results28 rfl<|⟨_,rfl,σ.pick [0] [] ai⟩
theorem JT {w0:World} {k1 k2:Int} {A0:Option Addr} {n0 c0:Nat} {es0:List Pt} (h0:(u3 A0 n0 c0 es0).P w0) (hD:iG w0) (hn:n0<=9223372036854775807):
  Calls Tryz.prog 7 #[aq k1,aq k2,.slice A0 n0 c0] w0 fun e w'=>((e=.returned (.tuple #[.agg #[aq 0,aq 0,bA,aq 0,aq 0,bA,bA,aq 0,aq 0,bA,bA,aq 0,aq 0,bA,bA],aq 70])/\¬oq k1 k2 es0/\Below w0.heap.size w0 w')∨(e=.returned (.tuple #[.agg #[aq 0,aq 0,bA,aq 0,aq 0,bA,bA,aq 0,aq 0,bA,bA,aq 0,aq 0,bA,bA],aq 71])/\oq k1 k2 es0/\(¬((n0:Nat):Int)=k1+k2 - 1∨He es0∨sZ es0)/\Below w0.heap.size w0 w')∨(oq k1 k2 es0/\((n0:Nat):Int)=k1+k2 - 1/\iA es0/\∃u1 u2:Nat,k1=((u1:Nat):Int)/\k2=((u2:Nat):Int)/\∃Ap cp X1 x1 y1 Z1 z1 X2 x2 y2 Z2 z2 X3 x3 y3 Z3 z3,e=.returned (.tuple #[.agg #[ak u1,ak u2,.slice Ap n0 cp,ak u1,ak (nt u1 (u1+n0+1) (iw u1 ((u1+n0:Nat):Int) 0 es0) (jd u1 n0)),.slice X1 x1 y1,.slice Z1 n0 z1,ak u2,ak (nt u2 (u2+n0+1) (iw u2 ((u2+n0:Nat):Int) 0 es0) (jd u2 n0)),.slice X2 x2 y2,.slice Z2 n0 z2,ak n0,ak (nt n0 (3*n0+1) (nS es0) (sX n0)),.slice X3 x3 y3,.slice Z3 n0 z3],aq 0])/\St w0 w' [aa1 Ap n0 cp es0,aad X1 x1 y1 (ig u1 (u1+n0+1) (iw u1 ((u1+n0:Nat):Int) 0 es0) (jd u1 n0)),aab Z1 n0 z1 (ns u1 (u1+n0+1) (iw u1 ((u1+n0:Nat):Int) 0 es0) (jd u1 n0)),aad X2 x2 y2 (ig u2 (u2+n0+1) (iw u2 ((u2+n0:Nat):Int) 0 es0) (jd u2 n0)),aab Z2 n0 z2 (ns u2 (u2+n0+1) (iw u2 ((u2+n0:Nat):Int) 0 es0) (jd u2 n0)),aad X3 x3 y3 (ig n0 (3*n0+1) (nS es0) (sX n0)),aab Z3 n0 z3 (ns n0 (3*n0+1) (nS es0) (sX n0))] []/\(ig u1 (u1+n0+1) (iw u1 ((u1+n0:Nat):Int) 0 es0) (jd u1 n0)).length=x1/\(ig u2 (u2+n0+1) (iw u2 ((u2+n0:Nat):Int) 0 es0) (jd u2 n0)).length=x2/\(ig n0 (3*n0+1) (nS es0) (sX n0)).length=x3)):=by
 refine dp Tryz.func7 rfl Tryz.ntmps7 rfl fun σ=>?_
 replace σ:=σ.j1 hD
 have a8:=h0.2.1
 have ic:=h0.1.cap
 have bW:=h0.1.big
 unfold maxLen at bW
 replace σ:=σ.aE h0
 clear h0
 refine eE rfl<|eL cA σ rfl fun _ bJ σ=>eE rfl<|cS Tryz.call27 (adO (k1:=k1) (k2:=k2) σ.aU σ.bC hn) rfl ?_
 rintro _ _ (⟨rfl,hnL,hb⟩|⟨rfl,hL,JR,hb⟩|⟨hL,vg,vf,u1,u2,rfl,rfl,Ap,cp,A1,m1,d1,B1,e1,A2,m2,d2,B2,e2,A3,m3,d3,B3,e3,rfl,hSr,iQ,jb,sH⟩)
 ·refine ⟨_,rfl,?_⟩
  replace σ:=σ.call hb
  exact eE rfl<|eL cA σ rfl fun _ cJ σ=>eE rfl<|cX 0 σ rfl fun _ σ=>ir rfl<|kB (b':=true) rfl<|iT rfl rfl<|vE rfl (fun η=>cK (c:=#[aq 0,aq 0,bA,aq 0,aq 0,bA,bA,aq 0,aq 0,bA,bA,aq 0,aq 0,bA,bA]) gT η rfl rfl)<|eE rfl<|cX 1 σ rfl fun _ σ=>oR (fun e=>gC Tryz.results7 (RV.cell e eI rfl σ.vQ rfl) (RV.tmp e rfl))<|.inl ⟨rfl,hnL,σ.below⟩
 ·refine ⟨_,rfl,?_⟩
  replace σ:=σ.call hb
  exact eE rfl<|eL cA σ rfl fun _ fo σ=>eE rfl<|cX 0 σ rfl fun _ σ=>ir rfl<|kB (b':=true) rfl<|iT rfl rfl<|vE rfl (fun η=>cK (c:=#[aq 0,aq 0,bA,aq 0,aq 0,bA,bA,aq 0,aq 0,bA,bA,aq 0,aq 0,bA,bA]) gT η rfl rfl)<|eE rfl<|cX 1 σ rfl fun _ σ=>oR (fun e=>gC Tryz.results7 (RV.cell e eI rfl σ.vQ rfl) (RV.tmp e rfl))<|.inr (.inl ⟨rfl,hL,JR,σ.below⟩)
 ·refine ⟨_,rfl,?_⟩
  replace σ:=σ.more hSr
  have hL1:=hL.1
  have hL2:=hL.2.1
  have JS:=Mk hL vf
  have ZL:=vf.some_
  have sP:=Ex a8 ae ae JS iQ (k:=u1)
  have xx:=Ex a8 ae ae JS jb (k:=u2)
  have M6:=Tx a8 vf sH
  have hp1:=(CL a8 (k:=u1) ae ae JS).1
  have ua:=(CL a8 (k:=u2) ae ae JS).1
  have hp3:=Ml a8 vf
  refine eE rfl<|eL cA σ rfl fun _ eZ σ=>eE rfl<|cX 0 σ rfl fun _ σ=>ir rfl<|kB (b':=false) rfl<|iF rfl rfl<|eE rfl<|cS Tryz.call28 (Hh (g:=eZ)) rfl ?_
  rintro _ _ ⟨N3,rfl,tO⟩
  refine ⟨_,rfl,?_⟩
  replace σ:=σ.more tO
  refine fX (fun mz l w=>∃j:Nat,∃X1:Option Addr,∃x1:Nat,∃y1:Nat,∃Z1:Option Addr,∃z1:Nat,∃X2:Option Addr,∃x2:Nat,∃y2:Nat,∃Z2:Option Addr,∃z2:Nat,∃X3:Option Addr,∃x3:Nat,∃y3:Nat,∃Z3:Option Addr,∃z3:Nat,3 - j=mz/\l=[(27,ak j),(6,bB bJ),(8,bB eZ),(25,.slice (bh N3) 3 3),(26,aq 3)]/\St w0 w [bk eZ #[ak u1,ak u2,.slice Ap n0 cp,ak u1,ak ((OE u1 (u1+n0+1,(iw u1 ((u1+n0:Nat):Int) 0 es0),(jd u1 n0)) (Nat.blt 0 j)).1),.slice X1 x1 y1,.slice Z1 n0 z1,ak u2,ak ((OE u2 (u2+n0+1,(iw u2 ((u2+n0:Nat):Int) 0 es0),(jd u2 n0)) (Nat.blt 1 j)).1),.slice X2 x2 y2,.slice Z2 n0 z2,ak n0,ak ((OE n0 (3*n0+1,(nS es0),(sX n0)) (Nat.blt 2 j)).1),.slice X3 x3 y3,.slice Z3 n0 z3] 30,aad X1 x1 y1 ((OE u1 (u1+n0+1,(iw u1 ((u1+n0:Nat):Int) 0 es0),(jd u1 n0)) (Nat.blt 0 j)).2.1),aab Z1 n0 z1 ((OE u1 (u1+n0+1,(iw u1 ((u1+n0:Nat):Int) 0 es0),(jd u1 n0)) (Nat.blt 0 j)).2.2),aad X2 x2 y2 ((OE u2 (u2+n0+1,(iw u2 ((u2+n0:Nat):Int) 0 es0),(jd u2 n0)) (Nat.blt 1 j)).2.1),aab Z2 n0 z2 ((OE u2 (u2+n0+1,(iw u2 ((u2+n0:Nat):Int) 0 es0),(jd u2 n0)) (Nat.blt 1 j)).2.2),aad X3 x3 y3 ((OE n0 (3*n0+1,(nS es0),(sX n0)) (Nat.blt 2 j)).2.1),aab Z3 n0 z3 ((OE n0 (3*n0+1,(nS es0),(sX n0)) (Nat.blt 2 j)).2.2),bk N3 #[.pointer (some ⟨eZ,3,none⟩),.pointer (some ⟨eZ,7,none⟩),.pointer (some ⟨eZ,11,none⟩)] 77,aa1 Ap n0 cp es0,bk bJ #[aq 0,aq 0,bA,aq 0,aq 0,bA,bA,aq 0,aq 0,bA,bA,aq 0,aq 0,bA,bA] 30] [u3 A0 n0 c0 es0,my]/\j<=3/\(OE u1 (u1+n0+1,(iw u1 ((u1+n0:Nat):Int) 0 es0),(jd u1 n0)) (Nat.blt 0 j)).2.1.length=x1/\(OE u2 (u2+n0+1,(iw u2 ((u2+n0:Nat):Int) 0 es0),(jd u2 n0)) (Nat.blt 1 j)).2.1.length=x2/\(OE n0 (3*n0+1,(nS es0),(sX n0)) (Nat.blt 2 j)).2.1.length=x3) ⟨0,A1,m1,d1,B1,e1,A2,m2,d2,B2,e2,A3,m3,d3,B3,e3,rfl,rfl,σ.pick [1,3,4,5,6,7,8,0,2,9] [0,1] ai,(bm _),iQ,jb,sH⟩ ay ?_
  rintro _ _ _ ⟨j,X1,x1,y1,Z1,z1,X2,x2,y2,Z2,z2,X3,x3,y3,Z3,z3,rfl,rfl,σ,hj,wY,CB,N4⟩
  rcases (show j=0∨j=1∨j=2∨j=3 by omega) with rfl|rfl|rfl|rfl
  ·replace σ:St w0 _ [bk eZ #[ak u1,ak u2,.slice Ap n0 cp,ak u1,ak (u1+n0+1),.slice X1 x1 y1,.slice Z1 n0 z1,ak u2,ak (u2+n0+1),.slice X2 x2 y2,.slice Z2 n0 z2,ak n0,ak (3*n0+1),.slice X3 x3 y3,.slice Z3 n0 z3] 30,aad X1 x1 y1 (iw u1 ((u1+n0:Nat):Int) 0 es0),aab Z1 n0 z1 (jd u1 n0),aad X2 x2 y2 (iw u2 ((u2+n0:Nat):Int) 0 es0),aab Z2 n0 z2 (jd u2 n0),aad X3 x3 y3 (nS es0),aab Z3 n0 z3 (sX n0),bk N3 #[.pointer (some ⟨eZ,3,none⟩),.pointer (some ⟨eZ,7,none⟩),.pointer (some ⟨eZ,11,none⟩)] 77,aa1 Ap n0 cp es0,bk bJ #[aq 0,aq 0,bA,aq 0,aq 0,bA,bA,aq 0,aq 0,bA,bA,aq 0,aq 0,bA,bA] 30] [u3 A0 n0 c0 es0,my]:=σ
   replace wY:(iw u1 ((u1+n0:Nat):Int) 0 es0).length=x1:=wY
   replace CB:(iw u2 ((u2+n0:Nat):Int) 0 es0).length=x2:=CB
   replace N4:(nS es0).length=x3:=N4
   refine ei rfl<|kB (b':=true) ai<|iT rfl rfl<|vE rfl (fun η=>kH (i:=0) (p:=0) η Tryz.underlying74 (eP.size) rfl rfl ae ae)<|lE 7 σ rfl<|cE rfl (fun η=>dH (cs:=[ak u1,ak (u1+n0+1),.slice X1 x1 y1,.slice Z1 n0 z1]) η aO rfl σ.dj rfl rfl)<|eE rfl<|cS Tryz.call29 (JB (i:=u1) (g:=u1+n0+1) (rH σ.fK wY) (rH σ.lY (AX _ _)) σ.bC (show jc (u1:Nat) ((u1+n0+1:Nat):Int) x1 n0 (iw u1 ((u1+n0:Nat):Int) 0 es0) (jd u1 n0) from by rw [<- wY]; rw [<- iQ] at sP; exact sP) (kN _) hp1) rfl ?_
   rintro _ _ ⟨A57,m58,d59,B60,e61,rfl,wm,tQ⟩
   refine ⟨_,rfl,?_⟩
   replace σ:=σ.more wm
   replace σ:=σ.pick [0,1,2,5,6,7,8,9,10,11] [0,1] ai
   replace σ:St w0 _ [aad A57 m58 d59 (ig u1 (u1+n0+1) (iw u1 ((u1+n0:Nat):Int) 0 es0) (jd u1 n0)),aab B60 n0 e61 (ns u1 (u1+n0+1) (iw u1 ((u1+n0:Nat):Int) 0 es0) (jd u1 n0)),bk eZ #[ak u1,ak u2,.slice Ap n0 cp,ak u1,ak (u1+n0+1),.slice X1 x1 y1,.slice Z1 n0 z1,ak u2,ak (u2+n0+1),.slice X2 x2 y2,.slice Z2 n0 z2,ak n0,ak (3*n0+1),.slice X3 x3 y3,.slice Z3 n0 z3] 30,aad X2 x2 y2 (iw u2 ((u2+n0:Nat):Int) 0 es0),aab Z2 n0 z2 (jd u2 n0),aad X3 x3 y3 (nS es0),aab Z3 n0 z3 (sX n0),bk N3 #[.pointer (some ⟨eZ,3,none⟩),.pointer (some ⟨eZ,7,none⟩),.pointer (some ⟨eZ,11,none⟩)] 77,aa1 Ap n0 cp es0,bk bJ #[aq 0,aq 0,bA,aq 0,aq 0,bA,bA,aq 0,aq 0,bA,bA,aq 0,aq 0,bA,bA] 30] [u3 A0 n0 c0 es0,my]:=σ
   exact eE rfl<|eL bf σ rfl fun _ NM σ=>eE rfl<|cX 0 σ rfl fun _ σ=>ir rfl<|kB (b':=false) rfl<|iF rfl rfl<|gE 0 σ rfl<|eE rfl<|cX 3 σ rfl fun _ σ=>can (i:=0) (j:=1) rfl ae<|dF ⟨1,A57,m58,d59,B60,e61,X2,x2,y2,Z2,z2,X3,x3,y3,Z3,z3,rfl,rfl,σ.pick [3,1,2,4,5,6,7,8,9,10] [0,1] ai,ae,tQ,CB,N4⟩ ay ae
  ·replace σ:St w0 _ [bk eZ #[ak u1,ak u2,.slice Ap n0 cp,ak u1,ak (nt u1 (u1+n0+1) (iw u1 ((u1+n0:Nat):Int) 0 es0) (jd u1 n0)),.slice X1 x1 y1,.slice Z1 n0 z1,ak u2,ak (u2+n0+1),.slice X2 x2 y2,.slice Z2 n0 z2,ak n0,ak (3*n0+1),.slice X3 x3 y3,.slice Z3 n0 z3] 30,aad X1 x1 y1 (ig u1 (u1+n0+1) (iw u1 ((u1+n0:Nat):Int) 0 es0) (jd u1 n0)),aab Z1 n0 z1 (ns u1 (u1+n0+1) (iw u1 ((u1+n0:Nat):Int) 0 es0) (jd u1 n0)),aad X2 x2 y2 (iw u2 ((u2+n0:Nat):Int) 0 es0),aab Z2 n0 z2 (jd u2 n0),aad X3 x3 y3 (nS es0),aab Z3 n0 z3 (sX n0),bk N3 #[.pointer (some ⟨eZ,3,none⟩),.pointer (some ⟨eZ,7,none⟩),.pointer (some ⟨eZ,11,none⟩)] 77,aa1 Ap n0 cp es0,bk bJ #[aq 0,aq 0,bA,aq 0,aq 0,bA,bA,aq 0,aq 0,bA,bA,aq 0,aq 0,bA,bA] 30] [u3 A0 n0 c0 es0,my]:=σ
   replace wY:(ig u1 (u1+n0+1) (iw u1 ((u1+n0:Nat):Int) 0 es0) (jd u1 n0)).length=x1:=wY
   replace CB:(iw u2 ((u2+n0:Nat):Int) 0 es0).length=x2:=CB
   replace N4:(nS es0).length=x3:=N4
   refine ei rfl<|kB (b':=true) ai<|iT rfl rfl<|vE rfl (fun η=>kH (i:=1) (p:=1) η Tryz.underlying74 (eP.size) rfl rfl ae ae)<|lE 7 σ rfl<|cE rfl (fun η=>dH (cs:=[ak u2,ak (u2+n0+1),.slice X2 x2 y2,.slice Z2 n0 z2]) η aO rfl σ.dj rfl rfl)<|eE rfl<|cS Tryz.call29 (JB (i:=u2) (g:=u2+n0+1) (rH σ.tw CB) (rH σ.Bl (AX _ _)) σ.bC (show jc (u2:Nat) ((u2+n0+1:Nat):Int) x2 n0 (iw u2 ((u2+n0:Nat):Int) 0 es0) (jd u2 n0) from by rw [<- CB]; rw [<- jb] at xx; exact xx) (kN _) ua) rfl ?_
   rintro _ _ ⟨V1,m66,d67,B68,e69,rfl,I6,aoa⟩
   refine ⟨_,rfl,?_⟩
   replace σ:=σ.more I6
   replace σ:=σ.pick [0,1,2,3,4,7,8,9,10,11] [0,1] ai
   replace σ:St w0 _ [aad V1 m66 d67 (ig u2 (u2+n0+1) (iw u2 ((u2+n0:Nat):Int) 0 es0) (jd u2 n0)),aab B68 n0 e69 (ns u2 (u2+n0+1) (iw u2 ((u2+n0:Nat):Int) 0 es0) (jd u2 n0)),bk eZ #[ak u1,ak u2,.slice Ap n0 cp,ak u1,ak (nt u1 (u1+n0+1) (iw u1 ((u1+n0:Nat):Int) 0 es0) (jd u1 n0)),.slice X1 x1 y1,.slice Z1 n0 z1,ak u2,ak (u2+n0+1),.slice X2 x2 y2,.slice Z2 n0 z2,ak n0,ak (3*n0+1),.slice X3 x3 y3,.slice Z3 n0 z3] 30,aad X1 x1 y1 (ig u1 (u1+n0+1) (iw u1 ((u1+n0:Nat):Int) 0 es0) (jd u1 n0)),aab Z1 n0 z1 (ns u1 (u1+n0+1) (iw u1 ((u1+n0:Nat):Int) 0 es0) (jd u1 n0)),aad X3 x3 y3 (nS es0),aab Z3 n0 z3 (sX n0),bk N3 #[.pointer (some ⟨eZ,3,none⟩),.pointer (some ⟨eZ,7,none⟩),.pointer (some ⟨eZ,11,none⟩)] 77,aa1 Ap n0 cp es0,bk bJ #[aq 0,aq 0,bA,aq 0,aq 0,bA,bA,aq 0,aq 0,bA,bA,aq 0,aq 0,bA,bA] 30] [u3 A0 n0 c0 es0,my]:=σ
   exact eE rfl<|eL bf σ rfl fun _ g72 σ=>eE rfl<|cX 0 σ rfl fun _ σ=>ir rfl<|kB (b':=false) rfl<|iF rfl rfl<|gE 0 σ rfl<|eE rfl<|cX 3 σ rfl fun _ σ=>can (i:=1) (j:=1) rfl ae<|dF ⟨2,X1,x1,y1,Z1,z1,V1,m66,d67,B68,e69,X3,x3,y3,Z3,z3,rfl,rfl,σ.pick [3,4,5,1,2,6,7,8,9,10] [0,1] ai,ae,wY,aoa,N4⟩ ay ae
  ·replace σ:St w0 _ [bk eZ #[ak u1,ak u2,.slice Ap n0 cp,ak u1,ak (nt u1 (u1+n0+1) (iw u1 ((u1+n0:Nat):Int) 0 es0) (jd u1 n0)),.slice X1 x1 y1,.slice Z1 n0 z1,ak u2,ak (nt u2 (u2+n0+1) (iw u2 ((u2+n0:Nat):Int) 0 es0) (jd u2 n0)),.slice X2 x2 y2,.slice Z2 n0 z2,ak n0,ak (3*n0+1),.slice X3 x3 y3,.slice Z3 n0 z3] 30,aad X1 x1 y1 (ig u1 (u1+n0+1) (iw u1 ((u1+n0:Nat):Int) 0 es0) (jd u1 n0)),aab Z1 n0 z1 (ns u1 (u1+n0+1) (iw u1 ((u1+n0:Nat):Int) 0 es0) (jd u1 n0)),aad X2 x2 y2 (ig u2 (u2+n0+1) (iw u2 ((u2+n0:Nat):Int) 0 es0) (jd u2 n0)),aab Z2 n0 z2 (ns u2 (u2+n0+1) (iw u2 ((u2+n0:Nat):Int) 0 es0) (jd u2 n0)),aad X3 x3 y3 (nS es0),aab Z3 n0 z3 (sX n0),bk N3 #[.pointer (some ⟨eZ,3,none⟩),.pointer (some ⟨eZ,7,none⟩),.pointer (some ⟨eZ,11,none⟩)] 77,aa1 Ap n0 cp es0,bk bJ #[aq 0,aq 0,bA,aq 0,aq 0,bA,bA,aq 0,aq 0,bA,bA,aq 0,aq 0,bA,bA] 30] [u3 A0 n0 c0 es0,my]:=σ
   replace wY:(ig u1 (u1+n0+1) (iw u1 ((u1+n0:Nat):Int) 0 es0) (jd u1 n0)).length=x1:=wY
   replace CB:(ig u2 (u2+n0+1) (iw u2 ((u2+n0:Nat):Int) 0 es0) (jd u2 n0)).length=x2:=CB
   replace N4:(nS es0).length=x3:=N4
   refine ei rfl<|kB (b':=true) ai<|iT rfl rfl<|vE rfl (fun η=>kH (i:=2) (p:=2) η Tryz.underlying74 (eP.size) rfl rfl ae ae)<|lE 7 σ rfl<|cE rfl (fun η=>dH (cs:=[ak n0,ak (3*n0+1),.slice X3 x3 y3,.slice Z3 n0 z3]) η aO rfl σ.dj rfl rfl)<|eE rfl<|cS Tryz.call29 (JB (i:=n0) (g:=3*n0+1) (rH σ.MN N4) (rH σ.O' (Mm _)) σ.bC (show jc (n0:Nat) ((3*n0+1:Nat):Int) x3 n0 (nS es0) (sX n0) from by rw [<- N4]; rw [<- sH] at M6; exact M6) (Ey a8) hp3) rfl ?_
   rintro _ _ ⟨A73,m74,d75,B76,e77,rfl,Je,WC⟩
   refine ⟨_,rfl,?_⟩
   replace σ:=σ.more Je
   replace σ:=σ.pick [0,1,2,3,4,5,6,9,10,11] [0,1] ai
   replace σ:St w0 _ [aad A73 m74 d75 (ig n0 (3*n0+1) (nS es0) (sX n0)),aab B76 n0 e77 (ns n0 (3*n0+1) (nS es0) (sX n0)),bk eZ #[ak u1,ak u2,.slice Ap n0 cp,ak u1,ak (nt u1 (u1+n0+1) (iw u1 ((u1+n0:Nat):Int) 0 es0) (jd u1 n0)),.slice X1 x1 y1,.slice Z1 n0 z1,ak u2,ak (nt u2 (u2+n0+1) (iw u2 ((u2+n0:Nat):Int) 0 es0) (jd u2 n0)),.slice X2 x2 y2,.slice Z2 n0 z2,ak n0,ak (3*n0+1),.slice X3 x3 y3,.slice Z3 n0 z3] 30,aad X1 x1 y1 (ig u1 (u1+n0+1) (iw u1 ((u1+n0:Nat):Int) 0 es0) (jd u1 n0)),aab Z1 n0 z1 (ns u1 (u1+n0+1) (iw u1 ((u1+n0:Nat):Int) 0 es0) (jd u1 n0)),aad X2 x2 y2 (ig u2 (u2+n0+1) (iw u2 ((u2+n0:Nat):Int) 0 es0) (jd u2 n0)),aab Z2 n0 z2 (ns u2 (u2+n0+1) (iw u2 ((u2+n0:Nat):Int) 0 es0) (jd u2 n0)),bk N3 #[.pointer (some ⟨eZ,3,none⟩),.pointer (some ⟨eZ,7,none⟩),.pointer (some ⟨eZ,11,none⟩)] 77,aa1 Ap n0 cp es0,bk bJ #[aq 0,aq 0,bA,aq 0,aq 0,bA,bA,aq 0,aq 0,bA,bA,aq 0,aq 0,bA,bA] 30] [u3 A0 n0 c0 es0,my]:=σ
   exact eE rfl<|eL bf σ rfl fun _ g80 σ=>eE rfl<|cX 0 σ rfl fun _ σ=>ir rfl<|kB (b':=false) rfl<|iF rfl rfl<|gE 0 σ rfl<|eE rfl<|cX 3 σ rfl fun _ σ=>can (i:=2) (j:=1) rfl ae<|dF ⟨3,X1,x1,y1,Z1,z1,X2,x2,y2,Z2,z2,A73,m74,d75,B76,e77,rfl,rfl,σ.pick [3,4,5,6,7,1,2,8,9,10] [0,1] ai,ae,wY,CB,WC⟩ ay ae
  ·replace σ:St w0 _ [bk eZ #[ak u1,ak u2,.slice Ap n0 cp,ak u1,ak (nt u1 (u1+n0+1) (iw u1 ((u1+n0:Nat):Int) 0 es0) (jd u1 n0)),.slice X1 x1 y1,.slice Z1 n0 z1,ak u2,ak (nt u2 (u2+n0+1) (iw u2 ((u2+n0:Nat):Int) 0 es0) (jd u2 n0)),.slice X2 x2 y2,.slice Z2 n0 z2,ak n0,ak (nt n0 (3*n0+1) (nS es0) (sX n0)),.slice X3 x3 y3,.slice Z3 n0 z3] 30,aad X1 x1 y1 (ig u1 (u1+n0+1) (iw u1 ((u1+n0:Nat):Int) 0 es0) (jd u1 n0)),aab Z1 n0 z1 (ns u1 (u1+n0+1) (iw u1 ((u1+n0:Nat):Int) 0 es0) (jd u1 n0)),aad X2 x2 y2 (ig u2 (u2+n0+1) (iw u2 ((u2+n0:Nat):Int) 0 es0) (jd u2 n0)),aab Z2 n0 z2 (ns u2 (u2+n0+1) (iw u2 ((u2+n0:Nat):Int) 0 es0) (jd u2 n0)),aad X3 x3 y3 (ig n0 (3*n0+1) (nS es0) (sX n0)),aab Z3 n0 z3 (ns n0 (3*n0+1) (nS es0) (sX n0)),bk N3 #[.pointer (some ⟨eZ,3,none⟩),.pointer (some ⟨eZ,7,none⟩),.pointer (some ⟨eZ,11,none⟩)] 77,aa1 Ap n0 cp es0,bk bJ #[aq 0,aq 0,bA,aq 0,aq 0,bA,bA,aq 0,aq 0,bA,bA,aq 0,aq 0,bA,bA] 30] [u3 A0 n0 c0 es0,my]:=σ
   replace wY:(ig u1 (u1+n0+1) (iw u1 ((u1+n0:Nat):Int) 0 es0) (jd u1 n0)).length=x1:=wY
   replace CB:(ig u2 (u2+n0+1) (iw u2 ((u2+n0:Nat):Int) 0 es0) (jd u2 n0)).length=x2:=CB
   replace N4:(ig n0 (3*n0+1) (nS es0) (sX n0)).length=x3:=N4
   exact ei rfl<|kB (b':=false) ai<|iF rfl rfl<|gE 0 σ rfl<|eE rfl<|cX 9 σ rfl fun _ σ=>oR (fun e=>gC Tryz.results7 (RV.cell e eI rfl (σ.nA (k:=9) rfl) rfl) (RV.tmp e rfl))<|.inr (.inr ⟨hL,vg,vf,u1,u2,rfl,rfl,Ap,cp,X1,x1,y1,Z1,z1,X2,x2,y2,Z2,z2,X3,x3,y3,Z3,z3,rfl,σ.pick [8,1,2,3,4,5,6] [] ai,wY,CB,N4⟩)
structure Un where
 k1:Nat
 k2:Nat
 n:Nat
 Ap:Option Addr
 cp:Nat
 ps:List Pt
 gL:Nat
 A0:Option Addr
 n0:Nat
 c0:Nat
 e0:List IE
 A1:Option Addr
 c1:Nat
 e1:List Int
 gR:Nat
 A3:Option Addr
 n3:Nat
 c3:Nat
 e3:List IE
 A4:Option Addr
 c4:Nat
 e4:List Int
 gB:Nat
 A5:Option Addr
 n5:Nat
 c5:Nat
 e5:List IE
 A6:Option Addr
 c6:Nat
 e6:List Int
structure Un.Ok (u:Un):Prop where
 xm:(1<=u.k1/\u.k1<=8)/\(1<=u.k2/\u.k2<=8)/\∀p∈u.ps,mv p
 num:u.n+1=u.k1+u.k2
 ud:iA u.ps
 len:u.ps.length=u.n
 cL:jc (u.k1:Nat) (u.gL:Nat) u.n0 u.n u.e0 u.e1
 cR:jc (u.k2:Nat) (u.gR:Nat) u.n3 u.n u.e3 u.e4
 cB:jc (u.n:Nat) (u.gB:Nat) u.n5 u.n u.e5 u.e6
 pL:lp u.k1 u.gL u.k1 (wW u.k1) u.e0 u.e1 (u.ps.map fun q=>rf u.k1 (ma u.k1 q))
 pR:lp u.k2 u.gR u.k2 (wW u.k2) u.e3 u.e4 (u.ps.map fun q=>rf u.k2 (ma u.k2 q))
 pB:lp u.n u.gB u.n (Bb u.ps) u.e5 u.e6 (wW u.n)
 nL:∀e∈u.e0,oW e
 nR:∀e∈u.e3,oW e
structure Un.Mem (u:Un) (w:World):Prop where
 mP:(u3 u.Ap u.n u.cp u.ps).P w
 m0:(jM u.A0 u.n0 u.c0 u.e0).P w
 m1:(bE u.A1 u.n u.c1 u.e1).P w
 m3:(jM u.A3 u.n3 u.c3 u.e3).P w
 m4:(bE u.A4 u.n u.c4 u.e4).P w
 m5:(jM u.A5 u.n5 u.c5 u.e5).P w
 m6:(bE u.A6 u.n u.c6 u.e6).P w
theorem Un.Ok.ain {u:Un} (h:u.Ok):zZ u.ps:=⟨h.ud.some_.1,h.ud.some_.2,h.xm.2.2⟩
theorem XL {l:List Pt} (h:iA l):¬sZ l:=AD h
theorem aio {w0:World} {u:Un} (h0:(u3 u.Ap u.n u.cp u.ps).P w0) (bH:u.Ok):Calls Tryz.prog 39 #[ak u.k1,ak u.k2,.slice u.Ap u.n u.cp] w0 fun e w'=>∃v:Value,e=.returned (.tuple #[v,aq 0])/\Below w0.heap.size w0 w':=by
 have h1:=bH.xm
 have h2:=bH.num
 refine (Tw h0 ae).mono ?_
 rintro e w' ⟨v,er,he,hc,hb⟩
 rcases hc with ⟨_,q⟩ | ⟨_,_,q⟩ | ⟨rfl,_⟩
 ·exact absurd ⟨⟨by omega,by omega⟩,⟨by omega,by omega⟩,h1.2.2⟩ q
 ·rcases q with q | ⟨p,hp,q⟩ | q
  ·omega
  ·exact absurd q (bH.ud.qH p hp).2
  ·exact absurd q (XL bH.ud)
 ·exact ⟨v,he,hb⟩
theorem aip {w0:World} {u:Un} {gU:Nat} (bH:u.Ok) (hm:u.Mem w0) (hU:(bk gU #[ak u.k1,ak u.k2,.slice u.Ap u.n u.cp,ak u.k1,ak u.gL,.slice u.A0 u.n0 u.c0,.slice u.A1 u.n u.c1,ak u.k2,ak u.gR,.slice u.A3 u.n3 u.c3,.slice u.A4 u.n u.c4,ak u.n,ak u.gB,.slice u.A5 u.n5 u.c5,.slice u.A6 u.n u.c6] 30).P w0):
  Calls Tryz.prog 73 #[.agg (u4 u.k1 u.gL u.A0 u.n0 u.c0 u.A1 u.n u.c1),bB gU] w0 fun e w'=>e=.returned (.tuple #[.bool true,aq 0])/\Below w0.heap.size w0 w':=by
 refine dp Tryz.func73 rfl Tryz.ntmps73 rfl fun σ=>?_
 replace σ:=σ.aE hm.m6
 replace σ:=σ.aE hm.m5
 replace σ:=σ.aE hm.m4
 replace σ:=σ.aE hm.m3
 replace σ:=σ.aE hm.m1
 replace σ:=σ.aE hm.m0
 replace σ:=σ.aE hm.mP
 replace σ:=σ.iq (bk gU #[ak u.k1,ak u.k2,.slice u.Ap u.n u.cp,ak u.k1,ak u.gL,.slice u.A0 u.n0 u.c0,.slice u.A1 u.n u.c1,ak u.k2,ak u.gR,.slice u.A3 u.n3 u.c3,.slice u.A4 u.n u.c4,ak u.n,ak u.gB,.slice u.A5 u.n5 u.c5,.slice u.A6 u.n u.c6] 30) hU
 exact eE rfl<|gN σ rfl fun _ bJ σ=>gE 0 σ rfl<|cE rfl (fun η=>aS η aD rfl (kg σ.aU) rfl)<|cE rfl (fun η=>aS η jV rfl (kg σ.aU) rfl)<|eE rfl<|dx Tryz.call74 (Hd σ.cF σ.eY σ.bC bH.xm.1 bH.cL bH.ain bH.nL bH.pL) σ rfl fun _ σ=>o2 Tryz.results73 rfl<|⟨rfl,σ.below⟩
theorem aiq {w0:World} {u:Un} {gU:Nat} (bH:u.Ok) (hm:u.Mem w0) (hU:(bk gU #[ak u.k1,ak u.k2,.slice u.Ap u.n u.cp,ak u.k1,ak u.gL,.slice u.A0 u.n0 u.c0,.slice u.A1 u.n u.c1,ak u.k2,ak u.gR,.slice u.A3 u.n3 u.c3,.slice u.A4 u.n u.c4,ak u.n,ak u.gB,.slice u.A5 u.n5 u.c5,.slice u.A6 u.n u.c6] 30).P w0):
  Calls Tryz.prog 75 #[.agg (u4 u.k2 u.gR u.A3 u.n3 u.c3 u.A4 u.n u.c4),bB gU] w0 fun e w'=>e=.returned (.tuple #[.bool true,aq 0])/\Below w0.heap.size w0 w':=by
 refine dp Tryz.func75 rfl Tryz.ntmps75 rfl fun σ=>?_
 replace σ:=σ.aE hm.m6
 replace σ:=σ.aE hm.m5
 replace σ:=σ.aE hm.m4
 replace σ:=σ.aE hm.m3
 replace σ:=σ.aE hm.m1
 replace σ:=σ.aE hm.m0
 replace σ:=σ.aE hm.mP
 replace σ:=σ.iq (bk gU #[ak u.k1,ak u.k2,.slice u.Ap u.n u.cp,ak u.k1,ak u.gL,.slice u.A0 u.n0 u.c0,.slice u.A1 u.n u.c1,ak u.k2,ak u.gR,.slice u.A3 u.n3 u.c3,.slice u.A4 u.n u.c4,ak u.n,ak u.gB,.slice u.A5 u.n5 u.c5,.slice u.A6 u.n u.c6] 30) hU
 exact eE rfl<|gN σ rfl fun _ bJ σ=>gE 0 σ rfl<|cE rfl (fun η=>aS η aD rfl (kg σ.aU) rfl)<|cE rfl (fun η=>aS η jV rfl (kg σ.aU) rfl)<|eE rfl<|dx Tryz.call74 (Hd σ.jW σ.nF σ.bC bH.xm.2.1 bH.cR bH.ain bH.nR bH.pR) σ rfl fun _ σ=>o2 Tryz.results75 rfl<|⟨rfl,σ.below⟩
theorem air {w0:World} {u:Un} {gU:Nat} (bH:u.Ok) (hm:u.Mem w0) (hU:(bk gU #[ak u.k1,ak u.k2,.slice u.Ap u.n u.cp,ak u.k1,ak u.gL,.slice u.A0 u.n0 u.c0,.slice u.A1 u.n u.c1,ak u.k2,ak u.gR,.slice u.A3 u.n3 u.c3,.slice u.A4 u.n u.c4,ak u.n,ak u.gB,.slice u.A5 u.n5 u.c5,.slice u.A6 u.n u.c6] 30).P w0):
  Calls Tryz.prog 76 #[.agg (u4 u.n u.gB u.A5 u.n5 u.c5 u.A6 u.n u.c6),bB gU] w0 fun e w'=>e=.returned (.tuple #[.bool true,aq 0])/\Below w0.heap.size w0 w':=by
 refine dp Tryz.func76 rfl Tryz.ntmps76 rfl fun σ=>?_
 replace σ:=σ.aE hm.m6
 replace σ:=σ.aE hm.m5
 replace σ:=σ.aE hm.m4
 replace σ:=σ.aE hm.m3
 replace σ:=σ.aE hm.m1
 replace σ:=σ.aE hm.m0
 replace σ:=σ.aE hm.mP
 replace σ:=σ.iq (bk gU #[ak u.k1,ak u.k2,.slice u.Ap u.n u.cp,ak u.k1,ak u.gL,.slice u.A0 u.n0 u.c0,.slice u.A1 u.n u.c1,ak u.k2,ak u.gR,.slice u.A3 u.n3 u.c3,.slice u.A4 u.n u.c4,ak u.n,ak u.gB,.slice u.A5 u.n5 u.c5,.slice u.A6 u.n u.c6] 30) hU
 exact eE rfl<|gN σ rfl fun _ bJ σ=>gE 0 σ rfl<|cE rfl (fun η=>aS η jV rfl (kg σ.aU) rfl)<|eE rfl<|dx Tryz.call77 (N2 σ.uD (σ.pat (k:=7) rfl) σ.bC bH.cB bH.ud bH.pB) σ rfl fun _ σ=>o2 Tryz.results76 rfl<|⟨rfl,σ.below⟩
theorem Tz {w0:World} {u:Un}:
  Calls Tryz.prog 40 #[.agg #[ak u.k1,ak u.k2,.slice u.Ap u.n u.cp,ak u.k1,ak u.gL,.slice u.A0 u.n0 u.c0,.slice u.A1 u.n u.c1,ak u.k2,ak u.gR,.slice u.A3 u.n3 u.c3,.slice u.A4 u.n u.c4,ak u.n,ak u.gB,.slice u.A5 u.n5 u.c5,.slice u.A6 u.n u.c6]] w0 fun e w'=>∃gU gP,e=.returned (.slice (bh gP) 3 3)/\St w0 w' [bk gP #[ak u.k1,ak u.gL,.slice u.A0 u.n0 u.c0,.slice u.A1 u.n u.c1,.func (.func 73) #[] #[bB gU],ak u.k2,ak u.gR,.slice u.A3 u.n3 u.c3,.slice u.A4 u.n u.c4,.func (.func 75) #[] #[bB gU],ak u.n,ak u.gB,.slice u.A5 u.n5 u.c5,.slice u.A6 u.n u.c6,.func (.func 76) #[] #[bB gU]] 108,bk gU #[ak u.k1,ak u.k2,.slice u.Ap u.n u.cp,ak u.k1,ak u.gL,.slice u.A0 u.n0 u.c0,.slice u.A1 u.n u.c1,ak u.k2,ak u.gR,.slice u.A3 u.n3 u.c3,.slice u.A4 u.n u.c4,ak u.n,ak u.gB,.slice u.A5 u.n5 u.c5,.slice u.A6 u.n u.c6] 30] []:=by
 exact dp Tryz.func40 rfl Tryz.ntmps40 rfl fun σ=>eE rfl<|gN σ rfl fun _ bJ σ=>cE rfl (fun η=>dH (cs:=[ak u.k1,ak u.gL,.slice u.A0 u.n0 u.c0,.slice u.A1 u.n u.c1]) η aO rfl σ.dj rfl rfl)<|vE rfl (fun η=>cW (us:=#[]) (vs:=#[bB bJ]) η rfl rfl)<|vE rfl (fun η=>cK (c:=#[ak u.k1,ak u.gL,.slice u.A0 u.n0 u.c0,.slice u.A1 u.n u.c1,.func (.func 73) #[] #[bB bJ]]) jQ η rfl rfl)<|cE rfl (fun η=>dH (cs:=[ak u.k2,ak u.gR,.slice u.A3 u.n3 u.c3,.slice u.A4 u.n u.c4]) η aO rfl σ.dj rfl rfl)<|vE rfl (fun η=>cW (us:=#[]) (vs:=#[bB bJ]) η rfl rfl)<|vE rfl (fun η=>cK (c:=#[ak u.k2,ak u.gR,.slice u.A3 u.n3 u.c3,.slice u.A4 u.n u.c4,.func (.func 75) #[] #[bB bJ]]) jQ η rfl rfl)<|cE rfl (fun η=>dH (cs:=[ak u.n,ak u.gB,.slice u.A5 u.n5 u.c5,.slice u.A6 u.n u.c6]) η aO rfl σ.dj rfl rfl)<|vE rfl (fun η=>cW (us:=#[]) (vs:=#[bB bJ]) η rfl rfl)<|vE rfl (fun η=>cK (c:=#[ak u.n,ak u.gB,.slice u.A5 u.n5 u.c5,.slice u.A6 u.n u.c6,.func (.func 76) #[] #[bB bJ]]) jQ η rfl rfl)<|eE rfl<|lr (z:=5) #[ak u.k1,ak u.gL,.slice u.A0 u.n0 u.c0,.slice u.A1 u.n u.c1,.func (.func 73) #[] #[bB bJ],ak u.k2,ak u.gR,.slice u.A3 u.n3 u.c3,.slice u.A4 u.n u.c4,.func (.func 75) #[] #[bB bJ],ak u.n,ak u.gB,.slice u.A5 u.n5 u.c5,.slice u.A6 u.n u.c6,.func (.func 76) #[] #[bB bJ]] σ (dR.size) fY rfl aK fun _ cJ σ=>o1 Tryz.results40 rfl<|⟨_,_,rfl,σ.pick [0,1] [] ai⟩
theorem XM {w0:World} {u:Un} (bH:u.Ok) (hm:u.Mem w0):
  Calls Tryz.prog 22 #[.agg #[ak u.k1,ak u.k2,.slice u.Ap u.n u.cp,ak u.k1,ak u.gL,.slice u.A0 u.n0 u.c0,.slice u.A1 u.n u.c1,ak u.k2,ak u.gR,.slice u.A3 u.n3 u.c3,.slice u.A4 u.n u.c4,ak u.n,ak u.gB,.slice u.A5 u.n5 u.c5,.slice u.A6 u.n u.c6]] w0 fun e w'=>e=.returned (.tuple #[aq 0,aq 0])/\Below w0.heap.size w0 w':=by
 refine dp Tryz.func22 rfl Tryz.ntmps22 rfl fun σ=>?_
 replace σ:=σ.aE hm.m6
 replace σ:=σ.aE hm.m5
 replace σ:=σ.aE hm.m4
 replace σ:=σ.aE hm.m3
 replace σ:=σ.aE hm.m1
 replace σ:=σ.aE hm.m0
 replace σ:=σ.aE hm.mP
 refine eE rfl<|gN σ rfl fun _ bJ σ=>lE 0 σ rfl<|lE 0 σ rfl<|lE 0 σ rfl<|eE rfl<|cS Tryz.call39 (aio σ.aU bH) rfl ?_
 rintro _ _ ⟨v9,rfl,hb⟩
 refine ⟨_,rfl,?_⟩
 replace σ:=σ.call hb
 refine ir rfl<|kB (b':=false) rfl<|iF rfl rfl<|gE 0 σ rfl<|eE rfl<|cS Tryz.call40 (Tz (u:=u)) rfl ?_
 rintro _ _ ⟨gU,gP,rfl,hSp⟩
 refine ⟨_,rfl,?_⟩
 replace σ:=σ.more hSp
 refine fX (fun mz l w=>∃j:Nat,3 - j=mz/\l=[(27,ak j),(25,.slice (bh gP) 3 3),(26,aq 3)]/\St w0 w [bk gP #[ak u.k1,ak u.gL,.slice u.A0 u.n0 u.c0,.slice u.A1 u.n u.c1,.func (.func 73) #[] #[bB gU],ak u.k2,ak u.gR,.slice u.A3 u.n3 u.c3,.slice u.A4 u.n u.c4,.func (.func 75) #[] #[bB gU],ak u.n,ak u.gB,.slice u.A5 u.n5 u.c5,.slice u.A6 u.n u.c6,.func (.func 76) #[] #[bB gU]] 108,bk gU #[ak u.k1,ak u.k2,.slice u.Ap u.n u.cp,ak u.k1,ak u.gL,.slice u.A0 u.n0 u.c0,.slice u.A1 u.n u.c1,ak u.k2,ak u.gR,.slice u.A3 u.n3 u.c3,.slice u.A4 u.n u.c4,ak u.n,ak u.gB,.slice u.A5 u.n5 u.c5,.slice u.A6 u.n u.c6] 30,bk bJ #[ak u.k1,ak u.k2,.slice u.Ap u.n u.cp,ak u.k1,ak u.gL,.slice u.A0 u.n0 u.c0,.slice u.A1 u.n u.c1,ak u.k2,ak u.gR,.slice u.A3 u.n3 u.c3,.slice u.A4 u.n u.c4,ak u.n,ak u.gB,.slice u.A5 u.n5 u.c5,.slice u.A6 u.n u.c6] 30] [u3 u.Ap u.n u.cp u.ps,jM u.A0 u.n0 u.c0 u.e0,bE u.A1 u.n u.c1 u.e1,jM u.A3 u.n3 u.c3 u.e3,bE u.A4 u.n u.c4 u.e4,jM u.A5 u.n5 u.c5 u.e5,bE u.A6 u.n u.c6 u.e6]/\j<=3) ⟨0,rfl,rfl,σ,(bm _)⟩ ay ?_
 rintro _ _ _ ⟨j,rfl,rfl,σ,hj⟩
 rcases (show j=0∨j=1∨j=2∨j=3 by omega) with rfl|rfl|rfl|rfl
 ·refine ei rfl<|kB (b':=true) ai<|iT rfl rfl<|vE rfl (fun η=>kH (i:=0) (p:=0) η Tryz.underlying104 (dR.size) rfl rfl ae ae)<|cE rfl (fun η=>dH (cs:=[ak u.k1,ak u.gL,.slice u.A0 u.n0 u.c0,.slice u.A1 u.n u.c1,.func (.func 73) #[] #[bB gU]]) η dR rfl σ.dj rfl rfl)<|eE rfl<|eL fY σ rfl fun _ cJ σ=>eE rfl<|cX 0 σ rfl fun _ σ=>cE rfl (fun η=>dH (cs:=[ak u.k1,ak u.gL,.slice u.A0 u.n0 u.c0,.slice u.A1 u.n u.c1]) η aO rfl σ.dj rfl rfl)<|eE rfl<|dx Tryz.call41 (iu σ.bC σ.cF bH.cL) σ rfl fun _ σ=>ir rfl<|kB (b':=false) rfl<|iF rfl rfl<|lE 0 σ rfl<|cE rfl (fun η=>dH (cs:=[ak u.k1,ak u.gL,.slice u.A0 u.n0 u.c0,.slice u.A1 u.n u.c1]) η aO rfl σ.dj rfl rfl)<|eE rfl<|sf Tryz.call73 rfl (aip bH ⟨σ.aU,σ.bC,σ.cF,σ.eY,σ.jW,σ.nF,σ.uD⟩ σ.lY) rfl ?_
  rintro _ _ ⟨rfl,hb⟩
  refine ⟨_,rfl,?_⟩
  replace σ:=σ.call hb
  exact ir rfl<|kB (b':=false) rfl<|iF rfl rfl<|can (j:=1) rfl ae<|dF ⟨1,rfl,rfl,σ.pick [1,2,3] [0,1,2,3,4,5,6] ai,ae⟩ ay ae
 ·refine ei rfl<|kB (b':=true) ai<|iT rfl rfl<|vE rfl (fun η=>kH (i:=1) (p:=5) η Tryz.underlying104 (dR.size) rfl rfl ae ae)<|cE rfl (fun η=>dH (cs:=[ak u.k2,ak u.gR,.slice u.A3 u.n3 u.c3,.slice u.A4 u.n u.c4,.func (.func 75) #[] #[bB gU]]) η dR rfl σ.dj rfl rfl)<|eE rfl<|eL fY σ rfl fun _ fo σ=>eE rfl<|cX 0 σ rfl fun _ σ=>cE rfl (fun η=>dH (cs:=[ak u.k2,ak u.gR,.slice u.A3 u.n3 u.c3,.slice u.A4 u.n u.c4]) η aO rfl σ.dj rfl rfl)<|eE rfl<|dx Tryz.call41 (iu σ.eY σ.jW bH.cR) σ rfl fun _ σ=>ir rfl<|kB (b':=false) rfl<|iF rfl rfl<|lE 0 σ rfl<|cE rfl (fun η=>dH (cs:=[ak u.k2,ak u.gR,.slice u.A3 u.n3 u.c3,.slice u.A4 u.n u.c4]) η aO rfl σ.dj rfl rfl)<|eE rfl<|sf Tryz.call75 rfl (aiq bH ⟨σ.aU,σ.bC,σ.cF,σ.eY,σ.jW,σ.nF,σ.uD⟩ σ.lY) rfl ?_
  rintro _ _ ⟨rfl,hb⟩
  refine ⟨_,rfl,?_⟩
  replace σ:=σ.call hb
  exact ir rfl<|kB (b':=false) rfl<|iF rfl rfl<|can (j:=1) rfl ae<|dF ⟨2,rfl,rfl,σ.pick [1,2,3] [0,1,2,3,4,5,6] ai,ae⟩ ay ae
 ·refine ei rfl<|kB (b':=true) ai<|iT rfl rfl<|vE rfl (fun η=>kH (i:=2) (p:=10) η Tryz.underlying104 (dR.size) rfl rfl ae ae)<|cE rfl (fun η=>dH (cs:=[ak u.n,ak u.gB,.slice u.A5 u.n5 u.c5,.slice u.A6 u.n u.c6,.func (.func 76) #[] #[bB gU]]) η dR rfl σ.dj rfl rfl)<|eE rfl<|eL fY σ rfl fun _ eZ σ=>eE rfl<|cX 0 σ rfl fun _ σ=>cE rfl (fun η=>dH (cs:=[ak u.n,ak u.gB,.slice u.A5 u.n5 u.c5,.slice u.A6 u.n u.c6]) η aO rfl σ.dj rfl rfl)<|eE rfl<|dx Tryz.call41 (iu σ.nF σ.uD bH.cB) σ rfl fun _ σ=>ir rfl<|kB (b':=false) rfl<|iF rfl rfl<|lE 0 σ rfl<|cE rfl (fun η=>dH (cs:=[ak u.n,ak u.gB,.slice u.A5 u.n5 u.c5,.slice u.A6 u.n u.c6]) η aO rfl σ.dj rfl rfl)<|eE rfl<|sf Tryz.call76 rfl (air bH ⟨σ.aU,σ.bC,σ.cF,σ.eY,σ.jW,σ.nF,σ.uD⟩ σ.lY) rfl ?_
  rintro _ _ ⟨rfl,hb⟩
  refine ⟨_,rfl,?_⟩
  replace σ:=σ.call hb
  exact ir rfl<|kB (b':=false) rfl<|iF rfl rfl<|can (j:=1) rfl ae<|dF ⟨3,rfl,rfl,σ.pick [1,2,3] [0,1,2,3,4,5,6] ai,ae⟩ ay ae
 ·exact ei rfl<|kB (b':=false) ai<|iF rfl rfl<|o2 Tryz.results22 rfl<|⟨rfl,σ.below⟩
abbrev CQ (u:Un):Array Value:=#[.int .i64 (u.k1:Nat),.int .i64 (u.k2:Nat),.slice u.Ap u.n u.cp,.int .i64 (u.k1:Nat),.int .i64 (u.gL:Nat),.slice u.A0 u.n0 u.c0,.slice u.A1 u.n u.c1,.int .i64 (u.k2:Nat),.int .i64 (u.gR:Nat),.slice u.A3 u.n3 u.c3,.slice u.A4 u.n u.c4,.int .i64 (u.n:Nat),.int .i64 (u.gB:Nat),.slice u.A5 u.n5 u.c5,.slice u.A6 u.n u.c6]
def rI:PF:=⟨ve,fun b=>b=0,fun h e=>by
 subst e
 have:=h 0 ai
 rcases dr 0 (World.heap _).size with q | q
 ·exact q
 ·exact absurd this (by simp [World.cell?,mQ q]),fun h _ hk j hj=>(World.cell?_of_block (hk 0 rfl)).trans (h j hj)⟩
theorem St.Hi {w0:World} {ps:List PF} (h:St w0 w0 [] ps) (hw:ve w0):St w0 w0 [] (rI::ps):=h.iB rI hw fun e he=>by cases he
theorem nV {op c x y z:Int} (h:lD op c [x] [y]=some [z]):(op=2->z=-x)/\(op=3->z=x+y)/\(op=4->z=x - y)/\(op=5->z=x*c)/\(op=6->x%c=0/\z=x / c)/\(op=7->z=x*2 ^ c.toNat)/\(op=8->x%2 ^ c.toNat=0/\z=x / 2 ^ c.toNat)/\(¬(2<=op/\op<=8)->z=x):=by
 refine ⟨fun e=>?_,fun e=>?_,fun e=>?_,fun e=>?_,fun e=>?_,fun e=>?_,fun e=>?_,fun e=>?_⟩
 ·subst e; simpa [lD] using h.symm
 ·subst e; simpa [lD] using h.symm
 ·subst e; simpa [lD] using h.symm
 ·subst e; simpa [lD] using h.symm
 ·subst e
  have h':(if wS c [x] then some ([x].map fun v=>v / c) else none)=some [z]:=h
  obtain ⟨h1,h2⟩:=oV h'
  exact ⟨by simpa [wS] using h1,by simpa using h2.symm⟩
 ·subst e; simpa [lD] using h.symm
 ·subst e
  have h':(if wS (2 ^ c.toNat) [x] then some ([x].map fun v=>v / 2 ^ c.toNat) else none)=some [z]:=h
  obtain ⟨h1,h2⟩:=oV h'
  exact ⟨by simpa [wS] using h1,by simpa using h2.symm⟩
 ·unfold lD at h
  rw [aQ ae,aQ ae,aQ ae,aQ ae,aQ ae,aQ ae,aQ ae] at h
  simpa using h.symm
theorem TB {A:Option Addr} {c:Nat} {x:Int} {n:Nat} {w0:World} (hx:dK w0 A c x) (hn:zl x<=1000000) (hs:n<=65536) (hd:x%2 ^ n=0) (hT:ve w0):
  Calls Tryz.prog 222 #[.agg #[.bool (neg x),.slice A (zl x) c],ak n] w0 fun e w'=>∃v,e=.returned (.tuple #[v,aq 0])/\pj w' v (x / 2 ^ n)/\Below w0.heap.size w0 w':=by
 by_cases h0:x=0
 ·subst h0
  refine (NW hx ae).mono ?_
  rintro e w' ⟨he,hb⟩
  exact ⟨_,he,⟨none,0,by rw [Int.zero_ediv],by rw [Int.zero_ediv]; exact rj _⟩,hb⟩
 ·exact Xw hx hn hs h0 (wF hd) hT
theorem adP {w0:World} {A B:Option Addr} {c d:Nat} {x y:Int} (hx:dK w0 A c x) (hy:dK w0 B d y):
  Calls Tryz.prog 216 #[.agg #[.bool (neg x),.slice A (zl x) c],.agg #[.bool (neg y),.slice B (zl y) d]] w0 fun e w'=>∃v,e=.returned v/\pj w' v (-x)/\Below w0.heap.size w0 w':=by
 refine dp Tryz.func216 rfl Tryz.ntmps216 rfl fun σ=>?_
 replace σ:=σ.eO hy trivial
 replace σ:=σ.eO hx trivial
 refine eE rfl<|gN σ rfl fun _ bJ σ=>eE rfl<|gN σ rfl fun _ cJ σ=>eE rfl<|eL aG σ rfl fun _ fo σ=>gE 2 σ rfl<|eE rfl<|cS Tryz.call62 (OW (z:=x) (show dK _ A c x from σ.aU)) rfl ?_
 rintro _ _ ⟨_,rfl,⟨tS,sF,rfl,rF⟩,hb⟩
 refine ⟨_,rfl,?_⟩
 replace σ:=(σ.call hb).eO rF ⟨aN rfl,aN rfl,aN rfl,trivial⟩
 exact eE rfl<|cX 0 σ rfl fun _ σ=>oR (fun e=>dA Tryz.results216 (RV.cell e ah rfl σ.dj rfl))<|⟨_,rfl,⟨tS,sF,rfl,σ.aU⟩,σ.below⟩
theorem ais {w0:World} {A B:Option Addr} {c d:Nat} {x y:Int} (hx:dK w0 A c x) (hy:dK w0 B d y):
  Calls Tryz.prog 223 #[.agg #[.bool (neg x),.slice A (zl x) c],.agg #[.bool (neg y),.slice B (zl y) d]] w0 fun e w'=>∃v,e=.returned v/\pj w' v (x)/\Below w0.heap.size w0 w':=by
 refine dp Tryz.func223 rfl Tryz.ntmps223 rfl fun σ=>?_
 replace σ:=σ.eO hy trivial
 replace σ:=σ.eO hx trivial
 exact eE rfl<|gN σ rfl fun _ bJ σ=>eE rfl<|gN σ rfl fun _ cJ σ=>eE rfl<|eL aG σ rfl fun _ fo σ=>gE 2 σ rfl<|eE rfl<|cX 0 σ rfl fun _ σ=>oR (fun e=>dA Tryz.results223 (RV.cell e ah rfl σ.dj rfl))<|⟨_,rfl,⟨A,c,rfl,σ.aU⟩,σ.below⟩
theorem TC {w0:World} {A B:Option Addr} {c d:Nat} {x y:Int} {gi:Nat} {op tr ra rb cn:Int} (hi:(bk gi #[aq op,aq tr,aq ra,aq rb,aq cn] 116).P w0) (hx:dK w0 A c x) (hy:dK w0 B d y) (hzx:zl x<=90000) (hcn:-512<=cn/\cn<=512):
  Calls Tryz.prog 217 #[.agg #[.bool (neg x),.slice A (zl x) c],.agg #[.bool (neg y),.slice B (zl y) d],bB gi] w0 fun e w'=>∃v,e=.returned v/\pj w' v (x*cn)/\Below w0.heap.size w0 w':=by
 refine dp Tryz.func217 rfl Tryz.ntmps217 rfl fun σ=>?_
 replace σ:=σ.eO hy trivial
 replace σ:=σ.eO hx trivial
 replace σ:=σ.iq (bk gi #[aq op,aq tr,aq ra,aq rb,aq cn] 116) hi
 refine eE rfl<|gN σ rfl fun _ bJ σ=>eE rfl<|gN σ rfl fun _ cJ σ=>eE rfl<|eL aG σ rfl fun _ fo σ=>gE 2 σ rfl<|cE rfl (fun η=>aS η aD rfl (kg σ.aU) rfl)<|eE rfl<|cS Tryz.call162 (Da (x:=x) (n:=cn) (show dK _ A c x from σ.bC) ae ae ae) rfl ?_
 rintro _ _ ⟨_,rfl,⟨tS,sF,rfl,rF⟩,hb⟩
 refine ⟨_,rfl,?_⟩
 replace σ:=(σ.call hb).eO rF ⟨aN rfl,aN rfl,aN rfl,trivial⟩
 exact eE rfl<|cX 0 σ rfl fun _ σ=>oR (fun e=>dA Tryz.results217 (RV.cell e ah rfl σ.dj rfl))<|⟨_,rfl,⟨tS,sF,rfl,σ.aU⟩,σ.below⟩
theorem adR {w0:World} {A B:Option Addr} {c d:Nat} {x y:Int} {gi cm:Nat} {op tr ra rb:Int} (hi:(bk gi #[aq op,aq tr,aq ra,aq rb,ak cm] 116).P w0) (hx:dK w0 A c x) (hy:dK w0 B d y) (hzx:zl x<=90000) (Nt:cm<=64):
  Calls Tryz.prog 220 #[.agg #[.bool (neg x),.slice A (zl x) c],.agg #[.bool (neg y),.slice B (zl y) d],bB gi] w0 fun e w'=>∃v,e=.returned v/\pj w' v (x*2 ^ cm)/\Below w0.heap.size w0 w':=by
 refine dp Tryz.func220 rfl Tryz.ntmps220 rfl fun σ=>?_
 replace σ:=σ.eO hy trivial
 replace σ:=σ.eO hx trivial
 replace σ:=σ.iq (bk gi #[aq op,aq tr,aq ra,aq rb,ak cm] 116) hi
 refine eE rfl<|gN σ rfl fun _ bJ σ=>eE rfl<|gN σ rfl fun _ cJ σ=>eE rfl<|eL aG σ rfl fun _ fo σ=>gE 2 σ rfl<|cE rfl (fun η=>aS η aD rfl (kg σ.aU) rfl)<|eE rfl<|cS Tryz.call58 (Mc (n:=cm) (show dK _ A c x from σ.bC) ae ae) rfl ?_
 rintro _ _ ⟨_,rfl,⟨tS,sF,rfl,rF⟩,hb⟩
 refine ⟨_,rfl,?_⟩
 replace σ:=(σ.call hb).eO rF ⟨aN rfl,aN rfl,aN rfl,trivial⟩
 exact eE rfl<|eL aG σ rfl fun _ u5 σ=>eE rfl<|cX 0 σ rfl fun _ σ=>gE 0 σ rfl<|eE rfl<|cX 1 σ rfl fun _ σ=>oR (fun e=>dA Tryz.results220 (RV.cell e ah rfl σ.vQ rfl))<|⟨_,rfl,⟨tS,sF,rfl,σ.aU⟩,σ.below⟩
theorem XO {w0:World} {A B:Option Addr} {c d:Nat} {x y:Int} {gi:Nat} {op tr ra rb cn:Int} (hi:(bk gi #[aq op,aq tr,aq ra,aq rb,aq cn] 116).P w0) (hx:dK w0 A c x) (hy:dK w0 B d y) (hzx:zl x<=90000) (hcn:-512<=cn/\cn<=512) (rL:cn≠0) (Ue:x%cn=0):
  Calls Tryz.prog 218 #[.agg #[.bool (neg x),.slice A (zl x) c],.agg #[.bool (neg y),.slice B (zl y) d],bB gi] w0 fun e w'=>∃v,e=.returned (.tuple #[v,.bool true])/\pj w' v (x / cn)/\Below w0.heap.size w0 w':=by
 refine dp Tryz.func218 rfl Tryz.ntmps218 rfl fun σ=>?_
 replace σ:=σ.eO hy trivial
 replace σ:=σ.eO hx trivial
 replace σ:=σ.iq (bk gi #[aq op,aq tr,aq ra,aq rb,aq cn] 116) hi
 refine eE rfl<|gN σ rfl fun _ bJ σ=>eE rfl<|gN σ rfl fun _ cJ σ=>eE rfl<|eL aG σ rfl fun _ fo σ=>gE 2 σ rfl<|cE rfl (fun η=>aS η aD rfl (kg σ.aU) rfl)<|eE rfl<|cS Tryz.call219 (XN (show dK _ A c x from σ.bC) hzx ae ae rL Ue) rfl ?_
 rintro _ _ ⟨_,rfl,⟨tS,sF,rfl,rF⟩,hb⟩
 refine ⟨_,rfl,?_⟩
 replace σ:=(σ.call hb).eO rF ⟨aN rfl,aN rfl,aN rfl,trivial⟩
 exact eE rfl<|eL aG σ rfl fun _ u5 σ=>eE rfl<|cX 0 σ rfl fun _ σ=>gE 0 σ rfl<|cZ rfl<|kB (b':=true) rfl<|eE rfl<|cX 1 σ rfl fun _ σ=>oR (fun e=>gC Tryz.results218 (RV.cell e ah rfl σ.vQ rfl) (RV.tmp e rfl))<|⟨_,rfl,⟨tS,sF,rfl,σ.aU⟩,σ.below⟩
theorem adS {w0:World} {A B:Option Addr} {c d:Nat} {x y:Int} {gi cm:Nat} {op tr ra rb:Int} (hi:(bk gi #[aq op,aq tr,aq ra,aq rb,ak cm] 116).P w0) (hx:dK w0 A c x) (hy:dK w0 B d y) (hT:ve w0) (hzx:zl x<=90000) (Nt:cm<=64) (Ue:x%2 ^ cm=0):
  Calls Tryz.prog 221 #[.agg #[.bool (neg x),.slice A (zl x) c],.agg #[.bool (neg y),.slice B (zl y) d],bB gi] w0 fun e w'=>∃v,e=.returned (.tuple #[v,.bool true])/\pj w' v (x / 2 ^ cm)/\Below w0.heap.size w0 w':=by
 refine dp Tryz.func221 rfl Tryz.ntmps221 rfl fun σ=>?_
 replace σ:=σ.eO hy trivial
 replace σ:=σ.eO hx trivial
 replace σ:=σ.iq (bk gi #[aq op,aq tr,aq ra,aq rb,ak cm] 116) hi
 replace σ:=σ.Hi hT
 refine eE rfl<|gN σ rfl fun _ bJ σ=>eE rfl<|gN σ rfl fun _ cJ σ=>eE rfl<|eL aG σ rfl fun _ fo σ=>gE 2 σ rfl<|cE rfl (fun η=>aS η aD rfl (kg σ.bC) rfl)<|eE rfl<|cS Tryz.call222 (TB (n:=cm) (show dK _ A c x from σ.cF) ae ae Ue (show ve _ from σ.aU)) rfl ?_
 rintro _ _ ⟨_,rfl,⟨tS,sF,rfl,rF⟩,hb⟩
 refine ⟨_,rfl,?_⟩
 replace σ:=(σ.call hb).eO rF ⟨aN rfl,aN rfl,aN rfl,trivial⟩
 exact eE rfl<|eL aG σ rfl fun _ u5 σ=>eE rfl<|cX 0 σ rfl fun _ σ=>gE 0 σ rfl<|cZ rfl<|kB (b':=true) rfl<|eE rfl<|cX 1 σ rfl fun _ σ=>oR (fun e=>gC Tryz.results221 (RV.cell e ah rfl σ.vQ rfl) (RV.tmp e rfl))<|⟨_,rfl,⟨tS,sF,rfl,σ.aU⟩,σ.below⟩
theorem sr {w0:World} {A B:Option Addr} {c d:Nat} {x y:Int} {E:PF} {gf:Nat} {f:FuncId} {first caps:Array Value} {z:Int} (hF:(bk gf #[.func (.func f) first caps] 300).P w0) (hE:E.P w0) (Vn:∀args w,(callFunc f args).run Tryz.prog w=.ok (.enter f args) w) (hx:dK w0 A c x) (hy:dK w0 B d y) (hf:∀w,E.P w->dK w A c x->dK w B d y->Calls Tryz.prog f (first++#[.agg #[.bool (neg x),.slice A (zl x) c],.agg #[.bool (neg y),.slice B (zl y) d]]++caps) w fun e w'=>∃v,e=.returned v/\pj w' v z/\Below w.heap.size w w'):
  Calls Tryz.prog 215 #[.agg #[.bool (neg x),.slice A (zl x) c],.agg #[.bool (neg y),.slice B (zl y) d],bB gf] w0 fun e w'=>∃v,e=.returned (.tuple #[v,.bool true])/\pj w' v (z)/\Below w0.heap.size w0 w':=by
 refine dp Tryz.func215 rfl Tryz.ntmps215 rfl fun σ=>?_
 replace σ:=σ.eO hy trivial
 replace σ:=σ.eO hx trivial
 replace σ:=σ.iq E hE
 replace σ:=σ.iq (bk gf #[.func (.func f) first caps] 300) hF
 refine eE rfl<|gN σ rfl fun _ bJ σ=>eE rfl<|gN σ rfl fun _ cJ σ=>eE rfl<|eL aG σ rfl fun _ fo σ=>cE rfl (fun η=>aS η eG rfl (kg σ.aU) rfl)<|gE 2 σ rfl<|gE 1 σ rfl<|eE rfl<|sf Vn rfl (hf _ σ.bC σ.cF σ.eY) cT ?_
 rintro _ _ ⟨_,rfl,⟨tS,sF,rfl,rF⟩,hb⟩
 refine ⟨_,rfl,?_⟩
 replace σ:=(σ.call hb).eO rF ⟨aN rfl,aN rfl,aN rfl,trivial⟩
 exact eE rfl<|cX 0 σ rfl fun _ σ=>oR (fun e=>gC Tryz.results215 (RV.cell e ah rfl σ.dj rfl) (RV.tmp e rfl))<|⟨_,rfl,⟨tS,sF,rfl,σ.aU⟩,σ.below⟩
theorem su {w0:World} {f:Fn} {first caps:Array Value}:
  Calls Tryz.prog 214 #[.func f first caps] w0 fun e w'=>∃gf,e=.returned (.func (.func 215) #[] #[bB gf])/\St w0 w' [bk gf #[.func f first caps] 300] []:=by
 exact dp Tryz.func214 rfl Tryz.ntmps214 rfl fun σ=>eE rfl<|gN σ rfl fun _ bJ σ=>vE rfl (fun η=>cW η rfl rfl)<|o1 Tryz.results214 rfl<|⟨_,rfl,σ.pick [0] [] ai⟩
section
variable {P:Program} {N:Nat} {dq:List Deferred} {a:Act} {l:List (Nat×Value)} {w:World} {d:Nat} {ty:TypeId} {pos:String} {af:Array Edge} {gd:Option (Nat×Bool)}
theorem p9 {x:Operand} {T te yt:Nat} {p:Option Addr} (h:aW dq N a l) (hT:P.underlying T=some (.pointer te)) (hx:bV l x=some (.pointer p)):
  (execOp a.eval ⟨some d,.binOp .eql T x (.const (.pointer none)) yt,ty,pos,af,gd⟩).run P w=.ok (.value (.bool p.isNone)) w:=by
 refine bg h hx (by rfl) ?_
 have:=run_eql_pointer_nil w T p (by rw [hT]; simp [Program.pointee,hT])
 simp [eqGuard,this]
theorem XP {x:Operand} {T te yt:Nat} {p:Option Addr} (h:aW dq N a l) (hT:P.underlying T=some (.pointer te)) (hx:bV l x=some (.pointer p)):
  (execOp a.eval ⟨some d,.binOp .neq T x (.const (.pointer none)) yt,ty,pos,af,gd⟩).run P w=.ok (.value (.bool (!p.isNone))) w:=by
 refine bg h hx (by rfl) ?_
 have:=run_neq_pointer_nil w T p (by rw [hT]; simp [Program.pointee,hT])
 simp [eqGuard,this]
end
theorem Hj {l:List PF} (h:qB l):YD (star l):=fun w b o i hP ⟨e,he,hb⟩=>h.at e he w b o i (hP.1 e he) hb
def ait (op cn:Int) (f:FuncId) (caps:Array Value) (E:PF):Prop:=∀(W:World) (A B:Option Addr) (c d:Nat) (x y z:Int),E.P W->ve W->dK W A c x->dK W B d y->zl x<=90000->zl y<=90000->lD op cn [x] [y]=some [z]->
 Calls Tryz.prog f (#[.agg #[.bool (neg x),.slice A (zl x) c],.agg #[.bool (neg y),.slice B (zl y) d]]++caps) W fun e w'=>∃v,e=.returned (.tuple #[v,.bool true])/\pj w' v z/\Below W.heap.size W w'
theorem kq {f:FuncId} {vs caps us:Array Value} {w:World} {R:Ending->World->Prop} (h:vs++caps=us) (hc:Calls Tryz.prog f us w R):Calls Tryz.prog f (vs++caps) w R:=h ▸ hc
theorem oX {f:FuncId} {first vs caps us:Array Value} {w:World} {R:Ending->World->Prop} (h:first++vs++caps=us) (hc:Calls Tryz.prog f us w R):Calls Tryz.prog f (first++vs++caps) w R:=h ▸ hc
theorem adT {op c:Int} {xs ys zs:Rw} {t:Nat} {x y:Int} (h:lD op c xs ys=some zs) (hl:ys.length=xs.length) (hx:xs[t]?=some x) (hy:ys[t]?=some y):∃z,zs[t]?=some z/\lD op c [x] [y]=some [z]:=by
 have hmx:=aB hx
 by_cases o2:op=2
 ·subst o2
  rw [<- dw (show some (xs.map fun v=>-v)=some zs from h),bo,hx]
  exact ⟨_,rfl,rfl⟩
 by_cases o3:op=3
 ·subst o3
  rw [<- dw (show some (List.zipWith (fun a b=>a+b) xs ys)=some zs from h),List.getElem?_zipWith,hx,hy]
  exact ⟨_,rfl,rfl⟩
 by_cases o4:op=4
 ·subst o4
  rw [<- dw (show some (List.zipWith (fun a b=>a - b) xs ys)=some zs from h),List.getElem?_zipWith,hx,hy]
  exact ⟨_,rfl,rfl⟩
 by_cases o5:op=5
 ·subst o5
  rw [<- dw (show some (xs.map fun v=>v*c)=some zs from h),bo,hx]
  exact ⟨_,rfl,rfl⟩
 by_cases o7:op=7
 ·subst o7
  rw [<- dw (show some (xs.map fun v=>v*2 ^ c.toNat)=some zs from h),bo,hx]
  exact ⟨_,rfl,rfl⟩
 by_cases o6:op=6
 ·subst o6
  obtain ⟨h1,h2⟩:=oV (show (if wS (c) xs=true then some (xs.map fun v=>v / c) else none)=some zs from h)
  rw [<- h2,bo,hx]
  have h3:wS (c) [x]=true:=by have:=rW.1 h1 x hmx; simpa [wS] using this
  exact ⟨_,rfl,(show (if wS (c) [x]=true then some ([x].map fun v=>v / c) else none)=some _ by rw [aR h3]; rfl)⟩
 by_cases o8:op=8
 ·subst o8
  obtain ⟨h1,h2⟩:=oV (show (if wS (2 ^ c.toNat) xs=true then some (xs.map fun v=>v / 2 ^ c.toNat) else none)=some zs from h)
  rw [<- h2,bo,hx]
  have h3:wS (2 ^ c.toNat) [x]=true:=by have:=rW.1 h1 x hmx; simpa [wS] using this
  exact ⟨_,rfl,(show (if wS (2 ^ c.toNat) [x]=true then some ([x].map fun v=>v / 2 ^ c.toNat) else none)=some _ by rw [aR h3]; rfl)⟩
 unfold lD at h ⊢
 rw [aQ o2,aQ o3,aQ o4,aQ o5,aQ o6,aQ o7,aQ o8] at h ⊢
 rw [<- dw h]
 exact ⟨_,hx,rfl⟩
theorem XQ {w0:World} {op tr ra rb cn g:Int} (hM:cN (op,tr,ra,rb,cn) g):
  Calls Tryz.prog 187 #[.agg #[aq op,aq tr,aq ra,aq rb,aq cn]] w0 fun e w'=>∃(f:FuncId) (caps:Array Value) (E:PF),e=.returned (.func (.func f) #[] caps)/\St w0 w' [E] []/\YD E/\(∀args w,(callFunc f args).run Tryz.prog w=.ok (.enter f args) w)/\ait op cn f caps E:=by
 have xi:=hM
 unfold cN at xi
 dsimp only at xi
 refine dp Tryz.func187 rfl Tryz.ntmps187 rfl fun σ=>eE rfl<|gN σ rfl fun _ bJ σ=>lE 0 σ rfl<|cZ rfl<|wQ (fun jG=>?_) fun jG=>?_
 ·obtain rfl:op=2:=jG
  refine iT rfl rfl<|eE rfl<|sf Tryz.call214 rfl (su (f:=.func 216) (first:=#[]) (caps:=#[])) rfl ?_
  rintro _ _ ⟨aob,rfl,D6⟩
  refine ⟨_,rfl,?_⟩
  replace σ:=σ.more D6
  exact o1 Tryz.results187 rfl<|⟨_,_,bk aob #[.func (.func 216) #[] #[]] 300,rfl,σ.pick [0] [] ai,aN rfl,fun _ _=>rfl,fun W A B c d x y z hE hT hx hy h1 h2 hr=>by obtain rfl:=(nV hr).1 rfl; exact kq rfl (sr (E:=jY) hE trivial (fun _ _=>rfl) hx hy fun w _ hx hy=>oX cT (adP hx hy))⟩
 ·refine iF rfl rfl<|cZ rfl<|wQ (fun qx=>?_) fun qx=>?_
  ·obtain rfl:op=3:=qx
   refine iT rfl rfl<|eE rfl<|sf Tryz.call214 rfl (su (f:=.func 63) (first:=#[]) (caps:=#[])) rfl ?_
   rintro _ _ ⟨aoc,rfl,wk⟩
   refine ⟨_,rfl,?_⟩
   replace σ:=σ.more wk
   exact o1 Tryz.results187 rfl<|⟨_,_,bk aoc #[.func (.func 63) #[] #[]] 300,rfl,σ.pick [0] [] ai,aN rfl,fun _ _=>rfl,fun W A B c d x y z hE hT hx hy h1 h2 hr=>by obtain rfl:=(nV hr).2.1 rfl; exact kq rfl (sr (E:=jY) hE trivial (fun _ _=>rfl) hx hy fun w _ hx hy=>oX cT (BR hx hy ae ae))⟩
  ·refine iF rfl rfl<|cZ rfl<|wQ (fun rB=>?_) fun rB=>?_
   ·obtain rfl:op=4:=rB
    refine iT rfl rfl<|eE rfl<|sf Tryz.call214 rfl (su (f:=.func 104) (first:=#[]) (caps:=#[])) rfl ?_
    rintro _ _ ⟨aod,rfl,RO⟩
    refine ⟨_,rfl,?_⟩
    replace σ:=σ.more RO
    exact o1 Tryz.results187 rfl<|⟨_,_,bk aod #[.func (.func 104) #[] #[]] 300,rfl,σ.pick [0] [] ai,aN rfl,fun _ _=>rfl,fun W A B c d x y z hE hT hx hy h1 h2 hr=>by obtain rfl:=(nV hr).2.2.1 rfl; exact kq rfl (sr (E:=jY) hE trivial (fun _ _=>rfl) hx hy fun w _ hx hy=>oX cT (O0 hx hy ae ae))⟩
   ·refine iF rfl rfl<|cZ rfl<|wQ (fun wj=>?_) fun wj=>?_
    ·obtain rfl:op=5:=wj
     refine iT rfl rfl<|vE rfl (fun η=>cW (us:=#[]) (vs:=#[bB bJ]) η rfl rfl)<|eE rfl<|sf Tryz.call214 rfl (su (f:=.func 217) (first:=#[]) (caps:=#[bB bJ])) rfl ?_
     rintro _ _ ⟨aoe,rfl,I4⟩
     refine ⟨_,rfl,?_⟩
     replace σ:=σ.more I4
     exact o1 Tryz.results187 rfl<|⟨_,_,star [bk aoe #[.func (.func 217) #[] #[bB bJ]] 300,bk bJ #[aq 5,aq tr,aq ra,aq rb,aq cn] 116],rfl,(σ.pick [0,1] [] ai).pack 2,Hj ⟨aN rfl,aN rfl,trivial⟩,fun _ _=>rfl,fun W A B c d x y z hE hT hx hy h1 h2 hr=>by obtain rfl:=(nV hr).2.2.2.1 rfl; exact kq rfl (sr (E:=bk bJ #[aq 5,aq tr,aq ra,aq rb,aq cn] 116) (hE.1 _ (bS ..)) (hE.1 _ (cO _ (bS ..))) (fun _ _=>rfl) hx hy fun w hi hx hy=>oX cT (TC hi hx hy h1 ae))⟩
    ·refine iF rfl rfl<|cZ rfl<|wQ (fun HN=>?_) fun HN=>?_
     ·obtain rfl:op=6:=HN
      exact iT rfl rfl<|vE rfl (fun η=>cW (us:=#[]) (vs:=#[bB bJ]) η rfl rfl)<|o1 Tryz.results187 rfl<|⟨_,_,bk bJ #[aq 6,aq tr,aq ra,aq rb,aq cn] 116,rfl,σ.pick [0] [] ai,aN rfl,fun _ _=>rfl,fun W A B c d x y z hE hT hx hy h1 h2 hr=>by have hq:=(nV hr).2.2.2.2.1 rfl; rw [hq.2]; exact kq rfl (XO hE hx hy h1 ae ae hq.1)⟩
     ·refine iF rfl rfl<|cZ rfl<|wQ (fun Gz=>?_) fun Gz=>?_
      ·obtain rfl:op=7:=Gz
       obtain ⟨cm,rfl⟩:=dh (show 0<=cn by omega)
       have Nt:cm<=64:=ae
       refine iT rfl rfl<|vE rfl (fun η=>cW (us:=#[]) (vs:=#[bB bJ]) η rfl rfl)<|eE rfl<|sf Tryz.call214 rfl (su (f:=.func 220) (first:=#[]) (caps:=#[bB bJ])) rfl ?_
       rintro _ _ ⟨aof,rfl,adU⟩
       refine ⟨_,rfl,?_⟩
       replace σ:=σ.more adU
       exact o1 Tryz.results187 rfl<|⟨_,_,star [bk aof #[.func (.func 220) #[] #[bB bJ]] 300,bk bJ #[aq 7,aq tr,aq ra,aq rb,ak cm] 116],rfl,(σ.pick [0,1] [] ai).pack 2,Hj ⟨aN rfl,aN rfl,trivial⟩,fun _ _=>rfl,fun W A B c d x y z hE hT hx hy h1 h2 hr=>by obtain rfl:=(nV hr).2.2.2.2.2.1 rfl; exact kq rfl (sr (E:=bk bJ #[aq 7,aq tr,aq ra,aq rb,ak cm] 116) (hE.1 _ (bS ..)) (hE.1 _ (cO _ (bS ..))) (fun _ _=>rfl) hx hy fun w hi hx hy=>oX cT (adR hi hx hy h1 Nt))⟩
      ·refine iF rfl rfl<|cZ rfl<|wQ (fun h68=>?_) fun h68=>?_
       ·obtain rfl:op=8:=h68
        obtain ⟨cm,rfl⟩:=dh (show 0<=cn by omega)
        have Nt:cm<=64:=ae
        exact iT rfl rfl<|vE rfl (fun η=>cW (us:=#[]) (vs:=#[bB bJ]) η rfl rfl)<|o1 Tryz.results187 rfl<|⟨_,_,bk bJ #[aq 8,aq tr,aq ra,aq rb,ak cm] 116,rfl,σ.pick [0] [] ai,aN rfl,fun _ _=>rfl,fun W A B c d x y z hE hT hx hy h1 h2 hr=>by have hq:=(nV hr).2.2.2.2.2.2.1 rfl; rw [hq.2]; rw [mJ]; exact kq rfl (adS hE hx hy hT h1 Nt (by have:=hq.1; rwa [mJ] at this))⟩
       ·refine iF rfl rfl<|eE rfl<|sf Tryz.call214 rfl (su (f:=.func 223) (first:=#[]) (caps:=#[])) rfl ?_
        rintro _ _ ⟨aog,rfl,I6⟩
        refine ⟨_,rfl,?_⟩
        replace σ:=σ.more I6
        exact o1 Tryz.results187 rfl<|⟨_,_,bk aog #[.func (.func 223) #[] #[]] 300,rfl,σ.pick [0] [] ai,aN rfl,fun _ _=>rfl,fun W A B c d x y z hE hT hx hy h1 h2 hr=>by obtain rfl:=(nV hr).2.2.2.2.2.2.2 ae; exact kq rfl (sr (E:=jY) hE trivial (fun _ _=>rfl) hx hy fun w _ hx hy=>oX cT (ais hx hy))⟩
def ZM (gM i g:Nat) (A0:Option Addr) (n0 c0:Nat) (A1:Option Addr) (n1 c1:Nat) (Ar:Option Addr) (cr k:Nat) (us:List LE):PF:=
 star [bk gM #[ak i,ak g,.slice A0 n0 c0,.slice A1 n1 c1,.slice Ar g cr,ak k] 238,aaP Ar g cr us]
theorem aoh (z:Rw) (n:Nat):(List.replicate n ((none,0,0):NE)).map zz=nH z 0 n 0:=by rw [Js,mN]
theorem Mn {z:Rw} {t n:Nat} {es:List NE} {A:Option Addr} {c:Nat} {x:Int} (h:es.map zz=nH z t n 0) (hz:z[t]?=some x) (ht:t<n):(es.set t (A,c,x)).map zz=nH z (t+1) n 0:=by
 rw [qK,h]
 exact lR hz ht
theorem Mo {es:List NE} {t:Nat} {A:Option Addr} {c:Nat} {x:Int} (h:es[t]?=some (A,c,x)):(es.map zz)[t]?=some x:=by rw [bo,h]; rfl
theorem XR {w0 w1:World} {gM i g n0 c0 n1 c1 cr k nn:Nat} {A0 A1 Ar:Option Addr} {es0:List IE} {us:List LE} {R:List Rw} {op xy vn cn:Int} {tr:Nat} {z:Rw} (hk:k<n0) (mC:us.map lz=R) (EN:R.length=g/\∀r∈R,r.length=nn) (hn:nn<=10000) (hg:g<=200) (b5:es0[k]?=some (op,((tr:Nat):Int),xy,vn,cn)) (hM:cN (op,((tr:Nat):Int),xy,vn,cn) g) (hs:lD op cn (eQ R xy) (eQ R vn)=some z) (Xh:z.length=nn) (hZ:∀v∈us,Zk 90000 (lz v)) (hk9:k<=100000)
  (hS:St w0 w1 [ZM gM i g A0 n0 c0 A1 n1 c1 Ar cr k us] [bP w1 (ZM gM i g A0 n0 c0 A1 n1 c1 Ar cr k us),bL FL us,jM A0 n0 c0 es0,rI]):
  Calls Tryz.prog 148 #[bB gM] w1 fun e w'=>e=.returned (aq 0)/\∃v,lz v=z/\St w0 w' [ZM gM i g A0 n0 c0 A1 n1 c1 Ar cr (k+1) (us.set tr v)] [bP w1 (ZM gM i g A0 n0 c0 A1 n1 c1 Ar cr k us),bL FL (us.set tr v)]:=by
 refine dp Tryz.func148 rfl Tryz.ntmps148 rfl fun σ=>?_
 replace σ:=hS
 have a8:=σ.cF.2.1
 have xi:=hM
 unfold cN at xi
 dsimp only at xi
 obtain ⟨ra,rfl⟩:=dh (show 0<=xy by omega)
 obtain ⟨rb,rfl⟩:=dh (show 0<=vn by by_cases q:op=3∨op=4<;>omega)
 have UX:rb<g:=by by_cases q:op=3∨op=4<;>omega
 have hul:us.length=g:=by have:=aM List.length mC; rw [aZ] at this; exact this.trans EN.1
 replace σ:=σ.unpack
 have yw:=xk σ.bC EN.2 mC
 obtain ⟨⟨Aa,na,ca,ea⟩,oQ⟩:∃e,us[ra]?=some e:=⟨_,aw ae⟩
 replace σ:=σ.qo (k:=1) rfl oQ
 obtain ⟨⟨Ab,nb,cb,eb⟩,zD⟩:∃e,us[rb]?=some e:=⟨_,aw ae⟩
 replace σ:=σ.qo (k:=2) rfl zD
 replace σ:St w0 _ [bk gM #[ak i,ak g,.slice A0 n0 c0,.slice A1 n1 c1,.slice Ar g cr,ak k] 238,aaP Ar g cr us] [vh Ab nb cb eb,vh Aa na ca ea,bP w1 (ZM gM i g A0 n0 c0 A1 n1 c1 Ar cr k us),bL FL us,jM A0 n0 c0 es0,rI]:=σ
 have hna:=yw _ (aB oQ)
 dsimp only at hna
 obtain rfl:nn=na:=hna.symm
 have hnb:=yw _ (aB zD)
 dsimp only at hnb
 obtain rfl:nn=nb:=hnb.symm
 have hla:=σ.bC.2.1
 have hlb:=σ.aU.2.1
 rw [<- G9 mC oQ,<- G9 mC zD] at hs
 have hZa:=hZ _ (aB oQ)
 have hZb:=hZ _ (aB zD)
 refine vE rfl (fun η=>p9 η Tryz.underlying233 rfl)<|iF rfl rfl<|gY [] [0,4,8,13,16,20,24,28,33,36,40,44] aK σ fun _ σ=>lS 0 rfl<|lS 0 rfl<|cZ rfl<|kB (b':=false) (kv.2 ae)<|iF rfl rfl<|gY [12] [0,4,8,12,17,20,24,28,33,36,41,46,50] aK σ fun _ σ=>lS 0 rfl<|lS 0 rfl<|vE rfl (fun η=>az (i:=k) η Tryz.underlying25 (an.size) rfl rfl ae rfl σ.jW.1)<|sE rfl (fun η hg=>bF (v:=#[aq op,ak tr,ak ra,ak rb,aq cn]) (i:=k) (e:=(op,((tr:Nat):Int),((ra:Nat):Int),((rb:Nat):Int),cn)) η an rfl rfl iR (hg.pt (j:=4) rfl).1 ae b5 rfl)<|eS rfl<|eL aI σ rfl fun _ bJ σ=>sk (σ.kd 1 0)<|eS rfl<|cX 0 σ rfl fun _ σ=>sz rfl<|gE 0 σ rfl<|eE rfl<|cS Tryz.call187 (XQ hM) rfl ?_
 rintro _ _ ⟨f9,aiu,E9,rfl,hS9,hU9,aiv,hD9⟩
 refine ⟨_,rfl,?_⟩
 replace σ:=σ.more hS9
 refine gY [] [0,4,8,13,16,21,24,29,32,36,40,45,48,53,56,61,64,68] aK σ fun _ σ=>lS 2 rfl<|lS 1 rfl<|vE rfl (fun η=>az (i:=ra) η Tryz.underlying131 (aH.size) rfl rfl ae rfl (ax σ.tw))<|sE rfl (fun η hg=>aJ (i:=ra) (j:=0) (e:=(Aa,nn,ca,ea)) η aH rfl rfl gX ai (ax (hg.ow (j:=3) rfl)) ae oQ rfl)<|lS 2 rfl<|lS 1 rfl<|vE rfl (fun η=>az (i:=rb) η Tryz.underlying131 (aH.size) rfl rfl ae rfl (ax σ.tw))<|sE rfl (fun η hg=>aJ (i:=rb) (j:=0) (e:=(Ab,nn,cb,eb)) η aH rfl rfl gX ai (ax (hg.ow (j:=3) rfl)) ae zD rfl)<|eE rfl<|mkN fN ((none,0,0):NE) ar (n:=nn) σ bK rfl mu ae (by unfold maxLen; omega) fun _ cJ σ=>?_
 replace σ:=σ.sU (kI nn _) ⟨aL,hU9,aN rfl,aN rfl,aL,trivial⟩
 refine fX (fun mz l w=>∃t:Nat,∃eo:List NE,nn - t=mz/\l=[(60,ak t),(0,bB gM),(3,bB bJ),(4,.func (.func f9) #[] aiu),(5,.slice Aa nn ca),(6,.slice Ab nn cb),(7,.slice (bh cJ) nn nn),(59,ak nn)]/\St w0 w [abi (bh cJ) nn nn eo,E9,bk bJ #[aq op,ak tr,ak ra,ak rb,aq cn] 116,bk gM #[ak i,ak g,.slice A0 n0 c0,.slice A1 n1 c1,.slice Ar g cr,ak k] 238,aaP Ar g cr us] [bL FN eo,vh Ab nn cb eb,vh Aa nn ca ea,bP w1 (ZM gM i g A0 n0 c0 A1 n1 c1 Ar cr k us),bL FL us,jM A0 n0 c0 es0,rI]/\t<=nn/\eo.map zz=nH z t nn 0) ⟨0,(List.replicate nn ((none,0,0):NE)),rfl,rfl,σ,(bm _),(aoh z nn)⟩ ay ?_
 rintro _ _ _ ⟨t,eo,rfl,rfl,σ,ht,heo⟩
 refine ei rfl<|wD (fun lU=>?_) fun lU=>?_
 ·have cD:t<nn:=ae
  obtain ⟨⟨Ax,cx,x⟩,hex⟩:∃e,ea[t]?=some e:=⟨_,aw ae⟩
  replace σ:=σ.elem (k:=2) rfl hex
  obtain ⟨⟨Ay,cy,y⟩,hey⟩:∃e,eb[t]?=some e:=⟨_,aw ae⟩
  replace σ:=σ.elem (k:=2) rfl hey
  obtain ⟨z9,hz9,hr9⟩:=adT hs (by rw [aZ,aZ,hla,hlb]) (Mo hex) (Mo hey)
  have hzx:=hZa x (aB (Mo hex))
  have hzy:=hZb y (aB (Mo hey))
  refine iT rfl rfl<|gY [14] [0,4,8,12,17,20,24,28,33,3,0,0,0,0,0,0] aK σ fun _ σ=>vE rfl (fun η=>az (i:=t) η Tryz.underlying43 (ah.size) rfl rfl ae rfl σ.jW.1)<|sE rfl (fun η hg=>bF (i:=t) (e:=(Ax,cx,x)) η ah rfl rfl eF (hg.pt (j:=4) rfl).1 ae hex rfl)<|vE rfl (fun η=>az (i:=t) η Tryz.underlying43 (ah.size) rfl rfl ae rfl σ.eY.1)<|sE rfl (fun η hg=>bF (i:=t) (e:=(Ay,cy,y)) η ah rfl rfl eF (hg.pt (j:=3) rfl).1 ae hey rfl)<|brE [(9,[40,44,48,54,58,60]),(13,[38,40,44,48,58,60])] aK cT ⟨⟨⟨_,_,_,_,_,rfl,?_⟩,by kernel_rfl,rfl⟩,⟨⟨_,_,_,_,_,rfl,?_⟩,by kernel_rfl,rfl⟩,trivial⟩
  ·refine sf aiv rfl (hD9 _ _ _ _ _ _ _ _ σ.fK (show ve _ from σ.pat (k:=8) rfl) (show dK _ Ax cx x from σ.bC) (show dK _ Ay cy y from σ.aU) hzx hzy hr9) (by simp [fN]) ?_
   rintro _ _ ⟨_,rfl,⟨tS,sF,rfl,rF⟩,hb⟩
   refine ⟨_,rfl,?_⟩
   replace σ:=(σ.call hb).eO rF ⟨aL,hU9,aN rfl,aN rfl,aL,trivial⟩
   refine sk (σ.kd 0 1)<|eS rfl<|eL aG σ rfl fun _ u5 σ=>sk (σ.kd 1 1)<|eS rfl<|cX 0 σ rfl fun _ σ=>sz rfl<|iF rfl rfl<|gE 0 σ rfl<|vE rfl (fun η=>az (i:=t) η Tryz.underlying43 (ah.size) rfl rfl ae rfl (ax σ.fK))<|eE rfl<|srE 1 t (e1:=(tS,sF,z9)) eF σ rfl rfl ai ae (by have:=aM List.length heo; rw [aZ] at this; exact this.trans (iv ht Xh.symm)) fun _ σ=>?_
   replace σ:=σ.qp (e:=(tS,sF,z9)) (i:=3) (j:=0) rfl rfl t
   exact can (j:=1) rfl ae<|dF ⟨t+1,(eo.set t (tS,sF,z9)),rfl,rfl,σ.pick [1,2,3,4,5] [0,5,6,7,8,9,10] ai,ae,(Mn heo hz9 cD)⟩ ay ae
  ·refine eL aG σ rfl fun _ z7 σ=>sk (σ.kd 1 0)<|eS rfl<|sf aiv rfl (hD9 _ _ _ _ _ _ _ _ σ.lY (show ve _ from σ.pat (k:=8) rfl) (show dK _ Ax cx x from σ.bC) (show dK _ Ay cy y from σ.aU) hzx hzy hr9) (by simp [fN]) ?_
   rintro _ _ ⟨_,rfl,⟨LF,HJ,rfl,adM⟩,hb⟩
   refine ⟨_,rfl,?_⟩
   replace σ:=(σ.call hb).eO adM ⟨aN rfl,aL,hU9,aN rfl,aN rfl,aL,trivial⟩
   refine sk (σ.kd 1 1)<|eS rfl<|cX 0 σ rfl fun _ σ=>sz rfl<|iF rfl rfl<|gE 0 σ rfl<|vE rfl (fun η=>az (i:=t) η Tryz.underlying43 (ah.size) rfl rfl ae rfl (ax σ.fK))<|eE rfl<|srE 1 t (e1:=(LF,HJ,z9)) eF σ rfl rfl ai ae (by have:=aM List.length heo; rw [aZ] at this; exact this.trans (iv ht Xh.symm)) fun _ σ=>?_
   replace σ:=σ.qp (e:=(LF,HJ,z9)) (i:=3) (j:=0) rfl rfl t
   exact can (j:=1) rfl ae<|dF ⟨t+1,(eo.set t (LF,HJ,z9)),rfl,rfl,σ.pick [1,2,3,4,5] [0,5,6,7,8,9,10] ai,ae,(Mn heo hz9 cD)⟩ ay ae
 ·obtain rfl:nn=t:=ae
  refine iF rfl rfl<|?_
  have hle:eo.length=nn:=by have:=aM List.length heo; rw [aZ] at this; exact this.trans (iv (aY _) Xh.symm)
  replace σ:=σ.rU (k:=0) (j:=0) rfl rfl hle
  replace σ:St w0 _ [E9,bk bJ #[aq op,ak tr,ak ra,ak rb,aq cn] 116,bk gM #[ak i,ak g,.slice A0 n0 c0,.slice A1 n1 c1,.slice Ar g cr,ak k] 238,aaP Ar g cr us] [vh (bh cJ) nn nn eo,bL FN eo,vh Ab nn cb eb,vh Aa nn ca ea,bP w1 (ZM gM i g A0 n0 c0 A1 n1 c1 Ar cr k us),bL FL us,jM A0 n0 c0 es0,rI]:=σ.pick [0,1,2,3] [0,2,3,4,5,6,7,8] ai
  refine gY [8] [0,4,8,13,16,21,24,28,34] aK σ fun _ σ=>lS 2 rfl<|lS 1 rfl<|vE rfl (fun η=>az (i:=tr) η Tryz.underlying131 (aH.size) rfl rfl ae rfl (ax σ.tw))<|eS rfl<|qI 3 tr (e1:=(((bh cJ),nn,nn,eo):LE)) gX σ rfl rfl ae hul fun _ σ=>sz rfl<|?_
  replace σ:=σ.qp (e:=(((bh cJ),nn,nn,eo):LE)) (i:=5) (j:=0) rfl rfl tr
  exact lE 2 σ rfl<|can (j:=1) rfl ae<|eE rfl<|j0 2 σ rfl fun _ σ=>o1 Tryz.results148 rfl<|⟨rfl,((bh cJ),nn,nn,eo),heo.trans (wA Xh),(σ.pick [2,3] [5,0] ai).pack 2⟩
theorem XS {w0:World} {gM i g n0 c0 n1 c1 cr k:Nat} {A0 A1 Ar:Option Addr} (hk:k=n0) (hb:(bk gM #[ak i,ak g,.slice A0 n0 c0,.slice A1 n1 c1,.slice Ar g cr,ak k] 238).P w0):
  Calls Tryz.prog 148 #[bB gM] w0 fun e w'=>e=.returned (aq 4)/\Below w0.heap.size w0 w':=by
 refine dp Tryz.func148 rfl Tryz.ntmps148 rfl fun σ=>?_
 replace σ:=σ.iq _ hb
 exact vE rfl (fun η=>p9 η Tryz.underlying233 rfl)<|iF rfl rfl<|gY [] [0,4,8,13,16,20,24,28,33,36,40,44] aK σ fun _ σ=>sE rfl (fun η hg=>aS η aD rfl (kg (hg.pt (j:=0) rfl)) rfl)<|sE rfl (fun η hg=>aS η fa rfl (kg (hg.pt (j:=0) rfl)) rfl)<|cZ rfl<|kB (b':=true) (uh.2 ae)<|iT rfl rfl<|o1 Tryz.results148 rfl<|⟨rfl,σ.below⟩
theorem St.aoj {w0 w w':World} {ps:List PF} {o o' p:PF} (h:St w0 w [o] ps) (h':St w0 w' [o'] [bP w o,p]):St w0 w' [o'] (p::ps):=by
 have h1:=h.j4 (k:=0) rfl (o':=o') ⟨h'.below,h'.mine,h'.new,h'.nd,fun q hq=>h'.pers q (by rw [cC.1 hq]; exact bS ..),fun q hq=>h'.apart q (by rw [cC.1 hq]; exact bS ..)⟩
 exact h1.iB p (h'.pat (k:=1) rfl) fun e he=>h'.apart p (cO _ (bS ..)) e he
theorem TD {R:List Rw} {op ra rb cn:Int} {tr:Nat} {g nn:Nat} {z:Rw} (h:lD op cn (eQ R ra) (eQ R rb)=some z) (hR:R.length=g/\∀r∈R,r.length=nn) (hM:cN (op,((tr:Nat):Int),ra,rb,cn) g):z.length=nn:=by
 unfold cN at hM
 dsimp only at hM
 exact Fz h (vU hR.1 hR.2 ae ae) fun q=>vU hR.1 hR.2 ae ae
theorem TF {g n i:Nat} {G:List Rw} (hi:G.length=i) (_:i<=g):(ie g n G).take i=G:=by
 unfold ie
 rw [vA ae,bD (by omega)]
theorem TG {g n q:Nat} {G:List Rw} (hq:G.length<=q) (hg:q<g):(ie g n G)[q]?=some (List.replicate n 0):=by
 rw [Eo ae hg,aQ ae]
theorem adV {G:List Rw} {vs:List LE} {j:Nat} {A:Option Addr} {n c:Nat} {es:List NE} (h:vs.map lz=G) (he:vs[j]?=some (A,n,c,es)):G[j]?=some (es.map zz):=by
 rw [<- h,bo,he]; rfl
theorem XT {w0:World} {gM i g n0 c0 n1 c1 cr k:Nat} {A0 A1 Ar:Option Addr} (hk:k=n0) (hb:(bk gM #[ak i,ak g,.slice A0 n0 c0,.slice A1 n1 c1,.slice Ar g cr,ak k] 238).P w0):
  Calls Tryz.prog 188 #[bB gM] w0 fun e w'=>e=.returned (.bool true)/\Below w0.heap.size w0 w':=by
 refine dp Tryz.func188 rfl Tryz.ntmps188 rfl fun σ=>?_
 replace σ:=σ.iq _ hb
 exact gY [] [0,4,8,12,16,20,25,28,32,36,40,45,48,52,56,60] aK σ fun _ σ=>vE rfl (fun η=>XP η Tryz.underlying233 rfl)<|sE rfl (fun η hg=>aS η aD rfl (kg (hg.pt (j:=0) rfl)) rfl)<|sE rfl (fun η hg=>aS η fa rfl (kg (hg.pt (j:=0) rfl)) rfl)<|cZ rfl<|o1 Tryz.results188 rfl<|⟨aM (fun b=>Ending.returned (Value.bool b)) (uh.2 ae),σ.below⟩
theorem XU {w0:World} {gM i g n0 c0 n1 c1 cr k nn:Nat} {A0 A1 Ar:Option Addr} {es1:List Int} {us:List LE} {R:List Rw} (hk:k=n0) (hb:(bk gM #[ak i,ak g,.slice A0 n0 c0,.slice A1 n1 c1,.slice Ar g cr,ak k] 238).P w0) (h1:(bE A1 n1 c1 es1).P w0) (hR:(Mt Ar g cr us).P w0) (mC:us.map lz=R) (EN:R.length=g/\∀r∈R,r.length=nn) (avo:1<=nn/\nn<=10000) (ho:∀r∈es1,0<=r/\r<g) (DM:n1<=1000):
  Calls Tryz.prog 149 #[bB gM] w0 fun e w'=>∃A c vo,e=.returned (.tuple #[.slice A n1 c,aq 0])/\St w0 w' [aaP A n1 c vo] [bL FL vo]/\gZ w0.heap.size vo/\vo.map lz=es1.map (eQ R):=by
 refine dp Tryz.func149 rfl Tryz.ntmps149 rfl fun σ=>?_
 have cY:=h1.2.1
 replace σ:=σ.iq _ hb
 replace σ:=σ.aE h1
 replace σ:=σ.aE hR
 have hql:=hR.2.1
 have yw:=xk hR.2.2 EN.2 mC
 refine vE rfl (fun η=>p9 η Tryz.underlying233 rfl)<|iF rfl rfl<|eE rfl<|dx Tryz.call188 (XT hk σ.cF) σ rfl fun _ σ=>iF rfl rfl<|cE rfl (fun η=>aS η nN rfl (kg σ.cF) rfl)<|?_
 replace σ:=(σ.cl ar 43 1).nP FL
 refine fX (fun mz l w=>∃x:Nat,∃A4:Option Addr,∃c4:Nat,∃vo:List LE,n1 - x=mz/\l=[(20,ak x),(4,.slice A4 x c4),(0,bB gM),(18,.slice A1 n1 c1),(19,ak n1)]/\St w0 w [aaP A4 x c4 vo] [bL FL vo,Mt Ar g cr us,bE A1 n1 c1 es1,bk gM #[ak i,ak g,.slice A0 n0 c0,.slice A1 n1 c1,.slice Ar g cr,ak k] 238]/\x<=n1/\vo.map lz=(es1.map (eQ R)).take x/\gZ w0.heap.size vo) ⟨0,none,0,[],rfl,rfl,σ,(bm _),rfl,(gZ.nil _)⟩ ay ?_
 rintro _ _ _ ⟨x,A4,c4,vo,rfl,rfl,σ,hx,hvo,OD⟩
 refine ei rfl<|wD (fun iz=>?_) fun iz=>?_
 ·have cD:x<n1:=ae
  obtain ⟨r0,iH⟩:∃e,es1[x]?=some e:=⟨_,aw ae⟩
  have hr8:=ho _ (aB iH)
  obtain ⟨r9,rfl⟩:=dh hr8.1
  obtain ⟨⟨Aq,nq,cq,eq9⟩,xG⟩:∃e,us[r9]?=some e:=⟨_,aw ae⟩
  replace σ:=σ.elem (k:=1) rfl xG
  replace σ:St w0 _ [aaP A4 x c4 vo] [vh Aq nq cq eq9,bL FL vo,Mt Ar g cr us,bE A1 n1 c1 es1,bk gM #[ak i,ak g,.slice A0 n0 c0,.slice A1 n1 c1,.slice Ar g cr,ak k] 238]:=σ
  have Vd:=yw _ (aB xG)
  dsimp only at Vd
  obtain rfl:nn=nq:=Vd.symm
  refine iT rfl rfl<|vE rfl (fun η=>az (i:=x) η Tryz.underlying26 (aD.size) rfl rfl ae rfl σ.eY.1)<|cE rfl (fun η=>aJ (i:=x) (j:=0) (e:=((r9:Nat):Int)) η aD rfl rfl bn ai σ.eY.1 ae iH rfl)<|cE rfl (fun η=>aS η fp rfl (kg σ.jW) rfl)<|vE rfl (fun η=>az (i:=r9) η Tryz.underlying131 (aH.size) rfl rfl ae rfl σ.cF.1)<|cE rfl (fun η=>aJ (i:=r9) (j:=0) (e:=(Aq,nn,cq,eq9)) η aH rfl rfl gX ai σ.cF.1 ae xG rfl)<|eE rfl<|cS Tryz.call161 (En σ.aU rfl ae ae) rfl ?_
  rintro _ _ ⟨_,rfl,⟨z8,wh,Td,rfl,NY,Am,JM⟩,hb⟩
  refine ⟨_,rfl,?_⟩
  have aiw:=fun a (ha:z8=some a)=>bq σ.below.size (NY.2.2 a ha)
  replace σ:=σ.iW hb NY Am (lh NY.2.1 ⟨aL,trivial⟩)
  refine eE rfl<|lr (z:=1) #[.slice z8 nn wh] σ (aH.size) dV rfl aK fun _ z7 σ=>eE rfl<|pT (new:=[(z8,nn,wh,Td)]) 1 0 σ dI rfl (by unfold maxLen; omega) ae fun _ B4 HJ σ=>?_
  replace σ:=σ.l7 (e:=(z8,nn,wh,Td)) (i:=2) (j:=0) rfl rfl
  exact can (j:=1) rfl ae<|dF ⟨x+1,(bh B4),HJ,(vo++[(z8,nn,wh,Td)]),rfl,rfl,σ.pick [1] [0,4,5,6] ai,ae,(CJ hvo iH mC xG JM),(OD.snoc (v:=(z8,nn,wh,Td)) aiw)⟩ ay ae
 ·obtain rfl:n1=x:=ae
  refine iF rfl rfl<|o2 Tryz.results149 rfl<|?_
  rw [bD (by rw [aZ]; omega)] at hvo
  exact ⟨_,_,_,rfl,σ.pick [0] [0] ai,OD,hvo⟩
theorem adW {w0:World} {i g nn:Nat} {A0 A1:Option Addr} {n0 c0 n1 c1:Nat} {es0:List IE} {es1:List Int} {A2:Option Addr} {c2:Nat} {vs:List LE} {G:List Rw} (h0:(jM A0 n0 c0 es0).P w0) (h1:(bE A1 n1 c1 es1).P w0) (h2:(Mt A2 i c2 vs).P w0) (bH:jc (i:Nat) (g:Nat) n0 n1 es0 es1) (mC:vs.map lz=G) (hG:∀r∈G,r.length=nn) (yw:1<=nn/\nn<=4096):
  Calls Tryz.prog 147 #[.agg (u4 i g A0 n0 c0 A1 n1 c1),.slice A2 i c2] w0 fun e w'=>∃gM A5 c5 A6 c6 Ar cr us,e=.returned (.tuple #[bB gM,aq 0])/\St w0 w' [bk gM #[ak i,ak g,.slice A5 n0 c5,.slice A6 n1 c6,.slice Ar g cr,ak 0] 238,aaP Ar g cr us,aad A5 n0 c5 es0,aab A6 n1 c6 es1] [bL FL us]/\gZ w0.heap.size us/\us.map lz=ie g nn G:=by
 refine dp Tryz.func147 rfl Tryz.ntmps147 rfl fun σ=>?_
 have a8:=h0.2.1
 have ic:=h0.1.cap
 have bW:=h0.1.big
 unfold maxLen at bW
 have cY:=h1.2.1
 have kY:=h1.1.cap
 have eC:=h1.1.big
 unfold maxLen at eC
 replace σ:=σ.aE h0
 replace σ:=σ.aE h1
 have q1:=bH.i1
 have q2:=bH.ln
 have kS:=h2.2.1
 have EL:G.length=i:=by rw [<- mC,aZ]; exact kS
 replace σ:=σ.aE h2
 obtain ⟨⟨A9,n9,c9,e9⟩,xv⟩:∃e,vs[0]?=some e:=⟨_,aw ae⟩
 replace σ:=σ.elem (k:=0) rfl xv
 have hn9:=Er hG mC h2.2.2 _ (aB xv)
 dsimp only at hn9
 obtain rfl:nn=n9:=hn9.symm
 refine eE rfl<|gN σ rfl fun _ bJ σ=>gE 0 σ rfl<|eE rfl<|dx Tryz.call41 (iu σ.eY σ.cF bH) σ rfl fun _ σ=>ir rfl<|kB (b':=false) rfl<|iF rfl rfl<|lE 0 σ rfl<|ir rfl<|kB (b':=false) (Bw rfl)<|iF rfl rfl<|vE rfl (fun η=>az (i:=0) η Tryz.underlying131 (aH.size) rfl rfl ae rfl σ.bC.1)<|cE rfl (fun η=>aJ (i:=0) (j:=0) (e:=(A9,nn,c9,e9)) η aH rfl rfl gX ai σ.bC.1 ae xv rfl)<|gE 0 σ rfl<|eE rfl<|cS Tryz.call50 (nU σ.eY σ.cF ae ae) rfl ?_
 rintro _ _ ⟨A5,c5,A6,c6,rfl,hSc⟩
 refine ⟨_,rfl,?_⟩
 replace σ:=σ.more hSc
 refine vE rfl (fun η=>cK (c:=#[ak i,ak g,.slice A5 n0 c5,.slice A6 n1 c6,bA,aq 0]) sD η rfl rfl)<|eE rfl<|gN σ rfl fun _ cJ σ=>?_
 replace σ:=(σ.cl ar 43 1).nP FL
 refine fX (fun mz l w=>∃j:Nat,∃A4:Option Addr,∃c4:Nat,∃us:List LE,i - j=mz/\l=[(35,ak j),(2,bB bJ),(8,ak nn),(9,bB cJ),(33,.slice A2 i c2),(34,ak i)]/\St w0 w [bk cJ #[ak i,ak g,.slice A5 n0 c5,.slice A6 n1 c6,.slice A4 j c4,ak 0] 238,aaP A4 j c4 us,aad A5 n0 c5 es0,aab A6 n1 c6 es1,bk bJ (u4 i g A0 n0 c0 A1 n1 c1) 28] [bL FL us,vh A9 nn c9 e9,Mt A2 i c2 vs,bE A1 n1 c1 es1,jM A0 n0 c0 es0]/\j<=i/\us.map lz=G.take j/\gZ w0.heap.size us) ⟨0,none,0,[],rfl,rfl,σ.pick [1,0,2,3,4] [0,1,2,3,4] ai,(bm _),rfl,(gZ.nil _)⟩ ay ?_
 rintro _ _ _ ⟨j,A4,c4,us,rfl,rfl,σ,hj,EO,EM⟩
 refine ei rfl<|wD (fun lU=>?_) fun lU=>?_
 ·have cD:j<i:=ae
  obtain ⟨⟨Ax,nx,cx,ex⟩,Zo⟩:∃e,vs[j]?=some e:=⟨_,aw ae⟩
  replace σ:=σ.elem (k:=2) rfl Zo
  replace σ:St w0 _ [bk cJ #[ak i,ak g,.slice A5 n0 c5,.slice A6 n1 c6,.slice A4 j c4,ak 0] 238,aaP A4 j c4 us,aad A5 n0 c5 es0,aab A6 n1 c6 es1,bk bJ (u4 i g A0 n0 c0 A1 n1 c1) 28] [vh Ax nx cx ex,bL FL us,vh A9 nn c9 e9,Mt A2 i c2 vs,bE A1 n1 c1 es1,jM A0 n0 c0 es0]:=σ
  have hnx:=Er hG mC h2.2.2 _ (aB Zo)
  dsimp only at hnx
  obtain rfl:nn=nx:=hnx.symm
  refine iT rfl rfl<|vE rfl (fun η=>az (i:=j) η Tryz.underlying131 (aH.size) rfl rfl ae rfl σ.eY.1)<|cE rfl (fun η=>aJ (i:=j) (j:=0) (e:=(Ax,nn,cx,ex)) η aH rfl rfl gX ai σ.eY.1 ae Zo rfl)<|ir rfl<|kB (b':=false) (Bw rfl)<|pd rfl<|kB (b':=false) (bR ae)<|iF rfl rfl<|gY [8,11] [0,4,8,12,17,20,26,30,34,36,40,46] aK σ fun _ σ=>lS 0 rfl<|eS rfl<|cS Tryz.call161 (En σ.aU rfl ae ae) rfl ?_
  rintro _ _ ⟨_,rfl,⟨tS,sF,NZ,rfl,JN,Bv,Tf⟩,hb⟩
  refine ⟨_,rfl,?_⟩
  have Tg:=fun a (ha:tS=some a)=>bq σ.below.size (JN.2.2 a ha)
  replace σ:=σ.iW hb JN Bv (lh JN.2.1 ⟨aN rfl,aL,aL,aL,aN rfl,trivial⟩)
  refine sk (σ.kd 0 1)<|eS rfl<|lr (z:=1) #[.slice tS nn sF] σ (aH.size) dV rfl aK fun _ Bt σ=>sk (σ.kd 1 1)<|eS rfl<|pT (new:=[(tS,nn,sF,NZ)]) 2 0 σ dI rfl (by unfold maxLen; omega) ae fun _ GF c62 σ=>sz rfl<|?_
  replace σ:=σ.l7 (e:=(tS,nn,sF,NZ)) (i:=2) (j:=0) rfl rfl
  exact eS rfl<|j0 1 σ rfl fun _ σ=>sz rfl<|can (j:=1) rfl ae<|dF ⟨j+1,(bh GF),c62,(us++[(tS,nn,sF,NZ)]),rfl,rfl,σ.pick [1,2,3,4,5] [0,4,5,6,7] ai,ae,(sq EO (adV mC Zo) Tf),(EM.snoc (v:=(tS,nn,sF,NZ)) Tg)⟩ ay ae
 ·obtain rfl:i=j:=ae
  refine iF rfl rfl<|fX (fun mz l w=>∃q:Nat,∃A4:Option Addr,∃c4:Nat,∃us:List LE,g - q=mz/\l=[(2,bB bJ),(8,ak nn),(9,bB cJ)]/\St w0 w [bk cJ #[ak i,ak g,.slice A5 n0 c5,.slice A6 n1 c6,.slice A4 q c4,ak 0] 238,aaP A4 q c4 us,aad A5 n0 c5 es0,aab A6 n1 c6 es1,bk bJ (u4 i g A0 n0 c0 A1 n1 c1) 28] [bL FL us,vh A9 nn c9 e9,Mt A2 i c2 vs,bE A1 n1 c1 es1,jM A0 n0 c0 es0]/\i<=q/\q<=g/\us.map lz=(ie g nn G).take q/\gZ w0.heap.size us) ⟨i,A4,c4,us,rfl,rfl,σ,(aY _),ae,(by rw [TF EL ae]; rw [bD (by omega)] at EO; exact EO),EM⟩ ay ?_
  rintro _ _ _ ⟨q,A4,c4,us,rfl,rfl,σ,Om,T7,EO,EM⟩
  refine gY [] [0,4,8,13,16,20,25,28] aK σ fun _ σ=>lS 0 rfl<|lS 4 rfl<|ei rfl<|wD (fun C9=>?_) fun C9=>?_
  ·have aol:q<g:=ae
   refine iT rfl rfl<|gY [8,11] [0,4,8,12,17,20,26,30,34,36,40,46] aK σ fun _ σ=>lS 0 rfl<|eS rfl<|mkN fN ((none,0,0):NE) ar (n:=nn) σ bK rfl mu ae (by unfold maxLen; omega) fun _ NM σ=>sk (σ.kd 1 0)<|?_
   replace σ:=σ.sU (kI nn _) ⟨aL,aN rfl,aL,aL,aL,aN rfl,trivial⟩
   have XE:∀a:Addr,((bh NM):Option Addr)=some a->w0.heap.size<=a.block:=fun a ha=>by cases ha; exact oU σ (k:=0) rfl
   replace σ:=σ.rU (k:=0) (j:=0) rfl rfl cT
   refine eS rfl<|lr (z:=1) #[.slice (bh NM) nn nn] σ (aH.size) dV rfl aK fun _ Ox σ=>sk (σ.kd 1 3)<|eS rfl<|pT (new:=[(((bh NM),nn,nn,(List.replicate nn ((none,0,0):NE))):LE)]) 2 0 σ dI rfl (by unfold maxLen; omega) ae fun _ Zs RE σ=>sz rfl<|?_
   replace σ:=σ.l7 (e:=(((bh NM),nn,nn,(List.replicate nn ((none,0,0):NE))):LE)) (i:=3) (j:=0) rfl rfl
   exact eS rfl<|j0 1 σ rfl fun _ σ=>sz rfl<|dF ⟨q+1,(bh Zs),RE,(us++[(((bh NM),nn,nn,(List.replicate nn ((none,0,0):NE))):LE)]),rfl,rfl,σ.pick [1,2,3,4,5] [0,5,6,7,8] ai,ae,ae,(sq EO (TG ae aol) (Tk nn)),(EM.snoc (v:=((bh NM),nn,nn,(List.replicate nn ((none,0,0):NE)))) XE)⟩ ay ae
  ·obtain rfl:g=q:=ae
   refine iF rfl rfl<|o2 Tryz.results147 rfl<|?_
   rw [bD (by rw [iX ae]; exact aY _)] at EO
   exact ⟨_,_,_,_,_,_,_,_,rfl,σ.pick [0,1,2,3] [0] ai,EM,EO⟩
theorem JU {w0:World} {i g nn:Nat} {A0 A1:Option Addr} {n0 c0 n1 c1:Nat} {es0:List IE} {es1:List Int} {A2:Option Addr} {c2:Nat} {vs:List LE} {G:List Rw} (h0:(jM A0 n0 c0 es0).P w0) (h1:(bE A1 n1 c1 es1).P w0) (h2:(Mt A2 i c2 vs).P w0) (bH:jc (i:Nat) (g:Nat) n0 n1 es0 es1) (mC:vs.map lz=G) (hG:∀r∈G,r.length=nn) (yw:1<=nn/\nn<=4096) {b:Nat} {R':List Rw} (hT:ve w0) (aom:nG (b+64*0) G) (T5:b+64*n0<=2880000) (mr:kX (ie g nn G) es0=some R'):
  Calls Tryz.prog 99 #[.agg (u4 i g A0 n0 c0 A1 n1 c1),.slice A2 i c2] w0 fun e w'=>∃A c vo,e=.returned (.tuple #[.slice A n1 c,ak n0,aq 0])/\St w0 w' [aaP A n1 c vo] [bL FL vo]/\gZ w0.heap.size vo/\vo.map lz=es1.map (eQ R'):=by
 refine dp Tryz.func99 rfl Tryz.ntmps99 rfl fun σ=>?_
 replace σ:=σ.Hi hT
 have a8:=h0.2.1
 have ic:=h0.1.cap
 have bW:=h0.1.big
 unfold maxLen at bW
 have cY:=h1.2.1
 have kY:=h1.1.cap
 have eC:=h1.1.big
 unfold maxLen at eC
 replace σ:=σ.aE h0
 replace σ:=σ.aE h1
 have q1:=bH.i1
 have q2:=bH.ln
 have kS:=h2.2.1
 have EL:G.length=i:=by rw [<- mC,aZ]; exact kS
 replace σ:=σ.aE h2
 refine eE rfl<|gN σ rfl fun _ bJ σ=>We rfl<|gE 0 σ rfl<|eE rfl<|cS Tryz.call147 (adW σ.cF σ.bC σ.aU bH mC hG yw) rfl ?_
 rintro _ _ ⟨gM,A5,c5,A6,c6,Ar,cr,us,rfl,hSn,hNn,C7⟩
 refine ⟨_,rfl,?_⟩
 replace σ:=σ.oT hSn hNn ⟨aN rfl,trivial⟩
 replace σ:=σ.eH (k:=2) rfl a8
 replace σ:=σ.eH (k:=2) rfl cY
 replace σ:=σ.uK (k:=2) rfl
 replace σ:=σ.pack 2
 refine ir rfl<|kB (b':=false) rfl<|iF rfl rfl<|fX (fun mz l w=>∃k:Nat,∃uk:List LE,∃Rk:List Rw,n0 - k=mz/\l=[(7,bB gM)]/\St w0 w [ZM gM i g A5 n0 c5 A6 n1 c6 Ar cr k uk] [bk bJ (u4 i g A0 n0 c0 A1 n1 c1) 28,bE A6 n1 c6 es1,jM A5 n0 c5 es0,bL FL uk,Mt A2 i c2 vs,bE A1 n1 c1 es1,jM A0 n0 c0 es0,rI]/\k<=n0/\uk.map lz=Rk/\kX Rk (es0.drop k)=some R'/\(Rk.length=g/\∀r∈Rk,r.length=nn)/\nG (b+64*k) Rk) ⟨0,us,(ie g nn G),rfl,rfl,σ,(bm _),C7,mr,(mI ae hG),(Mg aom)⟩ ay ?_
 rintro _ _ _ ⟨k,uk,Rk,rfl,rfl,σ,hk,ZJ,Y8,EN,Kb⟩
 rcases (show k<n0∨n0=k by omega) with cD|rfl
 ·obtain ⟨⟨op,D9,ra,rb,cn⟩,b5⟩:∃e,es0[k]?=some e:=⟨_,aw ae⟩
  have hM:=bH.may _ (aB b5)
  have xi:=hM
  unfold cN at xi
  dsimp only at xi
  obtain ⟨tr,rfl⟩:=dh (show 0<=D9 by omega)
  obtain ⟨zr,N0,Ep,JO⟩:=Ha Y8 b5
  dsimp only at N0 Ep JO
  rw [mJ] at Ep JO
  refine eE rfl<|cS Tryz.call148 (XR cD ZJ EN ae ae b5 hM N0 (TD N0 EN hM) (ZI Kb ae ZJ) ae (σ.bO (k:=0) rfl [3,2,7])) rfl ?_
  rintro _ _ ⟨rfl,v9,NP,hSv⟩
  refine ⟨_,rfl,?_⟩
  replace σ:=σ.aoj hSv
  exact cZ rfl<|kB (b':=false) rfl<|iF rfl rfl<|cZ rfl<|kB (b':=false) rfl<|iF rfl rfl<|dF ⟨k+1,(uk.set tr v9),(Rk.set tr zr),rfl,rfl,σ.pick [0] [1,2,3,0,5,6,7,8] ai,ae,(by rw [qK,ZJ,NP]),JO,(xT Ep hM EN.1 EN.2),(by have:=KM Ep hM Kb; exact this.mono ae)⟩ ay ae
 ·refine eE rfl<|dx Tryz.call148 (XS (i:=i) (g:=g) (A0:=A5) (c0:=c5) (A1:=A6) (n1:=n1) (c1:=c6) (Ar:=Ar) (cr:=cr) rfl (σ.dm.1 _ (bS ..))) σ rfl fun _ σ=>cZ rfl<|kB (b':=false) rfl<|iF rfl rfl<|cZ rfl<|kB (b':=true) rfl<|iT rfl rfl<|?_
  rw [dM ae] at Y8
  obtain rfl:Rk=R':=dw Y8
  replace σ:=σ.unpack
  refine eE rfl<|cS Tryz.call149 (XU rfl σ.dm σ.bC (rG σ.fK (by have:=aM List.length ZJ; rw [aZ] at this; exact this.trans EN.1) σ.eY) ZJ EN ⟨by omega,by omega⟩ bH.out ae) rfl ?_
  rintro _ _ ⟨Ao,co,uo,rfl,hSo,OD,XI⟩
  refine ⟨_,rfl,?_⟩
  have OG:=σ.below.size
  replace σ:=σ.oT hSo OD ⟨aN rfl,aL,trivial⟩
  exact gY [] [0,4,8,12,17,20,24,28,32] aK σ fun _ σ=>lS 1 rfl<|o3 Tryz.results99 rfl<|⟨_,_,_,rfl,σ.pick [0] [0] ai,fun v hv a ha=>bq OG (OD v hv a ha),XI⟩
section
variable {P:Program} {N:Nat} {dq:List Deferred} {a:Act} {l:List (Nat×Value)} {w:World} {d:Nat} {ty:TypeId} {pos:String} {af:Array Edge} {gd:Option (Nat×Bool)}
theorem XV {T E:TypeId} {x y z:Operand} {p q r:Option Addr} (h:aW dq N a l) (hT:P.underlying T=some (.array 3 E)) (hE:∃i,P.info? E=some i/\i.size=1) (hz:∃i,P.info? T=some i/\i.zero=some (.agg #[.pointer none,.pointer none,.pointer none])) (hx:bV l x=some (.pointer p)) (hy:bV l y=some (.pointer q)) (hw:bV l z=some (.pointer r)):
  (execOp a.eval ⟨some d,.build T #[(0,x),(1,y),(2,z)],ty,pos,af,gd⟩).run P w=.ok (.value (.agg #[.pointer p,.pointer q,.pointer r])) w:=by
 have Pa:(zeroValue T).run P w=.ok (.agg #[.pointer none,.pointer none,.pointer none]) w:=by obtain ⟨i,hi,hv⟩:=hz; simp [zeroValue,typeInfo,hi,hv]
 simp [execOp,h.ev hx,h.ev hy,h.ev hw,Instr.build,Pa,run_underlying hT,Sem.run_bind,run_sizeOf hE,Instr.fill,Value.cells]
theorem wC {T E:TypeId} {x y:Operand} {p q r v:Option Addr} (j:Nat) (h:aW dq N a l) (hT:P.underlying T=some (.array 3 E)) (hE:jx P E) (hx:bV l x=some (.agg #[.pointer p,.pointer q,.pointer r])) (hy:bV l y=some (ak j)) (hj:j<3) (hv:(match j with | 0=>p | 1=>q | _=>r)=v):
  (execOp a.eval ⟨some d,.index T x y,ty,pos,af,gd⟩).run P w=.ok (.value (.pointer v)) w:=by
 subst hv
 have hs:=run_sizeOf (w:=w) hE.size
 rcases (show j=0∨j=1∨j=2 by omega) with rfl | rfl | rfl
 ·simp [execOp,h.ev hx,h.ev hy,Instr.index,asIntOf,run_underlying hT,Sem.run_bind,part,hE.agg,hs]
 ·simp [execOp,h.ev hx,h.ev hy,Instr.index,asIntOf,run_underlying hT,Sem.run_bind,part,hE.agg,hs]
 ·simp [execOp,h.ev hx,h.ev hy,Instr.index,asIntOf,run_underlying hT,Sem.run_bind,part,hE.agg,hs]
end
def xK {α:Type} (b:Bool) (x y:α):α:=match b with
 | true=>x
 | false=>y
def opF (b:Bool) (p:PF):PF:=match b with
 | true=>p
 | false=>jY
theorem N5 {w0:World} {u:Un} (bH:u.Ok) (hm:u.Mem w0):
  Calls Tryz.prog 30 #[.agg (CQ u)] w0 fun e w'=>∃Xp xp X1 x1 Z1 z1 X2 x2 Z2 z2 X3 x3 Z3 z3,e=.returned (.agg #[ak u.k1,ak u.k2,.slice Xp u.n xp,ak u.k1,ak u.gL,.slice X1 u.n0 x1,.slice Z1 u.n z1,ak u.k2,ak u.gR,.slice X2 u.n3 x2,.slice Z2 u.n z2,ak u.n,ak u.gB,.slice X3 u.n5 x3,.slice Z3 u.n z3])/\St w0 w' [aa1 Xp u.n xp u.ps,aad X1 u.n0 x1 u.e0,aab Z1 u.n z1 u.e1,aad X2 u.n3 x2 u.e3,aab Z2 u.n z2 u.e4,aad X3 u.n5 x3 u.e5,aab Z3 u.n z3 u.e6] []:=by
 have Om:=bH.cL.ln
 have T7:=bH.cR.ln
 have ZL:=bH.cB.ln
 have hq4:=bH.ud.some_
 have hq5:=bH.len
 refine dp Tryz.func30 rfl Tryz.ntmps30 rfl fun σ=>?_
 replace σ:=σ.aE hm.m6
 replace σ:=σ.aE hm.m5
 replace σ:=σ.aE hm.m4
 replace σ:=σ.aE hm.m3
 replace σ:=σ.aE hm.m1
 replace σ:=σ.aE hm.m0
 replace σ:=σ.aE hm.mP
 refine eE rfl<|gN σ rfl fun _ bJ σ=>eE rfl<|eL cA σ rfl fun _ cJ σ=>lE 1 σ rfl<|eE rfl<|cS Tryz.call20 (tV σ.aU ae) rfl ?_
 rintro _ _ ⟨Xp,xp,rfl,ZK⟩
 refine ⟨_,rfl,?_⟩
 replace σ:=σ.more ZK
 refine eE rfl<|j0 2 σ rfl fun _ σ=>vE rfl (fun η=>XV η Tryz.underlying112 (eP.size) vP rfl rfl rfl)<|?_
 replace σ:=σ.UU jY trivial (fun _ h=>h)
 replace σ:=σ.UU jY trivial (fun _ h=>h)
 replace σ:=σ.UU jY trivial (fun _ h=>h)
 refine fX (fun mz l w=>∃j:Nat,∃X1:Option Addr,∃x1:Nat,∃Z1:Option Addr,∃z1:Nat,∃X2:Option Addr,∃x2:Nat,∃Z2:Option Addr,∃z2:Nat,∃X3:Option Addr,∃x3:Nat,∃Z3:Option Addr,∃z3:Nat,3 - j=mz/\l=[(13,ak j),(1,bB bJ),(2,bB cJ),(12,.agg #[.pointer (some ⟨bJ,3,none⟩),.pointer (some ⟨bJ,7,none⟩),.pointer (some ⟨bJ,11,none⟩)])]/\St w0 w [bk bJ #[ak u.k1,ak u.k2,.slice Xp u.n xp,ak u.k1,ak u.gL,.slice (xK (Nat.blt 0 j) X1 u.A0) u.n0 (xK (Nat.blt 0 j) x1 u.c0),.slice (xK (Nat.blt 0 j) Z1 u.A1) u.n (xK (Nat.blt 0 j) z1 u.c1),ak u.k2,ak u.gR,.slice (xK (Nat.blt 1 j) X2 u.A3) u.n3 (xK (Nat.blt 1 j) x2 u.c3),.slice (xK (Nat.blt 1 j) Z2 u.A4) u.n (xK (Nat.blt 1 j) z2 u.c4),ak u.n,ak u.gB,.slice (xK (Nat.blt 2 j) X3 u.A5) u.n5 (xK (Nat.blt 2 j) x3 u.c5),.slice (xK (Nat.blt 2 j) Z3 u.A6) u.n (xK (Nat.blt 2 j) z3 u.c6)] 30,opF (Nat.blt 0 j) (star [aad X1 u.n0 x1 u.e0,aab Z1 u.n z1 u.e1]),opF (Nat.blt 1 j) (star [aad X2 u.n3 x2 u.e3,aab Z2 u.n z2 u.e4]),opF (Nat.blt 2 j) (star [aad X3 u.n5 x3 u.e5,aab Z3 u.n z3 u.e6]),aa1 Xp u.n xp u.ps,bk cJ #[aq 0,aq 0,bA,aq 0,aq 0,bA,bA,aq 0,aq 0,bA,bA,aq 0,aq 0,bA,bA] 30] [u3 u.Ap u.n u.cp u.ps,jM u.A0 u.n0 u.c0 u.e0,bE u.A1 u.n u.c1 u.e1,jM u.A3 u.n3 u.c3 u.e3,bE u.A4 u.n u.c4 u.e4,jM u.A5 u.n5 u.c5 u.e5,bE u.A6 u.n u.c6 u.e6]/\j<=3) ⟨0,none,0,none,0,none,0,none,0,none,0,none,0,rfl,rfl,σ.pick [5,0,1,2,3,4] [0,1,2,3,4,5,6] ai,(bm _)⟩ ay ?_
 rintro _ _ _ ⟨j,X1,x1,Z1,z1,X2,x2,Z2,z2,X3,x3,Z3,z3,rfl,rfl,σ,hj⟩
 rcases (show j=0∨j=1∨j=2∨j=3 by omega) with rfl|rfl|rfl|rfl
 ·replace σ:St w0 _ [bk bJ #[ak u.k1,ak u.k2,.slice Xp u.n xp,ak u.k1,ak u.gL,.slice u.A0 u.n0 u.c0,.slice u.A1 u.n u.c1,ak u.k2,ak u.gR,.slice u.A3 u.n3 u.c3,.slice u.A4 u.n u.c4,ak u.n,ak u.gB,.slice u.A5 u.n5 u.c5,.slice u.A6 u.n u.c6] 30,jY,jY,jY,aa1 Xp u.n xp u.ps,bk cJ #[aq 0,aq 0,bA,aq 0,aq 0,bA,bA,aq 0,aq 0,bA,bA,aq 0,aq 0,bA,bA] 30] [u3 u.Ap u.n u.cp u.ps,jM u.A0 u.n0 u.c0 u.e0,bE u.A1 u.n u.c1 u.e1,jM u.A3 u.n3 u.c3 u.e3,bE u.A4 u.n u.c4 u.e4,jM u.A5 u.n5 u.c5 u.e5,bE u.A6 u.n u.c6 u.e6]:=σ
  refine ei rfl<|kB (b':=true) ai<|iT rfl rfl<|vE rfl (fun η=>wC (v:=some ⟨bJ,3,none⟩) 0 η Tryz.underlying112 eP rfl rfl ai rfl)<|cE rfl (fun η=>dH (cs:=[ak u.k1,ak u.gL,.slice u.A0 u.n0 u.c0,.slice u.A1 u.n u.c1]) η aO rfl σ.dj rfl rfl)<|eE rfl<|cS Tryz.call50 (nU σ.bC σ.cF ae ae) rfl ?_
  rintro _ _ ⟨oK,nv,B55,d56,rfl,wk⟩
  refine ⟨_,rfl,?_⟩
  replace σ:=σ.more wk
  replace σ:=σ.pack 2
  replace σ:=σ.pick [0,1,3,4,5,6] [0,1,2,3,4,5,6] ai
  exact eE rfl<|cX 1 σ rfl fun _ σ=>can (j:=1) rfl ae<|dF ⟨1,oK,nv,B55,d56,X2,x2,Z2,z2,X3,x3,Z3,z3,rfl,rfl,σ.pick [1,0,2,3,4,5] [0,1,2,3,4,5,6] ai,ae⟩ ay ae
 ·replace σ:St w0 _ [bk bJ #[ak u.k1,ak u.k2,.slice Xp u.n xp,ak u.k1,ak u.gL,.slice X1 u.n0 x1,.slice Z1 u.n z1,ak u.k2,ak u.gR,.slice u.A3 u.n3 u.c3,.slice u.A4 u.n u.c4,ak u.n,ak u.gB,.slice u.A5 u.n5 u.c5,.slice u.A6 u.n u.c6] 30,star [aad X1 u.n0 x1 u.e0,aab Z1 u.n z1 u.e1],jY,jY,aa1 Xp u.n xp u.ps,bk cJ #[aq 0,aq 0,bA,aq 0,aq 0,bA,bA,aq 0,aq 0,bA,bA,aq 0,aq 0,bA,bA] 30] [u3 u.Ap u.n u.cp u.ps,jM u.A0 u.n0 u.c0 u.e0,bE u.A1 u.n u.c1 u.e1,jM u.A3 u.n3 u.c3 u.e3,bE u.A4 u.n u.c4 u.e4,jM u.A5 u.n5 u.c5 u.e5,bE u.A6 u.n u.c6 u.e6]:=σ
  refine ei rfl<|kB (b':=true) ai<|iT rfl rfl<|vE rfl (fun η=>wC (v:=some ⟨bJ,7,none⟩) 1 η Tryz.underlying112 eP rfl rfl ai rfl)<|cE rfl (fun η=>dH (cs:=[ak u.k2,ak u.gR,.slice u.A3 u.n3 u.c3,.slice u.A4 u.n u.c4]) η aO rfl σ.dj rfl rfl)<|eE rfl<|cS Tryz.call50 (nU σ.eY σ.jW ae ae) rfl ?_
  rintro _ _ ⟨A58,c59,B60,d61,rfl,wm⟩
  refine ⟨_,rfl,?_⟩
  replace σ:=σ.more wm
  replace σ:=σ.pack 2
  replace σ:=σ.pick [0,1,2,4,5,6] [0,1,2,3,4,5,6] ai
  exact eE rfl<|cX 1 σ rfl fun _ σ=>can (j:=1) rfl ae<|dF ⟨2,X1,x1,Z1,z1,A58,c59,B60,d61,X3,x3,Z3,z3,rfl,rfl,σ.pick [1,2,0,3,4,5] [0,1,2,3,4,5,6] ai,ae⟩ ay ae
 ·replace σ:St w0 _ [bk bJ #[ak u.k1,ak u.k2,.slice Xp u.n xp,ak u.k1,ak u.gL,.slice X1 u.n0 x1,.slice Z1 u.n z1,ak u.k2,ak u.gR,.slice X2 u.n3 x2,.slice Z2 u.n z2,ak u.n,ak u.gB,.slice u.A5 u.n5 u.c5,.slice u.A6 u.n u.c6] 30,star [aad X1 u.n0 x1 u.e0,aab Z1 u.n z1 u.e1],star [aad X2 u.n3 x2 u.e3,aab Z2 u.n z2 u.e4],jY,aa1 Xp u.n xp u.ps,bk cJ #[aq 0,aq 0,bA,aq 0,aq 0,bA,bA,aq 0,aq 0,bA,bA,aq 0,aq 0,bA,bA] 30] [u3 u.Ap u.n u.cp u.ps,jM u.A0 u.n0 u.c0 u.e0,bE u.A1 u.n u.c1 u.e1,jM u.A3 u.n3 u.c3 u.e3,bE u.A4 u.n u.c4 u.e4,jM u.A5 u.n5 u.c5 u.e5,bE u.A6 u.n u.c6 u.e6]:=σ
  refine ei rfl<|kB (b':=true) ai<|iT rfl rfl<|vE rfl (fun η=>wC (v:=some ⟨bJ,11,none⟩) 2 η Tryz.underlying112 eP rfl rfl ai rfl)<|cE rfl (fun η=>dH (cs:=[ak u.n,ak u.gB,.slice u.A5 u.n5 u.c5,.slice u.A6 u.n u.c6]) η aO rfl σ.dj rfl rfl)<|eE rfl<|cS Tryz.call50 (nU σ.nF σ.uD ae ae) rfl ?_
  rintro _ _ ⟨W9,c64,B65,d66,rfl,adU⟩
  refine ⟨_,rfl,?_⟩
  replace σ:=σ.more adU
  replace σ:=σ.pack 2
  replace σ:=σ.pick [0,1,2,3,5,6] [0,1,2,3,4,5,6] ai
  exact eE rfl<|cX 1 σ rfl fun _ σ=>can (j:=1) rfl ae<|dF ⟨3,X1,x1,Z1,z1,X2,x2,Z2,z2,W9,c64,B65,d66,rfl,rfl,σ.pick [1,2,3,0,4,5] [0,1,2,3,4,5,6] ai,ae⟩ ay ae
 ·replace σ:St w0 _ [bk bJ #[ak u.k1,ak u.k2,.slice Xp u.n xp,ak u.k1,ak u.gL,.slice X1 u.n0 x1,.slice Z1 u.n z1,ak u.k2,ak u.gR,.slice X2 u.n3 x2,.slice Z2 u.n z2,ak u.n,ak u.gB,.slice X3 u.n5 x3,.slice Z3 u.n z3] 30,star [aad X1 u.n0 x1 u.e0,aab Z1 u.n z1 u.e1],star [aad X2 u.n3 x2 u.e3,aab Z2 u.n z2 u.e4],star [aad X3 u.n5 x3 u.e5,aab Z3 u.n z3 u.e6],aa1 Xp u.n xp u.ps,bk cJ #[aq 0,aq 0,bA,aq 0,aq 0,bA,bA,aq 0,aq 0,bA,bA,aq 0,aq 0,bA,bA] 30] [u3 u.Ap u.n u.cp u.ps,jM u.A0 u.n0 u.c0 u.e0,bE u.A1 u.n u.c1 u.e1,jM u.A3 u.n3 u.c3 u.e3,bE u.A4 u.n u.c4 u.e4,jM u.A5 u.n5 u.c5 u.e5,bE u.A6 u.n u.c6 u.e6]:=σ
  refine ei rfl<|kB (b':=false) ai<|iF rfl rfl<|?_
  replace σ:=(σ.pick [1,0,2,3,4,5] [0,1,2,3,4,5,6] ai).unpack
  replace σ:=(σ.pick [3,0,1,2,4,5,6] [0,1,2,3,4,5,6] ai).unpack
  replace σ:=(σ.pick [5,0,1,2,3,4,6,7] [0,1,2,3,4,5,6] ai).unpack
  exact gE 6 σ rfl<|eE rfl<|cX 8 σ rfl fun _ σ=>oR (fun e=>dA Tryz.results30 (RV.cell e eI rfl (σ.nA (k:=8) rfl) rfl))<|⟨Xp,xp,X1,x1,Z1,z1,X2,x2,Z2,z2,X3,x3,Z3,z3,rfl,σ.pick [7,4,5,2,3,0,1] [] ai⟩
theorem adX {w0:World} {u:Un} (bH:u.Ok) (hm:u.Mem w0):
  Calls Tryz.prog 10 #[.agg (CQ u)] w0 fun e w'=>∃gm Xp xp X1 x1 Z1 z1 X2 x2 Z2 z2 X3 x3 Z3 z3,e=.returned (.tuple #[bB gm,aq 0])/\St w0 w' [bk gm #[ak u.k1,ak u.k2,.slice Xp u.n xp,ak u.k1,ak u.gL,.slice X1 u.n0 x1,.slice Z1 u.n z1,ak u.k2,ak u.gR,.slice X2 u.n3 x2,.slice Z2 u.n z2,ak u.n,ak u.gB,.slice X3 u.n5 x3,.slice Z3 u.n z3] 82,aa1 Xp u.n xp u.ps,aad X1 u.n0 x1 u.e0,aab Z1 u.n z1 u.e1,aad X2 u.n3 x2 u.e3,aab Z2 u.n z2 u.e4,aad X3 u.n5 x3 u.e5,aab Z3 u.n z3 u.e6] []:=by
 refine dp Tryz.func10 rfl Tryz.ntmps10 rfl fun σ=>?_
 replace σ:=σ.aE hm.m6
 replace σ:=σ.aE hm.m5
 replace σ:=σ.aE hm.m4
 replace σ:=σ.aE hm.m3
 replace σ:=σ.aE hm.m1
 replace σ:=σ.aE hm.m0
 replace σ:=σ.aE hm.mP
 refine eE rfl<|gN σ rfl fun _ bJ σ=>gE 0 σ rfl<|eE rfl<|dx Tryz.call22 (XM bH ⟨σ.aU,σ.bC,σ.cF,σ.eY,σ.jW,σ.nF,σ.uD⟩) σ rfl fun _ σ=>ir rfl<|kB (b':=false) rfl<|iF rfl rfl<|gE 0 σ rfl<|eE rfl<|cS Tryz.call30 (N5 bH ⟨σ.aU,σ.bC,σ.cF,σ.eY,σ.jW,σ.nF,σ.uD⟩) rfl ?_
 rintro _ _ ⟨Xp,xp,X1,x1,Z1,z1,X2,x2,Z2,z2,X3,x3,Z3,z3,rfl,ZK⟩
 refine ⟨_,rfl,?_⟩
 replace σ:=σ.more ZK
 exact vE rfl (fun η=>cK (c:=#[ak u.k1,ak u.k2,.slice Xp u.n xp,ak u.k1,ak u.gL,.slice X1 u.n0 x1,.slice Z1 u.n z1,ak u.k2,ak u.gR,.slice X2 u.n3 x2,.slice Z2 u.n z2,ak u.n,ak u.gB,.slice X3 u.n5 x3,.slice Z3 u.n z3]) qE η rfl aK)<|eE rfl<|gN σ rfl fun _ cJ σ=>o2 Tryz.results10 rfl<|⟨cJ,Xp,xp,X1,x1,Z1,z1,X2,x2,Z2,z2,X3,x3,Z3,z3,rfl,σ.pick [0,1,2,3,4,5,6,7] [] ai⟩
theorem CM {w0:World} {u:Un} {gm n1 n2:Nat} {t:Int} (bH:u.Ok) (hM:(bk gm (CQ u) 82).P w0) (h1:n1<=4096) (h2:n2<=4096):
  Calls Tryz.prog 52 #[bB gm,ak n1,ak n2,aq t] w0 fun e w'=>e=.returned (.tuple #[ak (gI n1 n2 u.k1 u.k2),.bool (decide (EP n1 n2 u.k1 u.k2 t))])/\Below w0.heap.size w0 w':=by
 have iQ:=bH.xm.1
 have jb:=bH.xm.2.1
 refine dp Tryz.func52 rfl Tryz.ntmps52 rfl fun σ=>?_
 replace σ:=σ.iq _ hM
 exact gY [] [0,4,8,12,16,20,25,28,32,36,40,45,48,54,56,60,64,68,72] aK σ fun _ σ=>sE rfl (fun η hg=>aS η aD rfl (kg (hg.pt (j:=0) rfl)) rfl)<|sE rfl (fun η hg=>aS η aD rfl (kg (hg.pt (j:=0) rfl)) rfl)<|eS rfl<|dx Tryz.call95 (Ni (n1:=n1) (n2:=n2) (k1:=u.k1) (k2:=u.k2) (t:=t) ae ae ae ae ae ae) σ rfl fun _ σ=>sk σ.kn<|gY [] [0,4,8,12,16,20,25,28,32,36,40,45,50,52,56,60,64,68] aK σ fun _ σ=>sE rfl (fun η hg=>aS η aD rfl (kg (hg.pt (j:=0) rfl)) rfl)<|sE rfl (fun η hg=>aS η aD rfl (kg (hg.pt (j:=0) rfl)) rfl)<|eS rfl<|dx Tryz.call96 (Gb (n1:=n1) (n2:=n2) (k1:=u.k1) (k2:=u.k2) ae ae ae ae ae ae) σ rfl fun _ σ=>sk σ.kn<|o2 Tryz.results52 rfl<|⟨rfl,σ.below⟩
theorem St.aoo {w0 w:World} {own ps:List PF} {i j n m:Nat} {es os:List NE} (h:St w0 w own ps) (hi:ps[i]?=some (bL FN es)) (hj:ps[j]?=some (bL FN os)):St w0 w own (bL FN (es.take n++os.drop m)::ps):=
 h.iB _ (fun e he=>by
  rcases b6.1 he with q | q
  ·exact h.pat hi e (lI q)
  ·exact h.pat hj e (kj q)) fun o ho b h1 ⟨e,he,hf⟩=>by
  rcases b6.1 he with q | q
  ·exact h.apart _ (aB hi) o ho b h1 ⟨e,lI q,hf⟩
  ·exact h.apart _ (aB hj) o ho b h1 ⟨e,kj q,hf⟩
theorem CO {w0:World} {A0:Option Addr} {n0 c0:Nat} {es0:List NE} {xs:List Int} {kk m:Nat} (h0:(vh A0 n0 c0 es0).P w0) (jF:es0.map zz=xs) (vk:n0<=4096) (Bc:1<=kk) (hk8:kk<=8) (wM:1<=m) (hm4:m<=4096) (hkm:n0<=kk*m) (avt:kk*m<=32768):
  Calls Tryz.prog 98 #[.slice A0 n0 c0,ak kk,ak m] w0 fun e w'=>∃A c vs,e=.returned (.tuple #[.slice A kk c,aq 0])/\St w0 w' [aaP A kk c vs] [bL FL vs]/\gZ w0.heap.size vs/\vs.map lz=(List.range kk).map (gz xs m):=by
 refine dp Tryz.func98 rfl Tryz.ntmps98 rfl fun σ=>?_
 have a8:=h0.2.1
 replace σ:=σ.aE h0
 refine ei rfl<|kB (b':=false) (bR ae)<|pd rfl<|kB (b':=false) (bR ae)<|ei rfl<|kB (b':=false) (bR ae)<|pd rfl<|kB (b':=false) (bR ae)<|iF rfl rfl<|pd rfl<|kB (b':=false) (bR ae)<|iF rfl rfl<|Nl rfl ae<|ei rfl<|kB (b':=false) (bR ae)<|iF rfl rfl<|?_
 replace σ:=(σ.cl ar 43 1).nP FL
 refine fX (fun mz l w=>∃j:Nat,∃Aj:Option Addr,∃nn:Nat,∃cj:Nat,∃ea:List NE,∃A4:Option Addr,∃c4:Nat,∃vs:List LE,kk - j=mz/\l=[(38,ak j),(0,.slice Aj nn cj),(8,.slice A4 j c4),(2,ak m),(37,ak kk)]/\St w0 w [aaP A4 j c4 vs] [bL FL vs,vh Aj nn cj ea]/\j<=kk/\ea.map zz=xs.drop (j*m)/\vs.map lz=(List.range j).map (gz xs m)/\gZ w0.heap.size vs) ⟨0,A0,n0,c0,es0,none,0,[],rfl,rfl,σ,(bm _),(by rw [J3,vv]; exact jF),rfl,(gZ.nil _)⟩ ay ?_
 rintro _ _ _ ⟨j,Aj,nn,cj,ea,A4,c4,vs,rfl,rfl,σ,hj,Ux,JK,EM⟩
 have hla:=σ.bC.2.1
 have hca:=σ.bC.1.cap
 have hba:=σ.bC.1.big
 unfold maxLen at hba
 refine ei rfl<|wD (fun iz=>?_) fun iz=>?_
 ·have cD:j<kk:=ae
  refine iT rfl rfl<|eE rfl<|mkN fN ((none,0,0):NE) ar (n:=m) σ bK rfl mu ae (by unfold maxLen; omega) fun _ cJ σ=>?_
  replace σ:=σ.sU (kI m _) ⟨aL,aL,trivial⟩
  refine eE rfl<|cpE 0 σ σ.cF.1 eF cT hla aic aid (ah.size) rfl fun _ σ=>?_
  replace σ:=(σ.aia (k:=2) rfl).aoo (n:=m) (m:=nn) (i:=0) (j:=1) rfl rfl
  refine vE rfl (fun η=>sV (m:=(min nn m)) η Tryz.underlying43 (ah.size) rfl rfl ae)<|?_
  replace σ:=σ.rowFrom (i:=4) rfl (min nn m) eF ae
  have XE:∀a:Addr,((bh cJ):Option Addr)=some a->w0.heap.size<=a.block:=fun a ha=>by cases ha; exact oU σ (k:=0) rfl
  replace σ:=σ.rU (k:=0) (j:=1) rfl rfl (QX hla)
  refine eE rfl<|lr (z:=1) #[.slice (bh cJ) m m] σ (aH.size) dV rfl aK fun _ fo σ=>eE rfl<|pT (new:=[(((bh cJ),m,m,(ea.take m++(List.replicate m ((none,0,0):NE)).drop nn)):LE)]) 1 0 σ dI rfl (by unfold maxLen; omega) ae fun _ eZ sF σ=>?_
  replace σ:=σ.l7 (e:=(((bh cJ),m,m,(ea.take m++(List.replicate m ((none,0,0):NE)).drop nn)):LE)) (i:=6) (j:=0) rfl rfl
  exact can (j:=1) rfl ae<|dF ⟨j+1,(Vk Aj cj (min nn m) 2),(nn - min nn m),(cj - min nn m),(ea.drop (min nn m)),(bh eZ),sF,(vs++[(((bh cJ),m,m,(ea.take m++(List.replicate m ((none,0,0):NE)).drop nn)):LE)]),rfl,rfl,σ.pick [1] [0,3] ai,ae,(Nj Ux hla),(Nk JK (QW Ux hla)),(EM.snoc (v:=((bh cJ),m,m,(ea.take m++(List.replicate m ((none,0,0):NE)).drop nn))) XE)⟩ ay ae
 ·obtain rfl:kk=j:=ae
  exact iF rfl rfl<|o2 Tryz.results98 rfl<|⟨_,_,_,rfl,σ.pick [0] [0] ai,EM,JK⟩
theorem St.adY {w0 w:World} {own ps:List PF} {i:Nat} {es es':List NE} (h:St w0 w own ps) (hi:ps[i]?=some (bL FN es)) (hs:∀x∈es',x∈es):St w0 w own (bL FN es'::ps):=
 h.iB _ (fun e he=>h.pat hi e (hs e he)) fun o ho b h1 ⟨e,he,hf⟩=>h.apart _ (aB hi) o ho b h1 ⟨e,hs e he,hf⟩
theorem TH {w0:World} {A0:Option Addr} {n0 c0:Nat} {es0:List LE} {mw:List (List Int)} {k m:Nat} (h0:(Mt A0 n0 c0 es0).P w0) (jF:es0.map lz=mw) (hlen:∀v∈es0,v.2.1<=8192) (hxk:∀v∈es0,∀x∈v.2.2.2,zl (zz x)<=1000) (vk:n0<=15) (Bc:1<=k) (hk4:k<=4096) (hm8:m<=8192) (Bn:m≠0) (hdg:¬(((mx (Gd mw k (Ll mw k m n0) n0):Nat):Int) - 1>=(m:Nat))):
  Calls Tryz.prog 100 #[.slice A0 n0 c0,ak k,ak m] w0 fun e w'=>∃A es,e=.returned (.tuple #[.slice A m m,aq 0])/\(vh A m m es).P w'/\es.map zz=(Gd mw k (Ll mw k m n0) n0).take m/\(∀a,A=some a->w0.heap.size<=a.block)/\Below w0.heap.size w0 w':=by
 refine dp Tryz.func100 rfl Tryz.ntmps100 rfl fun σ=>?_
 have a8:=h0.2.1
 replace σ:=σ.aE h0
 refine ei rfl<|kB (b':=false) (bR ae)<|pd rfl<|kB (b':=false) (bR ae)<|ei rfl<|kB (b':=false) (bR ae)<|pd rfl<|kB (b':=false) (bR ae)<|iF rfl rfl<|pd rfl<|kB (b':=false) (bR ae)<|iF rfl rfl<|fX (fun mz l w=>∃i:Nat,∃T:Nat,n0 - i=mz/\l=[(36,ak i),(8,ak T),(0,.slice A0 n0 c0),(1,ak k),(2,ak m),(34,.slice A0 n0 c0),(35,ak n0)]/\St w0 w [] [Mt A0 n0 c0 es0]/\i<=n0/\T=Ll mw k m i/\T<=65536) ⟨0,m,rfl,rfl,σ,(bm _),rfl,ae⟩ ay ?_
 rintro _ _ _ ⟨i,T,rfl,rfl,σ,hi,hT,hTb⟩
 refine ei rfl<|wD (fun iz=>?_) fun iz=>?_
 ·have arb:i<n0:=ae
  obtain ⟨⟨A,n,c,es⟩,b5⟩:∃e,es0[i]?=some e:=⟨_,aw ae⟩
  replace σ:=σ.elem (k:=0) rfl b5
  have Xs:=σ.aU.2.1
  have hn8:n<=8192:=hlen _ (aB b5)
  obtain ⟨Ug,H7⟩:=Lm jF b5 Xs
  have hik:i*k<=57344:=fG (show i<=14 by omega) hk4
  exact iT rfl rfl<|vE rfl (fun η=>az (i:=i) η Tryz.underlying131 (aH.size) rfl rfl ae rfl σ.bC.1)<|cE rfl (fun η=>aJ (v:=.slice A n c) (i:=i) (j:=0) (e:=(A,n,c,es)) η aH rfl rfl gX ai σ.bC.1 ae b5 rfl)<|pd rfl<|kB (b':=false) (bR ae)<|iF rfl rfl<|Nl rfl ae<|can rfl ae<|vE rfl (fun η=>rZ η rfl rfl)<|can (j:=1) rfl ae<|dF ⟨i+1,(max T ((i*k)+n)),rfl,rfl,σ.pick [] [1] ai,ae,(by rw [hT,Ll,H7]),ae⟩ ay ae
 ·obtain rfl:n0=i:=ae
  refine iF rfl rfl<|eE rfl<|mkN fN ((none,0,0):NE) ar (n:=T) σ bK rfl mu ae (by unfold maxLen; omega) fun _ cJ σ=>?_
  have hmT:m<=T:=hT ▸ IQ mw k m n0
  replace σ:=σ.sU (kI T _) ⟨aL,trivial⟩
  refine fX (fun mz l w=>∃q:Nat,∃os:List NE,n0 - q=mz/\l=[(57,ak q),(1,ak k),(2,ak m),(11,.slice (bh cJ) T T),(55,.slice A0 n0 c0),(56,ak n0)]/\St w0 w [abi (bh cJ) T T os] [bL FN os,Mt A0 n0 c0 es0]/\q<=n0/\os.map zz=Gd mw k T q/\Zk (1000+8192*q) (os.map zz)) ⟨0,(List.replicate T ((none,0,0):NE)),rfl,rfl,σ,(bm _),(by rw [mN]; rfl),(fun z hz=>by rw [mN] at hz; rw [lW hz]; exact bq (by rw [mo]; omega) (bm _))⟩ ay ?_
  rintro _ _ _ ⟨q,os,rfl,rfl,σ,hq,ho,hkz⟩
  refine ei rfl<|wD (fun lU=>?_) fun lU=>?_
  ·have aiy:q<n0:=ae
   obtain ⟨⟨A,n,c,es⟩,b5⟩:∃e,es0[q]?=some e:=⟨_,aw ae⟩
   replace σ:=σ.elem (k:=1) rfl b5
   replace σ:St w0 _ [abi (bh cJ) T T os] [vh A n c es,bL FN os,Mt A0 n0 c0 es0]:=σ
   have Xs:=σ.aU.2.1
   have hn8:n<=8192:=hlen _ (aB b5)
   obtain ⟨Ug,H7⟩:=Lm jF b5 Xs
   have hik:q*k<=57344:=fG (show q<=14 by omega) hk4
   have mn:q*k+n<=T:=by have:=QY mw k m (i:=q) aiy; rw [H7,<- hT] at this; exact this
   refine iT rfl rfl<|vE rfl (fun η=>az (i:=q) η Tryz.underlying131 (aH.size) rfl rfl ae rfl σ.cF.1)<|cE rfl (fun η=>aJ (v:=.slice A n c) (i:=q) (j:=0) (e:=(A,n,c,es)) η aH rfl rfl gX ai σ.cF.1 ae b5 rfl)<|fX (fun mz l w=>∃j:Nat,∃ps:List NE,n - j=mz/\l=[(64,ak j),(1,ak k),(2,ak m),(11,.slice (bh cJ) T T),(12,ak q),(55,.slice A0 n0 c0),(56,ak n0),(57,ak q),(62,.slice A n c),(63,ak n)]/\St w0 w [abi (bh cJ) T T ps] [vh A n c es,bL FN ps,Mt A0 n0 c0 es0]/\j<=n/\ps.map zz=zT (mw.getD q []) (q*k) (Gd mw k T q) j/\Zk (1000+8192*q+j) (ps.map zz)) ⟨0,os,rfl,rfl,σ,(bm _),ho,hkz⟩ ay ?_
   rintro _ _ _ ⟨j,ps,rfl,rfl,σ,hj,Hw,IV⟩
   refine ei rfl<|wD (fun pV=>?_) fun pV=>?_
   ·have cD:j<n:=ae
    have tX:ps.length=T:=by rw [<- aZ (f:=zz),Hw,pS,uT]
    obtain ⟨⟨C,d,x⟩,iH⟩:∃e,es[j]?=some e:=⟨_,aw ae⟩
    replace σ:=σ.elem (k:=0) rfl iH
    obtain ⟨⟨E,f,y⟩,Cp⟩:∃e,ps[(q*k)+j]?=some e:=⟨_,aw ae⟩
    replace σ:=σ.qo (k:=2) rfl Cp
    have wY:zl x<=1000:=hxk _ (aB b5) _ (aB iH)
    have Is:zl y<=1000+8192*q+j:=IV.es rfl _ (aB Cp)
    refine iT rfl rfl<|vE rfl (fun η=>az (i:=j) η Tryz.underlying43 (ah.size) rfl rfl ae rfl σ.cF.1)<|cE rfl (fun η=>bF (i:=j) (e:=(C,d,x)) η ah rfl rfl eF σ.cF.1 ae iH rfl)<|eE rfl<|eL aG σ rfl fun _ oo σ=>eE rfl<|cX 0 σ rfl fun _ σ=>gY [17] [0,4,8,12,16,20,24,28,32,36,40,44,48,53,57,62,64,70] aK σ fun _ σ=>Nl rfl ae<|can rfl ae<|Nl rfl ae<|can rfl ae<|vE rfl (fun η=>az (i:=(q*k)+j) η Tryz.underlying43 (ah.size) rfl rfl ae rfl (ax σ.fK))<|sE rfl (fun η hg=>bF (i:=(q*k)+j) (e:=(E,f,y)) η ah rfl rfl eF (ax (hg.ow (j:=1) rfl)) ae Cp rfl)<|gS 0 rfl<|eS rfl<|cS Tryz.call63 (BR (x:=y) (y:=x) (show dK _ E f y from σ.aU) (show dK _ C d x from σ.bC) ae ae) rfl ?_
    rintro _ _ ⟨_,rfl,⟨GD,D4,rfl,xI⟩,hb⟩
    refine ⟨_,rfl,?_⟩
    replace σ:=(σ.call hb).eO xI ⟨aN rfl,aL,trivial⟩
    refine sk (σ.kd 0 1)<|vE rfl (fun η=>az (i:=(q*k)+j) η Tryz.underlying43 (ah.size) rfl rfl ae rfl (ax σ.fK))<|eS rfl<|srE 1 ((q*k)+j) (e1:=(GD,D4,(y+x))) eF σ rfl rfl ai ae tX fun _ σ=>sz rfl<|?_
    replace σ:=σ.qp (e:=(GD,D4,(y+x))) (i:=4) (j:=0) rfl rfl ((q*k)+j)
    exact can (j:=1) rfl ae<|dF ⟨j+1,(ps.set ((q*k)+j) (GD,D4,(y+x))),rfl,rfl,σ.pick [1] [4,0,6] ai,ae,(VZ Hw Ug iH Cp),(QZ IV (by have:=Ln y x; omega) ae)⟩ ay ae
   ·obtain rfl:n=j:=ae
    exact iF rfl rfl<|can (j:=1) rfl ae<|dF ⟨q+1,ps,rfl,rfl,σ.pick [0] [1,2] ai,ae,(by rw [Hw,Gd,H7]),(IV.mono ae)⟩ ay ae
  ·obtain rfl:n0=q:=ae
   refine iF rfl rfl<|?_
   rw [<- hT] at hdg
   have mE:os.length=T:=by rw [<- aZ (f:=zz),ho,uT]
   exact eE rfl<|dx Tryz.call150 (agc (es0:=os) ⟨ax σ.dm,mE,σ.aU⟩ ho ae) σ rfl fun _ σ=>xd rfl<|kB (b':=false) (bR hdg)<|iF rfl rfl<|cZ rfl<|kB (b':=false) (kv.2 ae)<|iF rfl rfl<|vE rfl (fun η=>MY (m:=m) (z:=2) η Tryz.underlying43 (ah.size) rfl rfl rfl hmT)<|o2 Tryz.results100 rfl<|⟨_,_,rfl,⟨aa8 eF (ax σ.dm) hmT,by rw [fg,mE]; omega,(σ.adY (es':=os.take m) (i:=0) rfl fun _ hx=>lI hx).pat (k:=0) rfl⟩,by rw [List.map_take,ho,<- hT],fun a ha=>by cases ha; exact oU σ (k:=0) rfl,σ.below⟩
section
variable {P:Program} {N:Nat} {dq:List Deferred} {a:Act} {l:List (Nat×Value)} {w:World} {d:Nat} {ty:TypeId} {pos:String} {af:Array Edge} {gd:Option (Nat×Bool)}
theorem XW {T E z n:Nat} {x y:Operand} {X Y Zc c:Array Value} (h:aW dq N a l) (hT:P.underlying T=some (.array n E)) (hE:∃i,P.info? E=some i/\i.size=z) (hz:∃i,P.info? T=some i/\i.zero=some (.agg Zc)) (hx:bV l x=some (.agg X)) (hy:bV l y=some (.agg Y)) (hf:Instr.fill (fun i=>some (i*z,z)) Zc [(0,.agg X),(1,.agg Y)]=some c):
  (execOp a.eval ⟨some d,.build T #[(0,x),(1,y)],ty,pos,af,gd⟩).run P w=.ok (.value (.agg c)) w:=by
 have Pa:(zeroValue T).run P w=.ok (.agg Zc) w:=by obtain ⟨i,hi,hv⟩:=hz; simp [zeroValue,typeInfo,hi,hv]
 have hl:(#[(0,x),(1,y)].map (fun (i,x)=>(i,a.eval x)):Array (Nat×Value)).toList=[(0,.agg X),(1,.agg Y)]:=by simp [h.ev hx,h.ev hy]
 simp only [execOp,Instr.build,Sem.run_bind,Pa,Result.andThen_ok,run_underlying hT w,run_sizeOf hE,Value.cells,hl,hf]
 rfl
theorem CP {T E z n:Nat} {x y:Operand} {C v:Array Value} (j:Nat) (h:aW dq N a l) (hT:P.underlying T=some (.array n E)) (hE:lg P E z) (hx:bV l x=some (.agg C)) (hy:bV l y=some (ak j)) (hj:j<n) (hv:C.extract (j*z) (j*z+z)=v):
  (execOp a.eval ⟨some d,.index T x y,ty,pos,af,gd⟩).run P w=.ok (.value (.agg v)) w:=by
 subst hv
 have hs:=run_sizeOf (w:=w) hE.size
 simp [execOp,h.ev hx,h.ev hy,Instr.index,asIntOf,run_underlying hT,Sem.run_bind,part,hE.agg,hs,hj]
end
abbrev TE:=LE×LE
def fTk (e:TE):List Value:=[.slice e.1.1 e.1.2.1 e.1.2.2.1,.slice e.2.1 e.2.2.1 e.2.2.2.1]
def FTk (_:TE):PF:=jY
theorem XX (e:TE):(fTk e).length=2:=rfl
theorem XY {us vs:List LE} {ts:List TE} {i:Nat} {x y:LE} (h:ts=(us.zip vs).take i) (hx:us[i]?=some x) (hy:vs[i]?=some y):ts++[(x,y)]=(us.zip vs).take (i+1):=by
 rw [List.take_add_one,(List.getElem?_zip_eq_some (z:=(x,y))).2 ⟨hx,hy⟩,h]; rfl
theorem yx (k m:Nat) (l:List Pt) (xs:List Int):(mD k l m xs).length=l.length:=by unfold mD; rw [aZ]
theorem Mp {b m k:Nat} {xs:List Int} (h:ue b xs):nG b (ud xs m k):=fun r hr v hv=>by
 obtain ⟨j,_,rfl⟩:=ff.1 hr
 exact sj.1 (rE h m j) v hv
theorem Hk {m k:Nat} {xs:List Int}:∀r∈ud xs m k,r.length=m:=fun r hr=>by
 obtain ⟨j,_,rfl⟩:=ff.1 hr
 exact lx xs m j
theorem St.adZ {w0 w w':World} {own ps new:List PF} {us vs:List LE} (h:St w0 w own ps) (hS:St w w' new [bL FL us,bL FL vs]) (hU:gZ w.heap.size us) (hN:gZ w.heap.size vs) (hn:qB own):St w0 w' (new++own) (bL FL us::bL FL vs::ps):=by
 have h1:St w w' new [bL FL vs]:=⟨hS.below,hS.mine,hS.new,hS.nd,fun p hp=>hS.pers p (cO _ hp),fun p hp=>hS.apart p (cO _ hp)⟩
 have h2:=h.oT h1 hN hn
 have h3:=h.call hS.below
 refine h2.iB _ (hS.pat (k:=0) rfl) fun o ho b hb hf=>?_
 rcases b6.1 ho with q | q
 ·exact hS.apart _ (bS ..) o q b hb hf
 ·exact apL (hS.pat (k:=0) rfl) hU hn (fun o ho b hb=>o.lt (h.mine o ho) hb) o q b hb (h3.mine o q) hf
theorem TI {w0:World} {u:Un} {gm:Nat} (bH:u.Ok) (hM:(bk gm (CQ u) 82).P w0) (hm:u.Mem w0) {A0 A1:Option Addr} {n0 c0 n1 c1 m b:Nat} {es0 es1:List NE} {xs ys:List Int} (hT:ve w0) (h0:(vh A0 n0 c0 es0).P w0) (h1:(vh A1 n1 c1 es1).P w0) (jF:es0.map zz=xs) (ld:es1.map zz=ys) (vk:n0<=4096) (DM:n1<=4096) (wM:1<=m/\m<=4096) (hx:n0<=u.k1*m) (hy:n1<=u.k2*m) (Fh:ue b xs) (ou:ue b ys) (T5:b<=1000000):
  Calls Tryz.prog 54 #[bB gm,.slice A0 n0 c0,.slice A1 n1 c1,ak m] w0 fun e w'=>∃A c us vs,e=.returned (.tuple #[.slice A u.n c,ak (u.n0+u.n3),aq 0])/\St w0 w' [av ar 133 2 A u.n c (fl fTk (us.zip vs))] [bL FL us,bL FL vs]/\gZ w0.heap.size us/\gZ w0.heap.size vs/\us.map lz=mD u.k1 u.ps m xs/\vs.map lz=mD u.k2 u.ps m ys:=by
 have iQ:=bH.xm.1
 have jb:=bH.xm.2.1
 have vg:=bH.num
 have Om:=bH.cL.ln
 have T7:=bH.cR.ln
 have ZL:=bH.cB.ln
 have YK:=bH.cL.i1
 have hg2:=bH.cR.i1
 have hg3:=bH.cB.i1
 have hq4:=bH.ud.some_
 have hq5:=bH.len
 refine dp Tryz.func54 rfl Tryz.ntmps54 rfl fun σ=>?_
 replace σ:=σ.Hi hT
 replace σ:=σ.aE hm.m6
 replace σ:=σ.aE hm.m5
 replace σ:=σ.aE hm.m4
 replace σ:=σ.aE hm.m3
 replace σ:=σ.aE hm.m1
 replace σ:=σ.aE hm.m0
 replace σ:=σ.aE hm.mP
 replace σ:=σ.iq _ hM
 have cY:=h1.2.1
 replace σ:=σ.aE h1
 have a8:=h0.2.1
 replace σ:=σ.aE h0
 have aoq:u.k1*m<=32768:=fG iQ.2 wM.2
 have aor:u.k2*m<=32768:=fG jb.2 wM.2
 obtain ⟨R1,hr0,ho0⟩:=G7 (m:=m) (xs:=xs) bH.pL ae
 obtain ⟨R2,hr1,ho1⟩:=G7 (m:=m) (xs:=ys) bH.pR ae
 refine eE rfl<|eL pC σ rfl fun _ bJ σ=>gY [] [0,4,8,12,16,21,24,28,32,36,41,44,48,52,56,60,64,69,72,76,80,84,89,92,96,100] aK σ fun _ σ=>sE rfl (fun η hg=>aS η aD rfl (kg (hg.pt (j:=2) rfl)) rfl)<|sE rfl (fun η hg=>dH η aO rfl (kg (hg.pt (j:=2) rfl)) rfl rfl)<|vE rfl (fun η=>cK (c:=#[.slice A0 n0 c0,ak u.k1,ak u.k1,ak u.gL,.slice u.A0 u.n0 u.c0,.slice u.A1 u.n u.c1]) dk η rfl rfl)<|sE rfl (fun η hg=>aS η aD rfl (kg (hg.pt (j:=2) rfl)) rfl)<|sE rfl (fun η hg=>dH η aO rfl (kg (hg.pt (j:=2) rfl)) rfl rfl)<|vE rfl (fun η=>cK (c:=#[.slice A1 n1 c1,ak u.k2,ak u.k2,ak u.gR,.slice u.A3 u.n3 u.c3,.slice u.A4 u.n u.c4]) dk η rfl rfl)<|vE rfl (fun η=>XW (c:=#[.slice A0 n0 c0,ak u.k1,ak u.k1,ak u.gL,.slice u.A0 u.n0 u.c0,.slice u.A1 u.n u.c1,.slice A1 n1 c1,ak u.k2,ak u.k2,ak u.gR,.slice u.A3 u.n3 u.c3,.slice u.A4 u.n u.c4]) η Tryz.underlying176 (cf.size) eV rfl rfl aK)<|?_
 replace σ:=(σ.cl ar 43 1).nP FL
 replace σ:=(σ.cl ar 43 1).nP FL
 refine fX (fun mz l w=>∃j:Nat,∃q:Nat,∃A8:Option Addr,∃m8:Nat,∃c8:Nat,∃v8:List LE,∃A9:Option Addr,∃m9:Nat,∃c9:Nat,∃v9:List LE,2 - j=mz/\l=[(46,ak j),(12,ak q),(3,ak m),(11,bB bJ),(45,.agg #[.slice A0 n0 c0,ak u.k1,ak u.k1,ak u.gL,.slice u.A0 u.n0 u.c0,.slice u.A1 u.n u.c1,.slice A1 n1 c1,ak u.k2,ak u.k2,ak u.gR,.slice u.A3 u.n3 u.c3,.slice u.A4 u.n u.c4])]/\St w0 w [bk bJ #[.slice A8 m8 c8,.slice A9 m9 c9] 174,aaP A8 m8 c8 v8,aaP A9 m9 c9 v9] [bL FL v8,bL FL v9,vh A0 n0 c0 es0,vh A1 n1 c1 es1,bk gm (CQ u) 82,u3 u.Ap u.n u.cp u.ps,jM u.A0 u.n0 u.c0 u.e0,bE u.A1 u.n u.c1 u.e1,jM u.A3 u.n3 u.c3 u.e3,bE u.A4 u.n u.c4 u.e4,jM u.A5 u.n5 u.c5 u.e5,bE u.A6 u.n u.c6 u.e6,rI]/\j<=2/\((j=0/\q=0)∨(j=1/\q=u.n0)∨(j=2/\q=u.n0+u.n3))/\(j=0∨(m8=u.n/\gZ w0.heap.size v8/\v8.map lz=mD u.k1 u.ps m xs))/\(j<=1∨(m9=u.n/\gZ w0.heap.size v9/\v9.map lz=mD u.k2 u.ps m ys))) ⟨0,0,none,0,0,[],none,0,0,[],rfl,rfl,σ.pick [2,0,1] [1,1,2,3,4,5,6,7,8,9,10,11,12] ai,(bm _),ae,(.inl rfl),(.inl ae)⟩ ay ?_
 rintro _ _ _ ⟨j,q,A8,m8,c8,v8,A9,m9,c9,v9,rfl,rfl,σ,hj,hq,hv8,NP⟩
 rcases (show j=0∨j=1∨j=2 by omega) with rfl|rfl|rfl
 ·obtain rfl:q=0:=ae
  refine ei rfl<|kB (b':=true) ai<|iT rfl rfl<|vE rfl (fun η=>CP (v:=#[.slice A0 n0 c0,ak u.k1,ak u.k1,ak u.gL,.slice u.A0 u.n0 u.c0,.slice u.A1 u.n u.c1]) 0 η Tryz.underlying176 cf rfl rfl ai aK)<|eE rfl<|eL de σ rfl fun _ cJ σ=>eE rfl<|cX 0 σ rfl fun _ σ=>lE 0 σ rfl<|lE 0 σ rfl<|eE rfl<|cS Tryz.call98 (CO σ.cF jF ae ae ae ae ae ae aoq) rfl ?_
  rintro _ _ ⟨oK,nv,aos,rfl,tO,aot,XZ⟩
  refine ⟨_,rfl,?_⟩
  have hs8:=σ.below.size
  replace σ:=σ.oT tO aot ⟨aN rfl,aN rfl,aL,aL,trivial⟩
  replace XZ:List.map lz aos=ud xs m u.k1:=XZ
  refine ir rfl<|kB (b':=false) rfl<|iF rfl rfl<|cE rfl (fun η=>dH (cs:=[ak u.k1,ak u.gL,.slice u.A0 u.n0 u.c0,.slice u.A1 u.n u.c1]) η aO rfl σ.vQ rfl rfl)<|eE rfl<|cS Tryz.call99 (JU (σ.pat (k:=7) rfl) (σ.pat (k:=8) rfl) (rG σ.dm (by have:=aM List.length XZ; rw [aZ,yu] at this; exact this) σ.aU) bH.cL XZ Hk ⟨by omega,by omega⟩ (σ.pat (k:=13) rfl) (Mp Fh:nG (b+64*0) _) ae hr0) rfl ?_
  rintro _ _ ⟨LF,HJ,aiC,rfl,wm,X0,aiD⟩
  refine ⟨_,rfl,?_⟩
  have OG:=σ.below.size
  replace σ:=σ.oT wm X0 ⟨aL,aN rfl,aN rfl,aL,aL,trivial⟩
  rw [ho0] at aiD
  replace X0:gZ w0.heap.size aiC:=fun v hv a ha=>bq OG (X0 v hv a ha)
  replace σ:=σ.pick [0,1,2,3,5] [0,1,2,3,4,5,6,7,8,9,10,11,12,13,14] ai
  exact ir rfl<|kB (b':=false) rfl<|iF rfl rfl<|vE rfl (fun η=>iV (i:=0) (p:=0) η Tryz.underlying174 (fp.size) rfl rfl ae ae)<|eE rfl<|j0 3 σ rfl fun _ σ=>can (i:=0) rfl ae<|can (i:=0) (j:=1) rfl ae<|dF ⟨1,0+u.n0,LF,u.n,HJ,aiC,A9,m9,c9,v9,rfl,rfl,σ.pick [3,0,4] [0,3,4,5,6,7,8,9,10,11,12,13,14] ai,ae,ae,(.inr ⟨rfl,X0,aiD⟩),(.inl ae)⟩ ay ae
 ·obtain rfl:q=u.n0:=ae
  obtain ⟨hm8,hN8,hw8⟩:=hv8.resolve_left ai
  subst hm8
  refine ei rfl<|kB (b':=true) ai<|iT rfl rfl<|vE rfl (fun η=>CP (v:=#[.slice A1 n1 c1,ak u.k2,ak u.k2,ak u.gR,.slice u.A3 u.n3 u.c3,.slice u.A4 u.n u.c4]) 1 η Tryz.underlying176 cf rfl rfl ai aK)<|eE rfl<|eL de σ rfl fun _ Ox σ=>eE rfl<|cX 0 σ rfl fun _ σ=>lE 0 σ rfl<|lE 0 σ rfl<|eE rfl<|cS Tryz.call98 (CO σ.eY ld ae ae ae ae ae ae aor) rfl ?_
  rintro _ _ ⟨Wt,RE,aou,rfl,DY,aov,X4⟩
  refine ⟨_,rfl,?_⟩
  have hs8:=σ.below.size
  replace σ:=σ.oT DY aov ⟨aN rfl,aN rfl,aL,aL,trivial⟩
  replace X4:List.map lz aou=ud ys m u.k2:=X4
  refine ir rfl<|kB (b':=false) rfl<|iF rfl rfl<|cE rfl (fun η=>dH (cs:=[ak u.k2,ak u.gR,.slice u.A3 u.n3 u.c3,.slice u.A4 u.n u.c4]) η aO rfl σ.vQ rfl rfl)<|eE rfl<|cS Tryz.call99 (JU (σ.pat (k:=9) rfl) (σ.pat (k:=10) rfl) (rG σ.dm (by have:=aM List.length X4; rw [aZ,yu] at this; exact this) σ.aU) bH.cR X4 Hk ⟨by omega,by omega⟩ (σ.pat (k:=13) rfl) (Mp ou:nG (b+64*0) _) ae hr1) rfl ?_
  rintro _ _ ⟨A72,c73,aiF,rfl,abU,X5,aiG⟩
  refine ⟨_,rfl,?_⟩
  have OG:=σ.below.size
  replace σ:=σ.oT abU X5 ⟨aL,aN rfl,aN rfl,aL,aL,trivial⟩
  rw [ho1] at aiG
  replace X5:gZ w0.heap.size aiF:=fun v hv a ha=>bq OG (X5 v hv a ha)
  replace σ:=σ.pick [0,1,2,3,4] [0,1,2,3,4,5,6,7,8,9,10,11,12,13,14] ai
  exact ir rfl<|kB (b':=false) rfl<|iF rfl rfl<|vE rfl (fun η=>iV (i:=1) (p:=1) η Tryz.underlying174 (fp.size) rfl rfl ae ae)<|eE rfl<|j0 3 σ rfl fun _ σ=>can rfl ae<|can (i:=1) (j:=1) rfl ae<|dF ⟨2,u.n0+u.n3,A8,u.n,c8,v8,A72,u.n,c73,aiF,rfl,rfl,σ.pick [3,4,0] [2,0,4,5,6,7,8,9,10,11,12,13,14] ai,ae,ae,(.inr ⟨rfl,hN8,hw8⟩),(.inr ⟨rfl,X5,aiG⟩)⟩ ay ae
 ·obtain rfl:q=(u.n0+u.n3):=ae
  obtain ⟨hm8,hN8,hw8⟩:=hv8.resolve_left ai
  subst hm8
  obtain ⟨Ou,XE,hw9⟩:=NP.resolve_left ai
  subst Ou
  refine ei rfl<|kB (b':=false) ai<|iF rfl rfl<|vE rfl (fun η=>iV (i:=0) (p:=0) η Tryz.underlying174 (fp.size) rfl rfl ae ae)<|lE 0 σ rfl<|?_
  have hl8:v8.length=u.n:=by have:=aM List.length hw8; rw [aZ,yx] at this; omega
  have hl9:v9.length=u.n:=by have:=aM List.length hw9; rw [aZ,yx] at this; omega
  replace σ:=(σ.cl ar 133 2)
  refine fX (fun mz l w=>∃i:Nat,∃A4:Option Addr,∃c4:Nat,∃ts:List TE,u.n - i=mz/\l=[(83,ak i),(19,.slice A4 i c4),(11,bB bJ),(12,ak (u.n0+u.n3)),(82,ak u.n)]/\St w0 w [av ar 133 2 A4 i c4 (fl fTk ts),bk bJ #[.slice A8 u.n c8,.slice A9 u.n c9] 174,aaP A8 u.n c8 v8,aaP A9 u.n c9 v9] [bL FL v8,bL FL v9,vh A0 n0 c0 es0,vh A1 n1 c1 es1,bk gm (CQ u) 82,u3 u.Ap u.n u.cp u.ps,jM u.A0 u.n0 u.c0 u.e0,bE u.A1 u.n u.c1 u.e1,jM u.A3 u.n3 u.c3 u.e3,bE u.A4 u.n u.c4 u.e4,jM u.A5 u.n5 u.c5 u.e5,bE u.A6 u.n u.c6 u.e6,rI]/\i<=u.n/\ts=(v8.zip v9).take i) ⟨0,none,0,[],rfl,rfl,σ,(bm _),rfl⟩ ay ?_
  rintro _ _ _ ⟨i,A4,c4,ts,rfl,rfl,σ,hi,hts⟩
  refine ei rfl<|wD (fun h78=>?_) fun h78=>?_
  ·have cD:i<u.n:=ae
   obtain ⟨⟨Ax,nx,cx,ex⟩,hx8⟩:∃e,v8[i]?=some e:=⟨_,aw ae⟩
   replace σ:=σ.qo (k:=0) rfl hx8
   obtain ⟨⟨Ay,ny,cy,ey⟩,OB⟩:∃e,v9[i]?=some e:=⟨_,aw ae⟩
   replace σ:=σ.qo (k:=2) rfl OB
   exact iT rfl rfl<|gY [13] [0,4,9,12,16,21,24,29,32,36,41,44,50,54,56] aK σ fun _ σ=>vE rfl (fun η=>iV (i:=0) (p:=0) η Tryz.underlying174 (fp.size) rfl rfl ae ae)<|lS 1 rfl<|vE rfl (fun η=>az (i:=i) η Tryz.underlying131 (aH.size) rfl rfl ae rfl (ax σ.lY))<|sE rfl (fun η hg=>aJ (v:=.slice Ax nx cx) (i:=i) (j:=0) (e:=(Ax,nx,cx,ex)) η aH rfl rfl gX ai (ax (hg.ow (j:=2) rfl)) ae hx8 rfl)<|vE rfl (fun η=>iV (i:=1) (p:=1) η Tryz.underlying174 (fp.size) rfl rfl ae ae)<|lS 1 rfl<|vE rfl (fun η=>az (i:=i) η Tryz.underlying131 (aH.size) rfl rfl ae rfl (ax σ.tw))<|sE rfl (fun η hg=>aJ (v:=.slice Ay ny cy) (i:=i) (j:=0) (e:=(Ay,ny,cy,ey)) η aH rfl rfl gX ai (ax (hg.ow (j:=3) rfl)) ae OB rfl)<|vE rfl (fun η=>cK (c:=#[.slice Ax nx cx,.slice Ay ny cy]) tJ η rfl rfl)<|eS rfl<|lr (z:=2) #[.slice Ax nx cx,.slice Ay ny cy] σ (ke.size) lL rfl aK fun _ g79 σ=>sk (σ.kd 1 0)<|eS rfl<|pT (new:=[((Ax,nx,cx,ex),(Ay,ny,cy,ey))]) 1 0 σ sB rfl (by unfold maxLen; omega) ae fun _ g80 c81 σ=>sz rfl<|can (j:=1) rfl ae<|dF ⟨i+1,(bh g80),c81,(ts++[((Ax,nx,cx,ex),(Ay,ny,cy,ey))]),rfl,rfl,σ.pick [1,2,3,4] [2,3,4,5,6,7,8,9,10,11,12,13,14] ai,ae,(XY hts hx8 OB)⟩ ay ae
  ·obtain rfl:i=u.n:=ae
   rw [bD (by rw [List.length_zip]; omega)] at hts
   refine iF rfl rfl<|o3 Tryz.results54 rfl<|?_
   subst hts
   exact ⟨_,_,v8,v9,rfl,σ.pick [0] [0,1] ai,hN8,XE,hw8,hw9⟩
def Uy (u:Un) (m:Nat) (xs ys:List Int):List (List Int):=(List.range u.n).map fun i=>iy ((mD u.k1 u.ps m xs).getD i []) ((mD u.k2 u.ps m ys).getD i [])
theorem Mr (u:Un) (m:Nat) (xs ys:List Int):(Uy u m xs ys).length=u.n:=by unfold Uy; simp
theorem Un.Ok.nE {u:Un} (bH:u.Ok):u.n=u.k1+u.k2 - 1:=by have:=bH.num; omega
theorem TJ {u:Un} (bH:u.Ok) {n:Nat} (hn:n=u.k1+u.k2 - 1) (h:lp n u.gB n (Bb u.ps) u.e5 u.e6 (wW n)) (hl:u.ps.length=n) (hg:n<=u.gB) {m:Nat} (hm:1<=m) (xs ys:List Int):∃R',kX (ie u.gB (2*m - 1) ((List.range n).map fun i=>iy ((mD u.k1 u.ps m xs).getD i []) ((mD u.k2 u.ps m ys).getD i []))) u.e5=some R'/\u.e6.map (eQ R')=yv xs ys m u.k1 u.k2:=by
 subst hn
 exact S0 hm hl h hg
theorem Un.Ok.back {u:Un} (bH:u.Ok) {m:Nat} (hm:1<=m) (xs ys:List Int):∃R',kX (ie u.gB (2*m - 1) (Uy u m xs ys)) u.e5=some R'/\u.e6.map (eQ R')=yv xs ys m u.k1 u.k2:=
 TJ bH bH.nE bH.pB bH.len (by have:=bH.cB.i1; omega) hm xs ys
theorem Ez {k m i:Nat} {l:List Pt} {xs:List Int} (hi:i<l.length):∃p∈l,(mD k l m xs).getD i []=qt (p8 (ud xs m k) m) (rf k (ma k p)):=by
 refine ⟨l[i],mS _,?_⟩
 unfold mD
 rw [aF,bo,aw hi]; rfl
theorem Hl {k m:Nat} {l:List Pt} {xs:List Int}:∀r∈mD k l m xs,r.length=m:=fun r hr=>by
 obtain ⟨p,_,rfl⟩:=ff.1 hr
 exact fk ..
theorem Ms {u:Un} (bH:u.Ok) {m b k:Nat} {xs:List Int} (hk:k<=8) (hb:ue b xs):∀r∈mD k u.ps m xs,ue (b+31) r:=fun r hr=>by
 obtain ⟨p,hp,rfl⟩:=ff.1 hr
 exact Em hb (bH.xm.2.2 p hp) hk
theorem X6 {u:Un} (bH:u.Ok) {m:Nat} (hm:1<=m) {xs ys:List Int}:∀r∈Uy u m xs ys,r.length=2*m - 1:=fun r hr=>by
 obtain ⟨i,hi,rfl⟩:=ff.1 hr
 have hi:=nZ.1 hi
 obtain ⟨p,_,e1⟩:=Ez (k:=u.k1) (m:=m) (l:=u.ps) (xs:=xs) (i:=i) (by have:=bH.len; omega)
 obtain ⟨q,_,e2⟩:=Ez (k:=u.k2) (m:=m) (l:=u.ps) (xs:=ys) (i:=i) (by have:=bH.len; omega)
 rw [e1,e2,zV (by rw [fk]; omega) (by rw [fk]; omega),fk,fk]; omega
theorem ad0 {u:Un} (bH:u.Ok) {m b:Nat} (hm:m<=4096) {xs ys:List Int} (hx:ue b xs) (hy:ue b ys):nG (2*b+75) (Uy u m xs ys):=fun r hr v hv=>by
 obtain ⟨i,hi,rfl⟩:=ff.1 hr
 have hi:=nZ.1 hi
 obtain ⟨p,hp,e1⟩:=Ez (k:=u.k1) (m:=m) (l:=u.ps) (xs:=xs) (i:=i) (by have:=bH.len; omega)
 obtain ⟨q,hq,e2⟩:=Ez (k:=u.k2) (m:=m) (l:=u.ps) (xs:=ys) (i:=i) (by have:=bH.len; omega)
 rw [e1,e2] at hv
 have:=L9 (n:=12) (Em (k:=u.k1) (m:=m) hx (bH.xm.2.2 p hp) bH.xm.1.2) (Em (k:=u.k2) (m:=m) hy (bH.xm.2.2 q hq) bH.xm.2.1.2) (by rw [fk]; exact hm)
 exact sj.1 (this.mono ae) v hv
theorem ad1 {m b k1 k2:Nat} (hm:m<=4096) (hk:k1<=8) {xs ys:List Int} (hx:ue b xs) (hy:ue b ys):nG (2*b+17) (yv xs ys m k1 k2):=fun r hr v hv=>by
 obtain ⟨s,hs,rfl⟩:=ff.1 hr
 obtain ⟨c,_,rfl⟩:=ff.1 hv
 have h1:∀i,(if i<=s/\s<i+k2 then cv (co (gz xs m i)) (co (gz ys m (s - i))) c else 0).natAbs<2 ^ (2*b+13):=fun i=>by
  split
  ·have:=L9 (n:=12) (rE hx m i) (rE hy m (s - i)) (by rw [lx]; exact hm) c
   rw [zW] at this
   exact this
  ·exact nW ai
 have h2:=El (nW (by decide:0<2)) k1 fun i _=>h1 i
 have h3:k1*2 ^ (2*b+13)<=8*2 ^ (2*b+13):=eh _ hk
 have h4:2 ^ (2*b+17)=16*2 ^ (2*b+13):=by rw [show 2*b+17=4+(2*b+13) by omega,mM]
 have h5:0<2 ^ (2*b+13):=nW ai
 unfold blF
 omega
theorem Un.Ok.join {u:Un} (bH:u.Ok) {m N:Nat} {xs ys:List Int} (hm:1<=m) (hx:xs.length<=u.k1*m) (hy:ys.length<=u.k2*m) (hN:(iy xs ys).length=N):
  mx (Gd (yv xs ys m u.k1 u.k2) m (Ll (yv xs ys m u.k1 u.k2) m N u.n) u.n)<=N/\(Gd (yv xs ys m u.k1 u.k2) m (Ll (yv xs ys m u.k1 u.k2) m N u.n) u.n).take N=iy xs ys:=by
 rw [bH.nE]
 exact Xl hm bH.xm.1.1 bH.xm.2.1.1 hx hy hN
theorem X7 {xs ys:List Int} {m k1 k2:Nat}:∀r∈yv xs ys m k1 k2,r.length=2*m - 1:=fun r hr=>by
 obtain ⟨s,_,rfl⟩:=ff.1 hr
 exact pO ..
theorem TK {w0:World} {u:Un} {gm:Nat} (bH:u.Ok) (hM:(bk gm (CQ u) 82).P w0) (hm:u.Mem w0) {A2:Option Addr} {c2 m b N:Nat} {vs:List LE} {xs ys:List Int} (hT:ve w0) (h2:(Mt A2 u.n c2 vs).P w0) (mC:vs.map lz=Uy u m xs ys) (wM:1<=m/\m<=2048) (hx:xs.length<=u.k1*m) (hy:ys.length<=u.k2*m) (Fh:ue b xs) (ou:ue b ys) (T5:b<=15000) (hN:(iy xs ys).length=N) (hN1:1<=N) (hN8:N<=8192):
  Calls Tryz.prog 55 #[bB gm,.slice A2 u.n c2,ak m,ak N] w0 fun e w'=>∃A es,e=.returned (.tuple #[.slice A N N,ak u.n5,aq 0])/\(vh A N N es).P w'/\es.map zz=iy xs ys/\(∀a,A=some a->w0.heap.size<=a.block)/\Below w0.heap.size w0 w':=by
 have iQ:=bH.xm.1
 have jb:=bH.xm.2.1
 have vg:=bH.num
 have Om:=bH.cL.ln
 have T7:=bH.cR.ln
 have ZL:=bH.cB.ln
 have YK:=bH.cL.i1
 have hg2:=bH.cR.i1
 have hg3:=bH.cB.i1
 have hq4:=bH.ud.some_
 have hq5:=bH.len
 refine dp Tryz.func55 rfl Tryz.ntmps55 rfl fun σ=>?_
 replace σ:=σ.Hi hT
 replace σ:=σ.aE hm.m6
 replace σ:=σ.aE hm.m5
 replace σ:=σ.aE hm.m4
 replace σ:=σ.aE hm.m3
 replace σ:=σ.aE hm.m1
 replace σ:=σ.aE hm.m0
 replace σ:=σ.aE hm.mP
 replace σ:=σ.iq _ hM
 have kS:=h2.2.1
 replace σ:=σ.aE h2
 obtain ⟨RB,UX,aox⟩:=bH.back wM.1 xs ys
 refine cE rfl (fun η=>dH η aO rfl (kg σ.bC) rfl rfl)<|eE rfl<|cS Tryz.call99 (JU (nn:=2*m-1) (b:=2*b+75) (G:=Uy u m xs ys) (σ.pat (k:=7) rfl) (σ.pat (k:=8) rfl) σ.aU bH.cB mC (X6 bH wM.1) ⟨by omega,by omega⟩ (σ.pat (k:=9) rfl) (ad0 bH ae Fh ou:nG (2*b+75+64*0) _) ae UX) rfl ?_
 rintro _ _ ⟨Zm,Zn,avy,rfl,D6,aoy,TL⟩
 refine ⟨_,rfl,?_⟩
 have OG:=σ.below.size
 replace σ:=σ.oT D6 aoy trivial
 rw [aox] at TL
 refine ir rfl<|kB (b':=false) rfl<|iF rfl rfl<|?_
 have aoz:=σ.below.size
 refine eE rfl<|cS Tryz.call100 (TH (k:=m) (m:=N) (rG σ.dm (by have:=aM List.length TL; rw [aZ,Ek] at this; exact this.trans bH.nE.symm) σ.aU) TL (fun v hv=>by have:=xk σ.aU X7 TL v hv; omega) (fun v hv x hx=>JJ (ad1 ae iQ.2 Fh ou _ (TL ▸ qO hv) _ (qO hx)) ae) ae wM.1 ae hN8 ae (by have:=(bH.join wM.1 hx hy hN).1; omega)) rfl ?_
 rintro _ _ ⟨Aj,ej,rfl,hPj,hzj,hnj,hb⟩
 refine ⟨_,rfl,?_⟩
 replace σ:=σ.call hb
 exact o3 Tryz.results55 rfl<|⟨Aj,ej,rfl,hPj,hzj.trans (bH.join wM.1 hx hy hN).2,fun a ha=>bq aoz (hnj a ha),σ.below⟩
theorem St.JX {w0 w:World} {own ps:List PF} {v:LE} {B:Nat} (h:St w0 w own ps) (hP:(FL v).P w) (hB:∀a,v.1=some a->B<=a.block) (cD:∀o∈own,∀b,o.di b->b<B∨¬(FL v).di b) (hn:qB own):St w0 w own (FL v::ps):=
 h.iB _ hP fun o ho b h1 hf=>by
  rcases cD o ho b h1 with q | q
  ·rcases hf with ⟨_,off,e⟩ | hf
   ·have:=hB _ e
    exact absurd q (Nat.not_lt.2 this)
   ·exact lh hP.2.2 hn o ho b h1 (h.mine o ho) hf
  ·exact q hf
theorem St.aiH {w0 w w':World} {own ps:List PF} {k:Nat} {o o':PF} {v:LE} (h:St w0 w own ps) (hk:own[k]?=some o) (h':St w0 w' [o'] [bP w o,FL v]) (hA:∀a,v.1=some a->w.heap.size<=a.block) (hn:qB (own.set k o')):St w0 w' (own.set k o') (FL v::ps):=by
 have h1:=h.j4 hk (o':=o') ⟨h'.below,h'.mine,h'.new,h'.nd,fun q hq=>h'.pers q (by rw [cC.1 hq]; exact bS ..),fun q hq=>h'.apart q (by rw [cC.1 hq]; exact bS ..)⟩
 refine h1.JX (h'.pat (k:=1) rfl) hA (fun e he b hb=>?_) hn
 rcases kr he with q | q
 ·exact .inl (e.lt (h.mine e q) hb)
 ·subst q
  exact .inr (h'.apart (FL v) (cO _ (bS ..)) e (bS ..) b hb)
theorem aiI {u:Un} {m i:Nat} {xs ys:List Int} {us vs:List LE} {x y:LE} (hi:i<u.n) (hu:us.map lz=mD u.k1 u.ps m xs) (hv:vs.map lz=mD u.k2 u.ps m ys) (hx:us[i]?=some x) (hy:vs[i]?=some y):(Uy u m xs ys)[i]?=some (iy (lz x) (lz y)):=by
 unfold Uy
 rw [bo,fQ hi]
 have h1:(mD u.k1 u.ps m xs).getD i []=lz x:=by rw [<- hu,aF,bo,hx]; rfl
 have h2:(mD u.k2 u.ps m ys).getD i []=lz y:=by rw [<- hv,aF,bo,hy]; rfl
 rw [qQ,h1,h2]
theorem TM {b:Nat} {xs:List Int} (h:ue b xs) (hb:b<=32000):Zk 1000 xs:=fun x hx=>JJ (sj.1 h x hx) hb
theorem X8 {n0 n1 k1 k2 m:Nat} (hm:m=gI n0 n1 k1 k2) (h1:1<=k1) (h2:1<=k2) (hn:1<=n0):1<=m/\n0<=k1*m/\n1<=k2*m:=by
 subst hm
 unfold gI
 have a1:=VX h1 hn
 exact ⟨by omega,bq (QR h1) (gl _ ae),bq (QR h2) (gl _ ae)⟩
def aiJ (u:Un) (gm:Nat) (t:Int) (F:Nat):Prop:=∀{w0 w1:World} {gt L C Pd S:Nat} {A0 A1:Option Addr} {n0 c0 n1 c1 b:Nat} {es0 es1:List NE} {xs ys:List Int},St w0 w1 [bk gt #[ak L,ak C,ak Pd,ak S] 39] [bP w1 (bk gt #[ak L,ak C,ak Pd,ak S] 39),vh A0 n0 c0 es0,vh A1 n1 c1 es1,bk gm (CQ u) 82,u3 u.Ap u.n u.cp u.ps,jM u.A0 u.n0 u.c0 u.e0,bE u.A1 u.n u.c1 u.e1,jM u.A3 u.n3 u.c3 u.e3,bE u.A4 u.n u.c4 u.e4,jM u.A5 u.n5 u.c5 u.e5,bE u.A6 u.n u.c6 u.e6,rI]->(es0.map zz=xs)->(es1.map zz=ys)->(n0<=F)->(n1<=F)->(F<=300)->(ue b xs)->(ue b ys)->(b+31*F<=15000)->(L+(gq u.k1 u.k2 u.n (u.n0+u.n3+u.n5) t n0 n1).1<=2 ^ 60)->(C+(gq u.k1 u.k2 u.n (u.n0+u.n3+u.n5) t n0 n1).2.1<=2 ^ 60)->(Pd+(gq u.k1 u.k2 u.n (u.n0+u.n3+u.n5) t n0 n1).2.2.1<=2 ^ 60)->(S+(gq u.k1 u.k2 u.n (u.n0+u.n3+u.n5) t n0 n1).2.2.2<=2 ^ 60)->
  Calls Tryz.prog 34 #[bB gm,.slice A0 n0 c0,.slice A1 n1 c1,aq t,bB gt] w1 fun e w'=>∃A N c es,e=.returned (.tuple #[.slice A N c,aq 0])/\(iy xs ys).length=N/\St w0 w' [bk gt #[ak (L+(gq u.k1 u.k2 u.n (u.n0+u.n3+u.n5) t n0 n1).1),ak (C+(gq u.k1 u.k2 u.n (u.n0+u.n3+u.n5) t n0 n1).2.1),ak (Pd+(gq u.k1 u.k2 u.n (u.n0+u.n3+u.n5) t n0 n1).2.2.1),ak (S+(gq u.k1 u.k2 u.n (u.n0+u.n3+u.n5) t n0 n1).2.2.2)] 39] [bP w1 (bk gt #[ak L,ak C,ak Pd,ak S] 39),vh A N c es]/\es.map zz=iy xs ys/\(∀a,A=some a->w1.heap.size<=a.block)
theorem X9 {u:Un} {gm:Nat} {t:Int} {F:Nat} (bH:u.Ok) (ih:∀F',F'<F->aiJ u gm t F') {w0 w1:World} {gt L C Pd S:Nat} {A0 A1:Option Addr} {n0 c0 n1 c1 b:Nat} {es0 es1:List NE} {xs ys:List Int}
  (hS:St w0 w1 [bk gt #[ak L,ak C,ak Pd,ak S] 39] [bP w1 (bk gt #[ak L,ak C,ak Pd,ak S] 39),vh A0 n0 c0 es0,vh A1 n1 c1 es1,bk gm (CQ u) 82,u3 u.Ap u.n u.cp u.ps,jM u.A0 u.n0 u.c0 u.e0,bE u.A1 u.n u.c1 u.e1,jM u.A3 u.n3 u.c3 u.e3,bE u.A4 u.n u.c4 u.e4,jM u.A5 u.n5 u.c5 u.e5,bE u.A6 u.n u.c6 u.e6,rI]) (jF:es0.map zz=xs) (ld:es1.map zz=ys) (hF0:n0<=F) (hF1:n1<=F) (hF:F<=300) (Fh:ue b xs) (ou:ue b ys) (hbF:b+31*F<=15000) (hT0:L+(gq u.k1 u.k2 u.n (u.n0+u.n3+u.n5) t n0 n1).1<=2 ^ 60) (vR:C+(gq u.k1 u.k2 u.n (u.n0+u.n3+u.n5) t n0 n1).2.1<=2 ^ 60) (BB:Pd+(gq u.k1 u.k2 u.n (u.n0+u.n3+u.n5) t n0 n1).2.2.1<=2 ^ 60) (NT:S+(gq u.k1 u.k2 u.n (u.n0+u.n3+u.n5) t n0 n1).2.2.2<=2 ^ 60):
  Calls Tryz.prog 34 #[bB gm,.slice A0 n0 c0,.slice A1 n1 c1,aq t,bB gt] w1 fun e w'=>∃A N c es,e=.returned (.tuple #[.slice A N c,aq 0])/\(iy xs ys).length=N/\St w0 w' [bk gt #[ak (L+(gq u.k1 u.k2 u.n (u.n0+u.n3+u.n5) t n0 n1).1),ak (C+(gq u.k1 u.k2 u.n (u.n0+u.n3+u.n5) t n0 n1).2.1),ak (Pd+(gq u.k1 u.k2 u.n (u.n0+u.n3+u.n5) t n0 n1).2.2.1),ak (S+(gq u.k1 u.k2 u.n (u.n0+u.n3+u.n5) t n0 n1).2.2.2)] 39] [bP w1 (bk gt #[ak L,ak C,ak Pd,ak S] 39),vh A N c es]/\es.map zz=iy xs ys/\(∀a,A=some a->w1.heap.size<=a.block):=by
 have iQ:=bH.xm.1
 have jb:=bH.xm.2.1
 have vg:=bH.num
 have Om:=bH.cL.ln
 have T7:=bH.cR.ln
 have ZL:=bH.cB.ln
 have YK:=bH.cL.i1
 have hg2:=bH.cR.i1
 have hg3:=bH.cB.i1
 have hq4:=bH.ud.some_
 have hq5:=bH.len
 refine dp Tryz.func34 rfl Tryz.ntmps34 rfl fun σ=>?_
 replace σ:=hS
 obtain ⟨m,hm⟩:∃m,m=gI n0 n1 u.k1 u.k2:=⟨_,rfl⟩
 have a8:=σ.bC.2.1
 have cY:=σ.cF.2.1
 have UJ:xs.length=n0:=by rw [<- jF,aZ]; exact a8
 have UK:ys.length=n1:=by rw [<- ld,aZ]; exact cY
 have aoC:∀w,(bk gm (CQ u) 82).P w->Calls Tryz.prog 52 #[bB gm,ak n0,ak n1,aq t] w fun e w'=>e=.returned (.tuple #[ak m,.bool (decide (EP n0 n1 u.k1 u.k2 t))])/\Below w.heap.size w w':=fun w hP=>by rw [hm]; exact CM bH hP ae ae
 refine eE rfl<|dx Tryz.call52 (aoC _ σ.eY) σ rfl fun _ σ=>dN rfl (fun iz=>?_) fun iz=>?_
 ·have hE:¬EP n0 n1 u.k1 u.k2 t:=by simpa using iz
  have FQ:=AQ (n:=u.n) (st:=u.n0+u.n3+u.n5) hE
  have e0:(gq u.k1 u.k2 u.n (u.n0+u.n3+u.n5) t n0 n1).1=0:=aM (fun x:Tl=>x.1) FQ
  have e1:(gq u.k1 u.k2 u.n (u.n0+u.n3+u.n5) t n0 n1).2.1=0:=aM (fun x:Tl=>x.2.1) FQ
  have e2:(gq u.k1 u.k2 u.n (u.n0+u.n3+u.n5) t n0 n1).2.2.1=n0*n1:=aM (fun x:Tl=>x.2.2.1) FQ
  have e3:(gq u.k1 u.k2 u.n (u.n0+u.n3+u.n5) t n0 n1).2.2.2=0:=aM (fun x:Tl=>x.2.2.2) FQ
  rw [e0] at hT0
  rw [e1] at vR
  rw [e2] at BB
  rw [e3] at NT
  refine eE rfl<|cS Tryz.call53 (ad2 σ.bC jF σ.cF ld (TM Fh ae) (TM ou ae) ae ae) rfl ?_
  rintro _ _ ⟨_,rfl,⟨Az,cz,ez,rfl,hrz,aoE,hzz⟩,hb⟩
  refine ⟨_,rfl,?_⟩
  have OG:=σ.aU.1
  replace σ:=σ.iW hb hrz aoE (lh hrz.2.1 ⟨aN rfl,trivial⟩)
  refine lE 0 σ rfl<|can rfl ae<|eE rfl<|j0 0 σ rfl fun _ σ=>o2 Tryz.results34 rfl<|?_
  have f0:L+(gq u.k1 u.k2 u.n (u.n0+u.n3+u.n5) t n0 n1).1=L:=by have:=e0; omega
  have f1:C+(gq u.k1 u.k2 u.n (u.n0+u.n3+u.n5) t n0 n1).2.1=C:=by have:=e1; omega
  have f2:Pd+(gq u.k1 u.k2 u.n (u.n0+u.n3+u.n5) t n0 n1).2.2.1=Pd+(n0*n1):=by have:=e2; omega
  have f3:S+(gq u.k1 u.k2 u.n (u.n0+u.n3+u.n5) t n0 n1).2.2.2=S:=by have:=e3; omega
  exact ⟨Az,(iy xs ys).length,cz,ez,rfl,rfl,(by rw [f0,f1,f2,f3]; exact σ.pick [0] [1,0] ai),hzz,fun a ha=>bq OG (hrz.2.2 a ha)⟩
 ·have hE:EP n0 n1 u.k1 u.k2 t:=by simpa using iz
  have FQ:=CG (n:=u.n) (st:=u.n0+u.n3+u.n5) hE
  rw [<- hm] at FQ
  have hE1:=hE.1
  have hE2:=hE.2
  rw [<- hm] at hE2
  have Ou:=X8 hm iQ.1 jb.1 ae
  have hNm:(iy xs ys).length=n0+n1-1:=by rw [zV ae ae,UJ,UK]
  obtain ⟨TA,hTA⟩:∃T,T=gq u.k1 u.k2 u.n (u.n0+u.n3+u.n5) t m m:=⟨_,rfl⟩
  rw [<- hTA] at FQ
  have e0:(gq u.k1 u.k2 u.n (u.n0+u.n3+u.n5) t n0 n1).1=1+u.n*TA.1:=aM (fun x:Tl=>x.1) FQ
  have e1:(gq u.k1 u.k2 u.n (u.n0+u.n3+u.n5) t n0 n1).2.1=u.n+u.n*TA.2.1:=aM (fun x:Tl=>x.2.1) FQ
  have e2:(gq u.k1 u.k2 u.n (u.n0+u.n3+u.n5) t n0 n1).2.2.1=u.n*TA.2.2.1:=aM (fun x:Tl=>x.2.2.1) FQ
  have e3:(gq u.k1 u.k2 u.n (u.n0+u.n3+u.n5) t n0 n1).2.2.2=u.n0+u.n3+u.n5+u.n*TA.2.2.2:=aM (fun x:Tl=>x.2.2.2) FQ
  rw [e0] at hT0
  rw [e1] at vR
  rw [e2] at BB
  rw [e3] at NT
  refine eE rfl<|cS Tryz.call54 (TI (b:=b) (m:=m) bH σ.eY ⟨σ.jW,σ.nF,σ.uD,σ.pat (k:=7) rfl,σ.pat (k:=8) rfl,σ.pat (k:=9) rfl,σ.pat (k:=10) rfl⟩ (σ.pat (k:=11) rfl) σ.bC σ.cF jF ld ae ae ⟨Ou.1,by omega⟩ Ou.2.1 Ou.2.2 Fh ou ae) rfl ?_
  rintro _ _ ⟨At,ct,us,vs,rfl,hSt,hNu,hNv,EO,JK⟩
  refine ⟨_,rfl,?_⟩
  replace σ:=σ.adZ hSt hNu hNv ⟨aN rfl,trivial⟩
  have avC:us.length=u.n:=by have:=aM List.length EO; rw [aZ,yx] at this; omega
  have avD:vs.length=u.n:=by have:=aM List.length JK; rw [aZ,yx] at this; omega
  refine ir rfl<|kB (b':=false) rfl<|iF rfl rfl<|lE 1 σ rfl<|can (j:=1) rfl ae<|eE rfl<|j0 1 σ rfl fun _ σ=>lE 1 σ rfl<|can rfl ae<|eE rfl<|j0 1 σ rfl fun _ σ=>?_
  replace σ:=(σ.cl ar 43 1).nP FL
  refine fX (fun mz l w=>∃i:Nat,∃A4:Option Addr,∃c4:Nat,∃pv:List LE,∃Lq:Nat,∃Cq:Nat,∃Pq:Nat,∃Sq:Nat,u.n - i=mz/\l=[(81,ak i),(19,.slice A4 i c4),(0,bB gm),(1,.slice A0 n0 c0),(2,.slice A1 n1 c1),(3,aq t),(4,bB gt),(12,ak m),(79,.slice At u.n ct),(80,ak u.n)]/\St w0 w [bk gt #[ak Lq,ak Cq,ak Pq,ak Sq] 39,aaP A4 i c4 pv,av ar 133 2 At u.n ct (fl fTk (us.zip vs))] [bL FL pv,bL FL us,bL FL vs,bP w1 (bk gt #[ak L,ak C,ak Pd,ak S] 39),vh A0 n0 c0 es0,vh A1 n1 c1 es1,bk gm (CQ u) 82,u3 u.Ap u.n u.cp u.ps,jM u.A0 u.n0 u.c0 u.e0,bE u.A1 u.n u.c1 u.e1,jM u.A3 u.n3 u.c3 u.e3,bE u.A4 u.n u.c4 u.e4,jM u.A5 u.n5 u.c5 u.e5,bE u.A6 u.n u.c6 u.e6,rI]/\i<=u.n/\pv.map lz=(Uy u m xs ys).take i/\Lq=L+1+i*TA.1/\Cq=C+i+i*TA.2.1/\Pq=Pd+i*TA.2.2.1/\Sq=S+(u.n0+u.n3)+i*TA.2.2.2) ⟨0,none,0,[],L+1,C,Pd,S+(u.n0+u.n3),rfl,rfl,σ.pick [2,0,1] [0,1,2,3,4,5,6,7,8,9,10,11,12,13,14] ai,(bm _),rfl,ae,ae,ae,ae⟩ ay ?_
  rintro _ _ _ ⟨i,A4,c4,pv,Lq,Cq,Pq,Sq,rfl,rfl,σ,hi,hpv,hLq,hCq,hPq,ZK⟩
  refine ei rfl<|wD (fun jG=>?_) fun jG=>?_
  ·have cD:i<u.n:=ae
   obtain ⟨⟨Ax,nx,cx,ex⟩,wY⟩:∃e,us[i]?=some e:=⟨_,aw ae⟩
   replace σ:=σ.qo (k:=1) rfl wY
   obtain ⟨⟨Ay,ny,cy,ey⟩,Is⟩:∃e,vs[i]?=some e:=⟨_,aw ae⟩
   replace σ:=σ.qo (k:=3) rfl Is
   replace σ:St w0 _ [bk gt #[ak Lq,ak Cq,ak Pq,ak Sq] 39,aaP A4 i c4 pv,av ar 133 2 At u.n ct (fl fTk (us.zip vs))] [vh Ay ny cy ey,vh Ax nx cx ex,bL FL pv,bL FL us,bL FL vs,bP w1 (bk gt #[ak L,ak C,ak Pd,ak S] 39),vh A0 n0 c0 es0,vh A1 n1 c1 es1,bk gm (CQ u) 82,u3 u.Ap u.n u.cp u.ps,jM u.A0 u.n0 u.c0 u.e0,bE u.A1 u.n u.c1 u.e1,jM u.A3 u.n3 u.c3 u.e3,bE u.A4 u.n u.c4 u.e4,jM u.A5 u.n5 u.c5 u.e5,bE u.A6 u.n u.c6 u.e6,rI]:=σ
   have hnx:m=nx:=(xk σ.eY Hl EO _ (aB wY)).symm
   have hny:m=ny:=(xk σ.jW Hl JK _ (aB Is)).symm
   have Ys:(us.zip vs)[i]?=some ((Ax,nx,cx,ex),(Ay,ny,cy,ey)):=(List.getElem?_zip_eq_some (z:=((Ax,nx,cx,ex),(Ay,ny,cy,ey)))).2 ⟨wY,Is⟩
   have g0:(i+1)*TA.1<=u.n*TA.1:=eh _ ae
   rw [iM] at g0
   have g1:(i+1)*TA.2.1<=u.n*TA.2.1:=eh _ ae
   rw [iM] at g1
   have g2:(i+1)*TA.2.2.1<=u.n*TA.2.2.1:=eh _ ae
   rw [iM] at g2
   have g3:(i+1)*TA.2.2.2<=u.n*TA.2.2.2:=eh _ ae
   rw [iM] at g3
   have hTN:gq u.k1 u.k2 u.n (u.n0+u.n3+u.n5) t nx ny=TA:=by rw [<- hnx,<- hny]; exact hTA.symm
   refine iT rfl rfl<|vE rfl (fun η=>az (i:=i) η Tryz.underlying128 (ke.size) rfl rfl ae rfl (ax σ.lY))<|cE rfl (fun η=>bF (i:=i) (e:=((Ax,nx,cx,ex),(Ay,ny,cy,ey))) η ke rfl rfl XX (ax σ.lY) ae Ys rfl)<|eE rfl<|eL lL σ rfl fun _ fo σ=>eE rfl<|cX 0 σ rfl fun _ σ=>lE 1 σ rfl<|can (j:=1) rfl ae<|eE rfl<|j0 1 σ rfl fun _ σ=>lE 0 σ rfl<|lE 0 σ rfl<|eE rfl<|cS Tryz.call34 (ih m ae (b:=b+31) (σ.bO (k:=1) rfl [1,0,8,9,10,11,12,13,14,15,16]) rfl rfl ae ae ae (Ms bH iQ.2 Fh _ (EO ▸ qO (aB wY))) (Ms bH jb.2 ou _ (JK ▸ qO (aB Is))) ae (by rw [hTN]; omega) (by rw [hTN]; omega) (by rw [hTN]; omega) (by rw [hTN]; omega)) rfl ?_
   rintro _ _ ⟨Ap,Np,cp,ep,rfl,hNp,hSp,hzp,ZN⟩
   refine ⟨_,rfl,?_⟩
   rw [hTN] at hSp
   replace σ:=σ.aiH (v:=(Ap,Np,cp,ep)) (k:=1) rfl hSp ZN ⟨aN rfl,aN rfl,aL,aL,trivial⟩
   refine ir rfl<|kB (b':=false) rfl<|iF rfl rfl<|eE rfl<|lr (z:=1) #[.slice Ap Np cp] σ (aH.size) dV rfl aK fun _ eZ σ=>eE rfl<|pT (new:=[(Ap,Np,cp,ep)]) 3 0 σ dI rfl (by unfold maxLen; omega) ae fun _ oo c56 σ=>?_
   replace σ:=σ.l7 (e:=(Ap,Np,cp,ep)) (i:=3) (j:=0) rfl rfl
   exact can (j:=1) rfl ae<|dF ⟨i+1,(bh oo),c56,(pv++[(Ap,Np,cp,ep)]),Lq+TA.1,Cq+1+TA.2.1,Pq+TA.2.2.1,Sq+TA.2.2.2,rfl,rfl,σ.pick [2,3,4] [0,5,6,7,8,9,10,11,12,13,14,15,16,17,18] ai,ae,(sq hpv (aiI cD EO JK wY Is) hzp),(by rw [iM]; omega),(by rw [iM]; omega),(by rw [iM]; omega),(by rw [iM]; omega)⟩ ay ae
  ·obtain rfl:i=u.n:=ae
   rw [bD (by rw [Mr]; exact aY _)] at hpv
   refine iF rfl rfl<|can rfl ae<|xD (j:=1) rfl ae<|eE rfl<|cS Tryz.call55 (TK (b:=b) (m:=m) (N:=n0+n1-1) (xs:=xs) (ys:=ys) bH σ.uD ⟨σ.pat (k:=7) rfl,σ.pat (k:=8) rfl,σ.pat (k:=9) rfl,σ.pat (k:=10) rfl,σ.pat (k:=11) rfl,σ.pat (k:=12) rfl,σ.pat (k:=13) rfl⟩ (σ.pat (k:=14) rfl) (rG σ.fK (by have:=aM List.length hpv; rw [aZ,Mr] at this; exact this) σ.aU) hpv ⟨Ou.1,by omega⟩ (by rw [UJ]; exact Ou.2.1) (by rw [UK]; exact Ou.2.2) Fh ou ae hNm ae ae) rfl ?_
   rintro _ _ ⟨Aj,ej,rfl,hPj,hzj,hnj,hb⟩
   refine ⟨_,rfl,?_⟩
   have OG:=σ.eY.1
   replace σ:=σ.ZH (v:=(Aj,n0+n1-1,n0+n1-1,ej)) (k:=0) hb rfl (.inr hnj) hPj ⟨aN rfl,aL,aL,trivial⟩
   refine lE 0 σ rfl<|can rfl ae<|eE rfl<|j0 0 σ rfl fun _ σ=>o2 Tryz.results34 rfl<|?_
   have f0:L+(gq u.k1 u.k2 u.n (u.n0+u.n3+u.n5) t n0 n1).1=Lq:=by have:=e0; omega
   have f1:C+(gq u.k1 u.k2 u.n (u.n0+u.n3+u.n5) t n0 n1).2.1=Cq:=by have:=e1; omega
   have f2:Pd+(gq u.k1 u.k2 u.n (u.n0+u.n3+u.n5) t n0 n1).2.2.1=Pq:=by have:=e2; omega
   have f3:S+(gq u.k1 u.k2 u.n (u.n0+u.n3+u.n5) t n0 n1).2.2.2=Sq+u.n5:=by have:=e3; omega
   exact ⟨Aj,(n0+n1 - 1),(n0+n1 - 1),ej,rfl,hNm,(by rw [f0,f1,f2,f3]; exact σ.pick [0] [4,0] ai),hzj,fun a ha=>bq OG (hnj a ha)⟩
theorem ad5 {u:Un} {gm:Nat} {t:Int} (bH:u.Ok) (F:Nat):aiJ u gm t F:=by
 induction F using Nat.strongRecOn with
 | _ F ih=>
  intro w0 w1 gt L C Pd S A0 A1 n0 c0 n1 c1 b es0 es1 xs ys hS jF ld hF0 hF1 hF Fh ou hbF hT0 vR BB NT
  exact X9 bH ih hS jF ld hF0 hF1 hF Fh ou hbF hT0 vR BB NT
theorem TN {w0:World} {u:Un} {gm:Nat} (bH:u.Ok) (hM:(bk gm (CQ u) 82).P w0) (hm:u.Mem w0) {A0 A1:Option Addr} {n0 c0 n1 c1 b:Nat} {t:Int} {es0 es1:List NE} {xs ys:List Int} (hT:ve w0) (h0:(vh A0 n0 c0 es0).P w0) (h1:(vh A1 n1 c1 es1).P w0) (jF:es0.map zz=xs) (ld:es1.map zz=ys) (vk:n0<=64) (DM:n1<=64) (Fh:ue b xs) (ou:ue b ys) (T5:b<=10000):
  Calls Tryz.prog 13 #[bB gm,.slice A0 n0 c0,.slice A1 n1 c1,aq t] w0 fun e w'=>∃A N c es,e=.returned (.tuple #[.slice A N c,.agg #[ak ((gq u.k1 u.k2 u.n (u.n0+u.n3+u.n5) t n0 n1).1),ak ((gq u.k1 u.k2 u.n (u.n0+u.n3+u.n5) t n0 n1).2.1),ak ((gq u.k1 u.k2 u.n (u.n0+u.n3+u.n5) t n0 n1).2.2.1),ak ((gq u.k1 u.k2 u.n (u.n0+u.n3+u.n5) t n0 n1).2.2.2)],aq 0])/\(iy xs ys).length=N/\(vh A N c es).P w'/\es.map zz=iy xs ys/\(∀a,A=some a->w0.heap.size<=a.block)/\Below w0.heap.size w0 w':=by
 have iQ:=bH.xm.1
 have jb:=bH.xm.2.1
 have vg:=bH.num
 have Om:=bH.cL.ln
 have T7:=bH.cR.ln
 have ZL:=bH.cB.ln
 have YK:=bH.cL.i1
 have hg2:=bH.cR.i1
 have hg3:=bH.cB.i1
 have hq4:=bH.ud.some_
 have hq5:=bH.len
 refine dp Tryz.func13 rfl Tryz.ntmps13 rfl fun σ=>?_
 replace σ:=σ.Hi hT
 replace σ:=σ.aE hm.m6
 replace σ:=σ.aE hm.m5
 replace σ:=σ.aE hm.m4
 replace σ:=σ.aE hm.m3
 replace σ:=σ.aE hm.m1
 replace σ:=σ.aE hm.m0
 replace σ:=σ.aE hm.mP
 replace σ:=σ.iq _ hM
 replace σ:=σ.aE h1
 replace σ:=σ.aE h0
 obtain ⟨hs0,hs1,ME,hs3⟩:=Ho (t:=t) iQ.1 jb.1 (show u.n<=15 by omega) (show u.n0+u.n3+u.n5<=65536 by omega) vk DM
 refine eE rfl<|eL dB σ rfl fun _ bJ σ=>vE rfl (fun η=>p9 η Tryz.underlying35 rfl)<|iF rfl rfl<|pd rfl<|kB (b':=false) (bR ae)<|pd rfl<|kB (b':=false) (bR ae)<|iF rfl rfl<|eE rfl<|eL dB σ rfl fun _ cJ σ=>eE rfl<|cS Tryz.call34 (ad5 bH 64 (b:=b) (L:=0) (C:=0) (Pd:=0) (S:=0) (σ.bO (k:=0) rfl [0,1,2,3,4,5,6,7,8,9,10]) jF ld vk DM ae Fh ou ae ae ae ae ae) rfl ?_
 rintro _ _ ⟨Ap,Np,cp,ep,rfl,hNp,hSp,hzp,ZN⟩
 refine ⟨_,rfl,?_⟩
 have OG:=σ.below.size
 replace σ:=σ.aiH (v:=(Ap,Np,cp,ep)) (k:=0) rfl hSp ZN ⟨aN rfl,aN rfl,trivial⟩
 refine ir rfl<|kB (b':=false) rfl<|iF rfl rfl<|gY [3] [0,5,8,14,16] aK σ fun _ σ=>gS 0 rfl<|eS rfl<|cX 1 σ rfl fun _ σ=>sz rfl<|oR (fun e=>aff Tryz.results13 (RV.tmp e rfl) (RV.cell e m7 rfl σ.vQ rfl) (RV.tmp e rfl))<|?_
 have z0:0+(gq u.k1 u.k2 u.n (u.n0+u.n3+u.n5) t n0 n1).1=(gq u.k1 u.k2 u.n (u.n0+u.n3+u.n5) t n0 n1).1:=fz _
 have z1:0+(gq u.k1 u.k2 u.n (u.n0+u.n3+u.n5) t n0 n1).2.1=(gq u.k1 u.k2 u.n (u.n0+u.n3+u.n5) t n0 n1).2.1:=fz _
 have z2:0+(gq u.k1 u.k2 u.n (u.n0+u.n3+u.n5) t n0 n1).2.2.1=(gq u.k1 u.k2 u.n (u.n0+u.n3+u.n5) t n0 n1).2.2.1:=fz _
 have z3:0+(gq u.k1 u.k2 u.n (u.n0+u.n3+u.n5) t n0 n1).2.2.2=(gq u.k1 u.k2 u.n (u.n0+u.n3+u.n5) t n0 n1).2.2.2:=fz _
 exact ⟨Ap,Np,cp,ep,by rw [z0,z1,z2,z3],hNp,σ.aU,hzp,fun a ha=>bq OG (ZN a ha),σ.below⟩
def lvP (g4 g5 g6 g7 gm:Nat) (u:Un) (n1 n2:Nat) (t:Int) (w:World):Prop:=(bk gm (CQ u) 82).P w/\(bk g4 #[bB gm] 35).P w/\(bk g5 #[ak n1] 3).P w/\(bk g6 #[ak n2] 3).P w/\(bk g7 #[aq t] 3).P w
def VLv (u:Un) (n1 n2:Nat) (t:Int) (pre:List (Nat×Nat)) (x:Nat×Nat):Prop:=x=(gI (vt u.k1 u.k2 n1 n2 pre.length).1 (vt u.k1 u.k2 n1 n2 pre.length).2 u.k1 u.k2,u.n ^ pre.length)/\∀j,j<=pre.length->N7 u.k1 u.k2 n1 n2 t j
def SLv (u:Un) (n1 n2:Nat) (t:Int) (xs:List (Nat×Nat)):Prop:=¬N7 u.k1 u.k2 n1 n2 t xs.length/\∀j,j<xs.length->N7 u.k1 u.k2 n1 n2 t j
section
variable {g4 g5 g6 g7 gm n1 n2:Nat} {u:Un} {t:Int} {w w':World}
end
section
variable {P:Program} {fn:Func} {R:Ending->World->Prop} {T:Gi P} {mix:P.follows .mixedOrders=true} {N:Nat} {w:World} {l:List (Nat×Value)} {v:Value}
end
def Mu (x:Int):Int:=x.tmod 1000
theorem Yi {os:List NE} {es:List Int} {i c:Nat} {x:Int} {A:Option Addr} (h:os.map zz=es.take i) (he:es[i]?=some x):(os++[((A,c,x):NE)]).map zz=es.take (i+1):=by rw [take_one he,je,h]; rfl
def EA (es:List Int):Nat->List Pt
 | 0=>[]
 | j+1=>EA es j++[(es.getD (2*j) 0,es.getD (2*j+1) 0)]
theorem Yk {es:List Int} {os:List Pt} {j:Nat} {x y:Int} (h:os=EA es j) (hx:es[2*j]?=some x) (hy:es[2*j+1]?=some y):os++[((x,y):Pt)]=EA es (j+1):=by
 rw [EA,h,aF,hx,aF,hy]; rfl
theorem yy {w0:World} {A0:Option Addr} {n0 c0:Nat} {es0:List Int} (h0:(bE A0 n0 c0 es0).P w0) (hI:∀x∈es0,-9223372036854775808<=x/\x<=9223372036854775807) (vk:n0<=100):
  Calls Tryz.prog 14 #[.slice A0 n0 c0] w0 fun e w'=>∃A c os,e=.returned (.slice A n0 c)/\St w0 w' [abi A n0 c os] [bL FN os]/\os.map zz=es0:=by
 refine dp Tryz.func14 rfl Tryz.ntmps14 rfl fun σ=>?_
 have a8:=h0.2.1
 replace σ:=σ.aE h0
 replace σ:=(σ.cl ar 52 2).nP FN
 refine fX (fun mz l w=>∃i:Nat,∃A4:Option Addr,∃c4:Nat,∃os:List NE,n0 - i=mz/\l=[(8,ak i),(3,.slice A4 i c4),(6,.slice A0 n0 c0),(7,ak n0)]/\St w0 w [abi A4 i c4 os] [bL FN os,bE A0 n0 c0 es0]/\i<=n0/\os.map zz=es0.take i) ⟨0,none,0,[],rfl,rfl,σ,(bm _),rfl⟩ ay ?_
 rintro _ _ _ ⟨i,A4,c4,os,rfl,rfl,σ,hi,Bi⟩
 refine ei rfl<|wD (fun iz=>?_) fun iz=>?_
 ·have cD:i<n0:=ae
  obtain ⟨x,b5⟩:∃e,es0[i]?=some e:=⟨_,aw ae⟩
  have hx:=hI _ (aB b5)
  refine iT rfl rfl<|vE rfl (fun η=>az (i:=i) η Tryz.underlying23 (fh.size) rfl rfl ae rfl σ.bC.1)<|cE rfl (fun η=>aJ (i:=i) (j:=0) (e:=x) η fh rfl rfl bn ai σ.bC.1 ae b5 rfl)<|eE rfl<|cS Tryz.call18 (yU (n:=x) ae ae) rfl ?_
  rintro _ _ ⟨_,rfl,⟨z8,wh,rfl,adt⟩,hb⟩
  refine ⟨_,rfl,?_⟩
  replace σ:=(σ.call hb).eO adt ⟨aL,trivial⟩
  refine eE rfl<|lr (z:=2) #[.bool (neg x),.slice z8 (zl x) wh] σ (ah.size) aG rfl aK fun _ oo σ=>eE rfl<|pT (new:=[(z8,wh,x)]) 1 0 σ bK rfl (by unfold maxLen; omega) ae fun _ yi D4 σ=>?_
  replace σ:=σ.l7 (e:=(z8,wh,x)) (i:=1) (j:=0) rfl rfl
  exact can (j:=1) rfl ae<|dF ⟨i+1,(bh yi),D4,(os++[(z8,wh,x)]),rfl,rfl,σ.pick [1] [0,3] ai,ae,(Yi Bi b5)⟩ ay ae
 ·obtain rfl:n0=i:=ae
  rw [bD (by omega)] at Bi
  exact iF rfl rfl<|o1 Tryz.results14 rfl<|⟨_,_,_,rfl,σ.pick [0] [0] ai,Bi⟩
theorem Mv {w0:World} {A0 A1:Option Addr} {n0 c0 n1 c1:Nat} {es0:List NE} {es1:List Int} (h0:(vh A0 n0 c0 es0).P w0) (h1:(bE A1 n1 c1 es1).P w0) (jF:es0.map zz=es1) (hI:∀x∈es1,-9223372036854775808<=x/\x<=9223372036854775807) (vk:n0<=1000):
  Calls Tryz.prog 15 #[.slice A0 n0 c0,.slice A1 n1 c1] w0 fun e w'=>e=.returned (.bool true)/\Below w0.heap.size w0 w':=by
 refine dp Tryz.func15 rfl Tryz.ntmps15 rfl fun σ=>?_
 have a8:=h0.2.1
 have cY:=h1.2.1
 have avL:n0=n1:=by rw [<- a8,<- cY,<- jF,aZ]
 replace σ:=(σ.aE h1).aE h0
 refine ir rfl<|kB (b':=false) (Bw ae)<|iF rfl rfl<|fX (fun mz l w=>∃i:Nat,n0 - i=mz/\l=[(15,ak i),(0,.slice A0 n0 c0),(1,.slice A1 n1 c1),(14,ak n0)]/\St w0 w [] [vh A0 n0 c0 es0,bE A1 n1 c1 es1]/\i<=n0) ⟨0,rfl,rfl,σ,(bm _)⟩ ay ?_
 rintro _ _ _ ⟨i,rfl,rfl,σ,hi⟩
 refine ei rfl<|wD (fun iz=>?_) fun iz=>?_
 ·have cD:i<n0:=ae
  obtain ⟨⟨C,d,x⟩,b5⟩:∃e,es0[i]?=some e:=⟨_,aw ae⟩
  replace σ:=σ.elem (k:=0) rfl b5
  have iH:es1[i]?=some x:=by rw [<- jF,bo,b5]; rfl
  have hx:=hI _ (aB iH)
  exact iT rfl rfl<|vE rfl (fun η=>az (i:=i) η Tryz.underlying43 (ah.size) rfl rfl ae rfl σ.bC.1)<|cE rfl (fun η=>bF (i:=i) (e:=(C,d,x)) η ah rfl rfl eF σ.bC.1 ae b5 rfl)<|eE rfl<|dx Tryz.call19 (Xi (show dK _ C d x from σ.aU) hx.1 hx.2) σ rfl fun _ σ=>vE rfl (fun η=>az (i:=i) η Tryz.underlying23 (fh.size) rfl rfl ae rfl σ.cF.1)<|cE rfl (fun η=>aJ (i:=i) (j:=0) (e:=x) η fh rfl rfl bn ai σ.cF.1 ae iH rfl)<|ir rfl<|kB (b':=false) (Bw rfl)<|iF rfl rfl<|can (j:=1) rfl ae<|dF ⟨i+1,rfl,rfl,σ.pick [] [1,2] ai,ae⟩ ay ae
 ·exact iF rfl rfl<|o1 Tryz.results15 rfl<|⟨rfl,σ.below⟩
theorem N9 {w0:World} {k:Nat} {A0:Option Addr} {n0 c0:Nat} {es0:List Int} (h0:(bE A0 n0 c0 es0).P w0) (hk:n0=2*k) (hk9:k<=20):
  Calls Tryz.prog 26 #[.slice A0 n0 c0] w0 fun e w'=>∃A c,e=.returned (.slice A k c)/\St w0 w' [aa1 A k c (EA es0 k)] []:=by
 refine dp Tryz.func26 rfl Tryz.ntmps26 rfl fun σ=>?_
 have a8:=h0.2.1
 replace σ:=σ.aE h0
 replace σ:=(σ.cl ar 61 2)
 refine fX (fun mz l w=>∃j:Nat,∃A4:Option Addr,∃c4:Nat,∃os:List Pt,k - j=mz/\l=[(4,ak (2*j)),(3,.slice A4 j c4),(0,.slice A0 n0 c0)]/\St w0 w [aa1 A4 j c4 os] [bE A0 n0 c0 es0]/\j<=k/\os=EA es0 j) ⟨0,none,0,[],rfl,rfl,σ,(bm _),rfl⟩ ay ?_
 rintro _ _ _ ⟨j,A4,c4,os,rfl,rfl,σ,hj,Bi⟩
 refine can (j:=1) rfl ae<|ei rfl<|wD (fun iz=>?_) fun iz=>?_
 ·have cD:j<k:=ae
  obtain ⟨x,xv⟩:∃e,es0[(2*j)]?=some e:=⟨_,aw ae⟩
  obtain ⟨y,YG⟩:∃e,es0[(2*j+1)]?=some e:=⟨_,aw ae⟩
  exact iT rfl rfl<|gY [12] [0,4,8,12,17,20,24,28,32,37,40,46,50,52] aK σ fun _ σ=>vE rfl (fun η=>az (i:=(2*j)) η Tryz.underlying26 (aD.size) rfl rfl ae rfl σ.aU.1)<|sE rfl (fun η hg=>aJ (i:=(2*j)) (j:=0) (e:=x) η aD rfl rfl bn ai (hg.pt (j:=0) rfl).1 ae xv rfl)<|can (j:=1) rfl ae<|vE rfl (fun η=>az (i:=(2*j)+1) η Tryz.underlying26 (aD.size) rfl rfl ae rfl σ.aU.1)<|sE rfl (fun η hg=>aJ (i:=(2*j)+1) (j:=0) (e:=y) η aD rfl rfl bn ai (hg.pt (j:=0) rfl).1 ae YG rfl)<|vE rfl (fun η=>cK (c:=#[aq x,aq y]) eA η rfl rfl)<|eS rfl<|lr (z:=2) #[aq x,aq y] σ (aC.size) bp rfl aK fun _ cJ σ=>sk (σ.kd 1 0)<|eS rfl<|pT (new:=[(x,y)]) 1 0 σ jN rfl (by unfold maxLen; omega) ae fun _ fo nv σ=>sz rfl<|can (j:=2) rfl ae<|dF ⟨j+1,(bh fo),nv,(os++[(x,y)]),rfl,rfl,σ.pick [1] [0] ai,ae,(Yk Bi xv YG)⟩ ay ae
 ·obtain rfl:k=j:=ae
  refine iF rfl rfl<|o1 Tryz.results26 rfl<|?_
  subst Bi
  exact ⟨_,_,rfl,σ.pick [0] [] ai⟩
theorem EB {i g n n1:Nat} {G:List Rw} {es:List IE} {os:List Int} {O:List Rw} {q m:Nat} (hi:G.length=i) (hc:jc (i:Nat) ((g:Nat):Int) q n1 es os) (hq:es.length=q) (h:lp i g n G es os O) (hm:(ig i g es os).length=m):
  jc (i:Nat) ((nt i g es os:Nat):Int) m n1 (ig i g es os) (ns i g es os)/\lp i (nt i g es os) n G (ig i g es os) (ns i g es os) O:=by
 have h1:=hc.i1
 have h2:=hc.ln
 obtain ⟨a,b,_,d,e⟩:=zH hi ae h
 exact ⟨⟨⟨h1.1,by omega,by omega⟩,⟨by omega,h2.2.1,h2.2.2⟩,a.may,a.out⟩,a⟩
def aiV (u1 u2 n0:Nat) (es0:List Pt) (Ap:Option Addr) (cp:Nat) (X1:Option Addr) (x1 y1:Nat) (Z1:Option Addr) (z1:Nat) (X2:Option Addr) (x2 y2:Nat) (Z2:Option Addr) (z2:Nat) (X3:Option Addr) (x3 y3:Nat) (Z3:Option Addr) (z3:Nat):Un:=
 ⟨u1,u2,n0,Ap,cp,es0,nt u1 (u1+n0+1) (iw u1 ((u1+n0:Nat):Int) 0 es0) (jd u1 n0),X1,x1,y1,ig u1 (u1+n0+1) (iw u1 ((u1+n0:Nat):Int) 0 es0) (jd u1 n0),Z1,z1,ns u1 (u1+n0+1) (iw u1 ((u1+n0:Nat):Int) 0 es0) (jd u1 n0),nt u2 (u2+n0+1) (iw u2 ((u2+n0:Nat):Int) 0 es0) (jd u2 n0),X2,x2,y2,ig u2 (u2+n0+1) (iw u2 ((u2+n0:Nat):Int) 0 es0) (jd u2 n0),Z2,z2,ns u2 (u2+n0+1) (iw u2 ((u2+n0:Nat):Int) 0 es0) (jd u2 n0),nt n0 (3*n0+1) (nS es0) (sX n0),X3,x3,y3,ig n0 (3*n0+1) (nS es0) (sX n0),Z3,z3,ns n0 (3*n0+1) (nS es0) (sX n0)⟩
theorem Ym {u1 u2 n0 x1 x2 x3:Nat} {es0:List Pt} (hL:oq (u1:Nat) (u2:Nat) es0) (vg:((n0:Nat):Int)=((u1:Nat):Int)+((u2:Nat):Int) - 1) (vf:iA es0) (a8:es0.length=n0)
  (iQ:(ig u1 (u1+n0+1) (iw u1 ((u1+n0:Nat):Int) 0 es0) (jd u1 n0)).length=x1) (jb:(ig u2 (u2+n0+1) (iw u2 ((u2+n0:Nat):Int) 0 es0) (jd u2 n0)).length=x2) (sH:(ig n0 (3*n0+1) (nS es0) (sX n0)).length=x3) (Ap:Option Addr) (cp:Nat) (X1:Option Addr) (y1:Nat) (Z1:Option Addr) (z1:Nat) (X2:Option Addr) (y2:Nat) (Z2:Option Addr) (z2:Nat) (X3:Option Addr) (y3:Nat) (Z3:Option Addr) (z3:Nat):
  (aiV u1 u2 n0 es0 Ap cp X1 x1 y1 Z1 z1 X2 x2 y2 Z2 z2 X3 x3 y3 Z3 z3).Ok:=by
 have hL1:=hL.1
 have hL2:=hL.2.1
 have JS:=Mk hL vf
 have a1:=EB (kN _) (Ex a8 ae ae JS rfl) rfl (CL a8 ae ae JS).1 iQ
 have a2:=EB (kN _) (Ex a8 ae ae JS rfl) rfl (CL a8 ae ae JS).1 jb
 have a3:=EB (Ey a8) (Tx a8 vf rfl) rfl (Ml a8 vf) sH
 exact ⟨⟨⟨by show 1<=u1; omega,by show u1<=8; omega⟩,⟨by show 1<=u2; omega,by show u2<=8; omega⟩,hL.2.2⟩,by show n0+1=u1+u2; omega,vf,a8,a1.1,a2.1,a3.1,a1.2,a2.2,a3.2,Mj (JQ _ _ _ _),Mj (JQ _ _ _ _)⟩
theorem CS {k n:Nat} {es0:List Pt} (a8:es0.length=n) (h1:1<=k) (h8:k<=8) (hP:zZ es0):(ns k (k+n+1) (iw k ((k+n:Nat):Int) 0 es0) (jd k n)).length=n:=
 (zH (kN _) ae (CL a8 h1 h8 hP).1).2.2.1.trans (AX _ _)
theorem N' {n:Nat} {es0:List Pt} (a8:es0.length=n) (hP:iA es0):(ns n (3*n+1) (nS es0) (sX n)).length=n:=
 (zH (Ey a8) ae (Ml a8 hP)).2.2.1.trans (Mm _)
theorem Hq {w0:World} {k1 k2:Int} {A0:Option Addr} {n0 c0:Nat} {es0:List Pt} (h0:(u3 A0 n0 c0 es0).P w0) (hD:iG w0) (hn:n0<=9223372036854775807):
  Calls Tryz.prog 7 #[aq k1,aq k2,.slice A0 n0 c0] w0 fun e w'=>((e=.returned (.tuple #[.agg #[aq 0,aq 0,bA,aq 0,aq 0,bA,bA,aq 0,aq 0,bA,bA,aq 0,aq 0,bA,bA],aq 70])/\¬oq k1 k2 es0/\Below w0.heap.size w0 w')∨(e=.returned (.tuple #[.agg #[aq 0,aq 0,bA,aq 0,aq 0,bA,bA,aq 0,aq 0,bA,bA,aq 0,aq 0,bA,bA],aq 71])/\oq k1 k2 es0/\(¬((n0:Nat):Int)=k1+k2 - 1∨He es0∨sZ es0)/\Below w0.heap.size w0 w'))∨∃u:Un,oq k1 k2 es0/\u.Ok/\u.ps=es0/\k1=((u.k1:Nat):Int)/\k2=((u.k2:Nat):Int)/\e=.returned (.tuple #[.agg (CQ u),aq 0])/\St w0 w' [aa1 u.Ap u.n u.cp u.ps,aad u.A0 u.n0 u.c0 u.e0,aab u.A1 u.n u.c1 u.e1,aad u.A3 u.n3 u.c3 u.e3,aab u.A4 u.n u.c4 u.e4,aad u.A5 u.n5 u.c5 u.e5,aab u.A6 u.n u.c6 u.e6] []/\u.e0.length=u.n0/\u.e1.length=u.n/\u.e3.length=u.n3/\u.e4.length=u.n/\u.e5.length=u.n5/\u.e6.length=u.n:=by
 have a8:=h0.2.1
 refine (JT h0 hD hn).mono fun e w' h=>?_
 rcases h with h | h | ⟨hL,vg,vf,u1,u2,rfl,rfl,Ap,cp,X1,x1,y1,Z1,z1,X2,x2,y2,Z2,z2,X3,x3,y3,Z3,z3,he,hS,iQ,jb,sH⟩
 ·exact .inl (.inl h)
 ·exact .inl (.inr h)
 ·have hL1:=hL.1
  have hL2:=hL.2.1
  have JS:=Mk hL vf
  exact .inr ⟨aiV u1 u2 n0 es0 Ap cp X1 x1 y1 Z1 z1 X2 x2 y2 Z2 z2 X3 x3 y3 Z3 z3,hL,Ym hL vg vf a8 iQ jb sH ..,rfl,rfl,rfl,he,hS,iQ,CS a8 ae ae JS,jb,CS a8 ae ae JS,sH,N' a8 vf⟩
theorem TR {w0:World} {k1 k2:Int} {A0:Option Addr} {n0 c0:Nat} {es0:List Pt} (h0:(u3 A0 n0 c0 es0).P w0) (hD:iG w0) (hn:n0<=9223372036854775807) (hL:oq k1 k2 es0) (vg:((n0:Nat):Int)=k1+k2 - 1) (vf:iA es0):
  Calls Tryz.prog 7 #[aq k1,aq k2,.slice A0 n0 c0] w0 fun e w'=>∃u:Un,u.Ok/\u.ps=es0/\k1=((u.k1:Nat):Int)/\k2=((u.k2:Nat):Int)/\e=.returned (.tuple #[.agg (CQ u),aq 0])/\St w0 w' [aa1 u.Ap u.n u.cp u.ps,aad u.A0 u.n0 u.c0 u.e0,aab u.A1 u.n u.c1 u.e1,aad u.A3 u.n3 u.c3 u.e3,aab u.A4 u.n u.c4 u.e4,aad u.A5 u.n5 u.c5 u.e5,aab u.A6 u.n u.c6 u.e6] []/\u.ps.length=u.n/\u.e0.length=u.n0/\u.e1.length=u.n/\u.e3.length=u.n3/\u.e4.length=u.n/\u.e5.length=u.n5/\u.e6.length=u.n:=
 (Hq h0 hD hn).mono fun e w' h=>by
  rcases h with (⟨_,q,_⟩ | ⟨_,_,q | ⟨p,hp,q⟩ | q,_⟩) | ⟨u,_,ho,hp,e1,e2,he,hS,l0,l1,l3,l4,l5,l6⟩
  ·exact absurd hL q
  ·exact absurd vg q
  ·exact absurd q (vf.qH p hp).2
  ·exact absurd q (AD vf)
  ·exact ⟨u,ho,hp,e1,e2,he,hS,ho.len,l0,l1,l3,l4,l5,l6⟩
theorem Mw {w0:World} {u:Un} (bH:u.Ok) (hm:u.Mem w0):
  Calls Tryz.prog 10 #[.agg (CQ u)] w0 fun e w'=>∃(gm:Nat) (v:Un),v.Ok/\v.ps=u.ps/\v.k1=u.k1/\v.k2=u.k2/\e=.returned (.tuple #[bB gm,aq 0])/\St w0 w' [bk gm (CQ v) 82,aa1 v.Ap v.n v.cp v.ps,aad v.A0 v.n0 v.c0 v.e0,aab v.A1 v.n v.c1 v.e1,aad v.A3 v.n3 v.c3 v.e3,aab v.A4 v.n v.c4 v.e4,aad v.A5 v.n5 v.c5 v.e5,aab v.A6 v.n v.c6 v.e6] []/\v.ps.length=v.n/\v.e0.length=v.n0/\v.e1.length=v.n/\v.e3.length=v.n3/\v.e4.length=v.n/\v.e5.length=v.n5/\v.e6.length=v.n:=
 (adX bH hm).mono fun e w' ⟨gm,Xp,xp,X1,x1,Z1,z1,X2,x2,Z2,z2,X3,x3,Z3,z3,he,hS⟩=>
  ⟨gm,⟨u.k1,u.k2,u.n,Xp,xp,u.ps,u.gL,X1,u.n0,x1,u.e0,Z1,z1,u.e1,u.gR,X2,u.n3,x2,u.e3,Z2,z2,u.e4,u.gB,X3,u.n5,x3,u.e5,Z3,z3,u.e6⟩,
   ⟨bH.xm,bH.num,bH.ud,bH.len,bH.cL,bH.cR,bH.cB,bH.pL,bH.pR,bH.pB,bH.nL,bH.nR⟩,rfl,rfl,rfl,he,hS,hm.mP.2.1,hm.m0.2.1,hm.m1.2.1,hm.m3.2.1,hm.m4.2.1,hm.m5.2.1,hm.m6.2.1⟩
theorem aiW (st:Nat):(gq 2 2 3 st 1 4 4).1=4/\(gq 2 2 3 st 1 4 4).2.1=12/\(gq 2 2 3 st 1 4 4).2.2.1=9:=by
 have h1:gq 2 2 3 st 1 1 1=(0,0,1,0):=AQ ai
 have h2:=CG (n:=3) (st:=st) (show EP 2 2 2 2 1 by decide)
 rw [show gI 2 2 2 2=1 from rfl,h1] at h2
 have h4:=CG (n:=3) (st:=st) (show EP 4 4 2 2 1 by decide)
 rw [show gI 4 4 2 2=2 from rfl,h2] at h4
 rw [h4]
 exact ⟨rfl,rfl,rfl⟩
theorem TS:oq 2 2 (EA [0,1,1,1,1,0] 3):=⟨by decide,by decide,fun p hp=>by
 rcases dW.1 hp with rfl | hp
 ·unfold mv; decide
 rcases dW.1 hp with rfl | hp
 ·unfold mv; decide
 rcases dW.1 hp with rfl | hp
 ·unfold mv; decide
 cases hp⟩
theorem aeb:iA (EA [0,1,1,1,1,0] 3):=⟨by decide,fun p hp=>⟨TS.2.2 p hp,by
 rcases dW.1 hp with rfl | hp
 ·decide
 rcases dW.1 hp with rfl | hp
 ·decide
 rcases dW.1 hp with rfl | hp
 ·decide
 cases hp⟩,by decide⟩
theorem Yn (xs ys:List Int):(iy xs ys).length<=xs.length+ys.length:=by
 unfold iy
 split
 ·exact bm _
 ·rw [lF]; omega
theorem St.Mx {w0 w w':World} {own ps:List PF} {o:PF} {es:List NE} (h:St w0 w own ps) (hS:St w w' [o] [bL FN es]) (hn:qB (o::own)):St w0 w' (o::own) (bL FN es::ps):=
 (h.more (hS.pick [0] [] cT)).sU (hS.pat (k:=0) rfl) hn
theorem aec {w0:World} {u:Un} {gm:Nat} (bH:u.Ok) (hM:(bk gm (CQ u) 82).P w0) (hm:u.Mem w0) (h1:u.k1=2) (h2:u.k2=2) (h3:u.n=3) (hT:ve w0) {A0 A1:Option Addr} {c0 c1:Nat} {es0 es1:List NE} (ha:(vh A0 4 c0 es0).P w0) (hb:(vh A1 4 c1 es1).P w0) (jF:es0.map zz=[1,2,3,4]) (ld:es1.map zz=[1,1,1,1]):
  Calls Tryz.prog 13 #[bB gm,.slice A0 4 c0,.slice A1 4 c1,aq 1] w0 fun e w'=>∃A c es,∃S:Nat,e=.returned (.tuple #[.slice A 7 c,.agg #[aq 4,aq 12,aq 9,ak S],aq 0])/\(vh A 7 c es).P w'/\es.map zz=[1,3,6,10,9,7,4]/\(∀a,A=some a->w0.heap.size<=a.block)/\Below w0.heap.size w0 w':=
 (TN (b:=10) bH hM hm hT ha hb jF ld ai ai (sj.2 ai) (sj.2 ai) ai).mono fun e w' ⟨A,N,c,es,he,hN,hP,hz,hn,hbl⟩=>by
  have e1:iy [1,2,3,4] [1,1,1,1]=[1,3,6,10,9,7,4]:=by decide
  rw [e1] at hN hz
  have hN':7=N:=hN
  subst hN'
  rw [h1,h2,h3] at he
  obtain ⟨r1,r2,r3⟩:=aiW (u.n0+u.n3+u.n5)
  rw [r1,r2,r3] at he
  exact ⟨A,c,es,_,he,hP,hz,hn,hbl⟩
theorem TU {w0:World} (hT:ve w0) (hD:iG w0):
  Calls Tryz.prog 6 #[] w0 fun e w'=>e=.returned (.bool true)/\Below w0.heap.size w0 w':=by
 refine dp Tryz.func6 rfl Tryz.ntmps6 rfl fun σ=>?_
 replace σ:=(σ.j1 hD).iB rI hT fun e he=>by cases he
 refine eE rfl<|lr (z:=1) #[aq 0,aq 1,aq 1,aq 1,aq 1,aq 0] σ (aD.size) dc rfl aK fun _ bJ σ=>?_
 replace σ:=σ.Dr (f:=fI) (F:=FI) (k:=0) (n:=6) (es:=[0,1,1,1,1,0]) rfl rfl bn rfl ai (Kt (fun _=>rfl) _ _) (fun _ _ _ _=>uI (fun _=>rfl))
 replace σ:=σ.pick [] [0,2,3] ai
 refine eE rfl<|cS Tryz.call26 (N9 (k:=3) σ.aU rfl ai) rfl ?_
 rintro _ _ ⟨Aq,cq,rfl,ZK⟩
 refine ⟨_,rfl,?_⟩
 replace σ:=σ.more ZK
 replace σ:=σ.eH (k:=0) rfl rfl
 refine eE rfl<|cS Tryz.call7 (TR (k1:=2) (k2:=2) σ.aU σ.eY ai TS ai aeb) rfl ?_
 rintro _ _ ⟨u,bH,Ki,Bc,QL,rfl,hSu,hl0,iQ,jb,sH,KD,hl5,hl6⟩
 refine ⟨_,rfl,?_⟩
 replace σ:=σ.more hSu
 replace σ:=σ.eH (k:=0) rfl hl0
 replace σ:=σ.eH (k:=0) rfl iQ
 replace σ:=σ.eH (k:=0) rfl jb
 replace σ:=σ.eH (k:=0) rfl sH
 replace σ:=σ.eH (k:=0) rfl KD
 replace σ:=σ.eH (k:=0) rfl hl5
 replace σ:=σ.eH (k:=0) rfl hl6
 have hu1:u.k1=2:=ae
 have hu2:u.k2=2:=ae
 refine eE rfl<|eL cA σ rfl fun _ cJ σ=>eE rfl<|cX 0 σ rfl fun _ σ=>ir rfl<|kB (b':=false) rfl<|iF rfl rfl<|gE 0 σ rfl<|eE rfl<|cS Tryz.call10 (Mw bH ⟨σ.uD,σ.nF,σ.jW,σ.eY,σ.cF,σ.bC,σ.aU⟩) rfl ?_
 rintro _ _ ⟨gm,v,AZ,hpv,Ol,Yo,rfl,hSv,Bn,wM,Ov,hm3,hm4,hm5,hm6⟩
 refine ⟨_,rfl,?_⟩
 replace σ:=σ.more hSv
 replace σ:=σ.uK (k:=0) rfl
 replace σ:=σ.eH (k:=0) rfl Bn
 replace σ:=σ.eH (k:=0) rfl wM
 replace σ:=σ.eH (k:=0) rfl Ov
 replace σ:=σ.eH (k:=0) rfl hm3
 replace σ:=σ.eH (k:=0) rfl hm4
 replace σ:=σ.eH (k:=0) rfl hm5
 replace σ:=σ.eH (k:=0) rfl hm6
 refine ir rfl<|kB (b':=false) rfl<|vE rfl (fun η=>p9 η Tryz.underlying35 rfl)<|iF rfl rfl<|eE rfl<|lr (z:=1) #[aq 1,aq 2,aq 3,aq 4] σ (fh.size) pA rfl aK fun _ fo σ=>?_
 replace σ:=σ.Dr (f:=fI) (F:=FI) (k:=0) (n:=4) (es:=[1,2,3,4]) rfl rfl bn rfl ai (Kt (fun _=>rfl) _ _) (fun _ _ _ _=>uI (fun _=>rfl))
 replace σ:=σ.pick [0] [0,2,3,4,5,6,7,8,9,10,11,12,13,14,15,16,17,18,19,20] ai
 refine eE rfl<|cS Tryz.call14 (yy σ.aU ai ai) rfl ?_
 rintro _ _ ⟨tS,sF,aed,rfl,wk,xI⟩
 refine ⟨_,rfl,?_⟩
 replace σ:=σ.Mx wk ⟨aL,aN rfl,trivial⟩
 have aee:aed.length=4:=by have:=aM List.length xI; rw [aZ] at this; exact this
 refine eE rfl<|lr (z:=1) #[aq 1,aq 1,aq 1,aq 1] σ (fh.size) pA rfl aK fun _ B4 σ=>?_
 replace σ:=σ.Dr (f:=fI) (F:=FI) (k:=0) (n:=4) (es:=[1,1,1,1]) rfl rfl bn rfl ai (Kt (fun _=>rfl) _ _) (fun _ _ _ _=>uI (fun _=>rfl))
 replace σ:=σ.pick [0,1] [0,2,3,4,5,6,7,8,9,10,11,12,13,14,15,16,17,18,19,20,21,22] ai
 refine eE rfl<|cS Tryz.call14 (yy σ.aU ai ai) rfl ?_
 rintro _ _ ⟨As,uc,aef,rfl,I4,Xr⟩
 refine ⟨_,rfl,?_⟩
 replace σ:=σ.Mx I4 ⟨aL,aL,aN rfl,trivial⟩
 have aeg:aef.length=4:=by have:=aM List.length Xr; rw [aZ] at this; exact this
 refine eE rfl<|cS Tryz.call13 (aec AZ (σ.pat (k:=11) rfl) ⟨σ.pat (k:=10) rfl,σ.pat (k:=9) rfl,σ.pat (k:=8) rfl,σ.pat (k:=7) rfl,σ.uD,σ.nF,σ.jW⟩ ae ae (by have:=AZ.len; rw [hpv,Ki] at this; exact this.symm) (σ.pat (k:=21) rfl) ⟨ax σ.fK,aee,σ.cF⟩ ⟨ax σ.dm,aeg,σ.aU⟩ xI Xr) rfl ?_
 rintro _ _ ⟨Ap,cp,ep,Sp,rfl,hPp,hzp,ZN,hb⟩
 refine ⟨_,rfl,?_⟩
 replace σ:=(σ.call hb).JX (v:=(Ap,7,cp,ep)) hPp ZN (fun o ho b gx=>.inl (o.lt (σ.mine o ho) gx)) ⟨aL,aL,aN rfl,trivial⟩
 replace σ:St w0 _ [abi As 4 uc aef,abi tS 4 sF aed,bk cJ (CQ u) 30] [vh Ap 7 cp ep,bL FN aef,bE (bh B4) 4 4 ([1,1,1,1]),bL FN aed,bE (bh fo) 4 4 ([1,2,3,4]),bE v.A6 v.n v.c6 v.e6,jM v.A5 v.n5 v.c5 v.e5,bE v.A4 v.n v.c4 v.e4,jM v.A3 v.n3 v.c3 v.e3,bE v.A1 v.n v.c1 v.e1,jM v.A0 v.n0 v.c0 v.e0,u3 v.Ap v.n v.cp v.ps,bk gm (CQ v) 82,bE u.A6 u.n u.c6 u.e6,jM u.A5 u.n5 u.c5 u.e5,bE u.A4 u.n u.c4 u.e4,jM u.A3 u.n3 u.c3 u.e3,bE u.A1 u.n u.c1 u.e1,jM u.A0 u.n0 u.c0 u.e0,u3 u.Ap u.n u.cp u.ps,u3 Aq 3 cq (EA [0,1,1,1,1,0] 3),bE (bh bJ) 6 6 ([0,1,1,1,1,0]),rI,my]:=σ
 refine eE rfl<|eL dB σ rfl fun _ Ox σ=>eE rfl<|cX 0 σ rfl fun _ σ=>cZ rfl<|kB (b':=true) rfl<|eE rfl<|lr (z:=1) #[aq 1,aq 3,aq 6,aq 10,aq 9,aq 7,aq 4] σ (fh.size) pA rfl aK fun _ Zs σ=>?_
 replace σ:=σ.Dr (f:=fI) (F:=FI) (k:=0) (n:=7) (es:=[1,3,6,10,9,7,4]) rfl rfl bn rfl ai (Kt (fun _=>rfl) _ _) (fun _ _ _ _=>uI (fun _=>rfl))
 replace σ:=σ.pick [0,1,2,3] [0,2,3,4,5,6,7,8,9,10,11,12,13,14,15,16,17,18,19,20,21,22,23,24,25] ai
 exact eE rfl<|dx Tryz.call15 (Mv σ.bC σ.aU hzp ai ai) σ rfl fun _ σ=>lE 0 σ rfl<|cZ rfl<|kB (b':=true) rfl<|lE 0 σ rfl<|cZ rfl<|kB (b':=true) rfl<|lE 0 σ rfl<|cZ rfl<|kB (b':=true) rfl<|o1 Tryz.results6 rfl<|⟨rfl,σ.below⟩
end Go.Proofs.YtgopcdagnicekaaGreatDoor.W

/- The table of math/bits.TrailingZeros32, out of the row's condition. No condition. -/
namespace Go.Proofs.YtgopcdagnicekaaGreatDoor
open Go.RowKit Anv Go.ChangeShapes Go.WideShapes Go.ChangeAt Go.Joins
theorem s6 {H:Type} {enc:TypeId×Value->H} {P:Program} {w:World} {base:Nat} {spare:Nat->Bool} {held:Bool} {fuel t n e:Nat} {cs:List Value} {zs:List Nat} {q:List MemPlace}
  (ht:P.underlying t=some (.array n e)) (he:P.underlying e=some (.int .u8)) (hc:P.cellsOf e=1) (hn:P.cellsOf t=n)
  (h:DataW.trod enc P w base spare held fuel t cs=some (.agg (zs.map fun z=>.lit (.int .u8 (z:Nat))),q)):cs=zs.map fun z=>Value.int .u8 (z:Nat):=by
 obtain ⟨xs,m,rfl,hx,hl,H7,Xs⟩:=DataW.trod_array ht h
 simp only [ji,DataW.agg.injEq] at hx
 have Xh:zs.length=n:=by rw [<- H7]; have:=aM List.length hx.1; simpa using this
 apply kV
 intro i
 rcases dr i n with hi | hi
 ·have h1:=Xs i hi
  rw [hc,tg] at h1
  have U0:i<cs.length:=by rw [hl,hn]; exact hi
  have e1:(cs.drop i).take 1=[cs[i]]:=by rw [gW U0]; rfl
  have hix:i<xs.length:=by rw [H7]; exact hi
  rw [e1,aw hix] at h1
  obtain ⟨k,e2,e3,_⟩:=DataW.trod_int he h1
  have h2:=aM (fun l=>l[i]?) hx.1
  have hiz:i<zs.length:=by rw [Xh]; exact hi
  simp only [bo,aw hix,aw hiz,qQ,Option.some.injEq] at h2
  rw [e3] at h2
  simp only [DataW.lit.injEq,Lit.int.injEq,true_and] at h2
  simp only [pf,and_true] at e2
  rw [aw U0,e2,bo,aw hiz,qQ,h2]
 ·rw [dz (by rw [hl,hn]; exact hi),dz (by simp [Xh]; exact hi)]
open Go.RowKit Anv Go.ChangeShapes Go.WideShapes Go.ChangeAt Go.Joins W
theorem aoW:Tryz.prog.globalNamed "math/bits.deBruijn32tab"=some 0:=by kernel_rfl
theorem aoX:(Tryz.prog.globals[0]?).map (·.type)=some 290:=by kernel_rfl
theorem aoY {H:Type}:(Rows.laid_math_bits_deBruijn32tab:DataW H)=.agg (Lib.deBruijn32tab.map fun z=>.lit (.int .u8 (z:Nat))):=rfl
theorem aoZ:Tryz.prog.globalNamed "math/bits.deBruijn64tab"=some 1:=by kernel_rfl
theorem ao0:(Tryz.prog.globals[1]?).map (·.type)=some 291:=by kernel_rfl
theorem ao1 {H:Type}:(Rows.laid_math_bits_deBruijn64tab:DataW H)=.agg (Rr.map fun z=>.lit (.int .u8 (z:Nat))):=rfl
theorem Ob {W:World} (h:laidMetH Tryz.prog [("math/bits.deBruijn32tab",Rows.laid_math_bits_deBruijn32tab),("math/bits.deBruijn64tab",Rows.laid_math_bits_deBruijn64tab)] W):ve W:=by
 rw [MakeChecks.laidMetH_plain _ _ _ aK] at h
 obtain ⟨ps,⟨g0,t0,cs0,f0,p0,q0,MR,ht0,YU,H',_,_⟩,_,_⟩:=h
 obtain rfl:=dw (aoW.symm.trans MR)
 obtain rfl:=dw (aoX.symm.trans ht0)
 rw [aoY] at H'
 have ia:=s6 Tryz.underlying290 Tryz.underlying5 aK aK H'
 intro j hj
 have hc:=World.var?_cell MR YU j
 have hl:j<Lib.deBruijn32tab.length:=hj
 have h2:cs0[j]?=some (.int .u8 (Lib.deBruijn32tab.getD j 0:Nat)):=by
  have h3:cs0.toList[j]?=some (.int .u8 (Lib.deBruijn32tab.getD j 0:Nat)):=by
   rw [ia,bo,aw hl]
   simp [List.getD,hl]
  simpa using h3
 exact hc.trans h2
theorem Oc {W:World} (h:laidMetH Tryz.prog [("math/bits.deBruijn32tab",Rows.laid_math_bits_deBruijn32tab),("math/bits.deBruijn64tab",Rows.laid_math_bits_deBruijn64tab)] W):iG W:=by
 rw [MakeChecks.laidMetH_plain _ _ _ aK] at h
 obtain ⟨ps,⟨_,_,_,_,_,_,_,_,_,_,⟨g0,t0,cs0,f0,p0,q0,MR,ht0,YU,H',_,_⟩,_⟩,_,_⟩:=h
 obtain rfl:=dw (aoZ.symm.trans MR)
 obtain rfl:=dw (ao0.symm.trans ht0)
 rw [ao1] at H'
 have ia:=s6 Tryz.underlying291 Tryz.underlying5 aK aK H'
 intro j hj
 have hc:=World.var?_cell MR YU j
 have hl:j<Rr.length:=hj
 have h2:cs0[j]?=some (.int .u8 (Rr.getD j 0:Nat)):=by
  have h3:cs0.toList[j]?=some (.int .u8 (Rr.getD j 0:Nat)):=by
   rw [ia,bo,aw hl]
   simp [List.getD,hl]
  simpa using h3
 exact hc.trans h2
theorem xn:Tryz.prog.cellsOf 61=2:=by kernel_rfl
theorem TX {H:Type} {enc:TypeId×Value->H} {W:World} {m:Nat} {cs:List Value} {y:DataW H×List MemPlace}
  (h:DataW.trod enc Tryz.prog W 0 (fun _=>true) true m 61 cs=some y):∃e:Pt,cs=df e:=by
 obtain ⟨xs,k,_,rfl,hl,hlen,hf⟩:=DataW.trod_struct Tryz.underlying61 h
 rw [xn] at hl
 obtain ⟨v0,v1,rfl⟩:∃v0 v1,cs=[v0,v1]:=by
  match cs,hl with
  | [v0,v1],_=>exact ⟨v0,v1,rfl⟩
 match xs,hlen with
 | [y0,y1],_=>
  have h0:DataW.trod enc Tryz.prog W 0 (fun _=>true) true k 3 (([v0,v1].drop 0).take (Tryz.prog.cellsOf 3))=some y0:=by simpa using hf 0 _ rfl
  have h1:DataW.trod enc Tryz.prog W 0 (fun _=>true) true k 3 (([v0,v1].drop 1).take (Tryz.prog.cellsOf 3))=some y1:=by simpa using hf 1 _ rfl
  rw [PM] at h0 h1
  obtain ⟨n0,rfl,_⟩:=Kv h0
  obtain ⟨n1,rfl,_⟩:=Kv h1
  exact ⟨(n0,n1),rfl⟩
theorem TY {H:Type} {enc:TypeId×Value->H} {W:World} {r:Reach} {b0:Nat} {v:Value} {d:DataW H} {p:List MemPlace}
  (hv:Value.okWide Tryz.prog W r b0 22 v) (h:DataW.Trod enc Tryz.prog W 0 (fun _=>true) true 22 v d p):
  ∃A n c es,v=.slice A n c/\(u3 A n c es).P W:=by
 obtain ⟨A,n,c,rfl⟩:=okWide_slice Tryz.underlying22 hv
 obtain ⟨m,hm⟩:=h
 replace hm:DataW.trod enc Tryz.prog W 0 (fun _=>true) true m 22 [.slice A n c]=some (d,p):=hm
 rcases DataW.trod_slice Tryz.underlying22 hm with ⟨ia,_⟩ | ⟨a,l,c',elems,rest,q,_,ia,hd,_,Uu,Nt,hlen,Xs,_⟩
 ·simp at ia
  obtain ⟨rfl,rfl,rfl⟩:=ia
  exact ⟨none,0,0,[],rfl,Dq df ee 2 W⟩
 simp at ia
 obtain ⟨rfl,rfl,rfl⟩:=ia
 rw [xn] at Xs
 have hex:∀i,∃e:Pt,i<n->∀j,j<2->W.cell? ((a.add (i*2)).add j)=(df e)[j]?:=by
  intro i
  rcases dr i n with hi | hi
  ·have he:=Xs i hi
   rw [aw ae] at he
   obtain ⟨cs,ia,ht⟩:=Option.bind_eq_some_iff.1 he
   obtain ⟨e,rfl⟩:=TX ht
   obtain ⟨_,_,hc⟩:=World.cells?_some ia
   exact ⟨e,fun _ j hj=>hc j hj⟩
  ·exact ⟨(0,0),fun h=>ae⟩
 obtain ⟨g,hg⟩:=Classical.axiomOfChoice hex
 have iI:∀i,i<n->((List.range n).map g)[i]?=some (g i):=fun i hi=>by
  rw [bo,fQ hi]
  rfl
 refine ⟨some a,n,c,(List.range n).map g,rfl,⟨by rw [jo ft,aZ,mK],Uu,Nt,fun hp=>?_⟩,by rw [aZ,mK],fun e _=>trivial⟩
 have h0:=hg 0 hp 0 ai
 obtain ⟨b,off,spot⟩:=a
 have TW:spot=none:=by
  have h1:W.cell? (((⟨b,off,spot⟩:Addr).add (0*2)).add 0)=some (.int .i64 (g 0).1):=h0
  simpa [Addr.add] using World.cell?_spot h1
 subst TW
 have ea:∀o k,(⟨b,o,none⟩:Addr).add k=⟨b,o+k,none⟩:=fun o k=>by simp [Addr.add]
 refine ⟨b,off,rfl,World.block_lt_of_cell? W (((⟨b,off,none⟩:Addr).add (0*2)).add 0) h0,fun i hi=>?_⟩
 obtain ⟨j,k,hk,rfl⟩:∃j k,k<2/\i=j*2+k:=⟨i / 2,i%2,kx _ ai,by omega⟩
 have hj:j<n:=ae
 rw [PI ft (iI j hj) hk,<- hg j hj k hk,ea,ea,mc]
end Go.Proofs.YtgopcdagnicekaaGreatDoor

/- Whole numbers cut into digits and put together: plain laws, and quotients by a power of two. No condition. -/
namespace Go.Proofs.YtgopcdagnicekaaGreatDoor.W
open Go.RowKit Anv Go.Lib
def TO (x:Int) (r:Nat):Int:=if x<0 then -((r:Nat):Int) else ((r:Nat):Int)
def ya (s:Nat) (x:Int):List Int:=(sw (2 ^ s) x.natAbs).map (TO x)
theorem CR {s:Nat} (hs:1<=s):2<=2 ^ s:=fE (n:=2) ai hs
theorem Nc {s R:Nat} {x v:Int} {os:List NE} {A:Option Addr} {c:Nat} (hs:1<=s) (hR:R≠0) (h:os.map zz++(sw (2 ^ s) R).map (TO x)=ya s x) (hv:v=TO x (R%2 ^ s)):(os++[((A,c,v):NE)]).map zz++(sw (2 ^ s) (R / 2 ^ s)).map (TO x)=ya s x:=by
 rw [ly (CR hs) ae,jJ] at h
 rw [je,cG,<- h,hv]
 rfl
theorem acd {s:Nat} {x:Int} {os:List NE} (h:os.map zz++(sw (2 ^ s) 0).map (TO x)=ya s x):os.map zz=ya s x:=by
 rw [jj,List.map_nil,fv] at h
 exact h
theorem acv {s R i:Nat} {x:Int} {os:List NE} (h:os.map zz++(sw (2 ^ s) R).map (TO x)=ya s x) (hl:os.length=i):i+(sw (2 ^ s) R).length=(ya s x).length:=by
 rw [<- h,aP,aZ,aZ,hl]
theorem Yb {s:Nat} {x:Int} (hs:4<=s) (hx:x.natAbs<2147483648):(ya s x).length<=8:=by
 unfold ya
 rw [aZ]
 refine Bg (CR ae) (gw hx ?_)
 rw [<- Nat.pow_mul]
 exact bq ai (fE (n:=2) ai (show 32<=s*8 by omega))
theorem ER {s:Nat} {x:Int} (h1:1<=s) (h2:s<=200):ue 200 (ya s x):=sj.2 fun y hy=>by
 obtain ⟨r,hr,rfl⟩:=ff.1 hy
 have h3:=H5 (CR h1) x.natAbs r hr
 have h4:2 ^ s<=2 ^ 200:=fE ai h2
 have h5:(TO x r).natAbs=r:=by unfold TO; split<;>omega
 rw [h5]
 exact gw h3 h4
theorem aaj (B:Nat) (x:Int):∀l:List Nat,qZ ((B:Nat):Int) 1 (l.map (TO x))=TO x (val B l)
 | []=>by unfold TO; split<;>rfl
 | r::l=>by
  rw [jJ,qZ,aaj B x l,Int.one_pow,qL,val]
  unfold TO
  split
  ·rw [Int.natCast_add,oz,yB,gn]; omega
  ·rw [Int.natCast_add,oz,gn]; omega
theorem Hp {s:Nat} (hs:1<=s) (x:Int):qZ (2 ^ s) 1 (ya s x)=x:=by
 have h:=aaj (2 ^ s) x (sw (2 ^ s) x.natAbs)
 rw [C3 (CR hs),Int.natCast_pow] at h
 refine h.trans ?_
 unfold TO
 split<;>omega
theorem acw {s:Nat} (hs:1<=s) (x y:Int):qZ (2 ^ s) 1 (iy (ya s x) (ya s y))=x*y:=by
 rcases ed (ya s x).length with h | h
 ·have h1:=Hp hs x
  rw [jE h] at h1 ⊢
  rw [show x=0 from h1.symm,jI]
  rfl
 rcases ed (ya s y).length with h' | h'
 ·have h1:=Hp hs y
  rw [jE h'] at h1 ⊢
  rw [show y=0 from h1.symm,mL,iy,aR (.inr rfl)]
  rfl
 rw [adK _ _ h h',Hp hs,Hp hs]
theorem aeE {s:Nat} {x y:Int} (h1:4<=s) (h2:s<=200) (hx:x.natAbs<2147483648):ue 404 (iy (ya s x) (ya s y)):=(L9 (n:=3) (ER ae h2) (ER ae h2) (Yb h1 hx)).mono ai
theorem TV {s b:Nat} (hs:s<=200):∀{xs:List Int},ue b xs->(qZ (2 ^ s) 1 xs).natAbs<2 ^ (b+1+201*xs.length)
 | [],_=>qi _
 | x::xs,h=>by
  have h1:=TV hs (xs:=xs) fun i=>h (i+1)
  have h2:x.natAbs<2 ^ b:=h 0
  rw [qZ,Int.one_pow,qL,dy]
  have h3:((2:Int) ^ s).natAbs<=2 ^ 200:=by
   rw [OH]
   exact fE (n:=2) ai hs
  have h4:(qZ (2 ^ s) 1 xs*2 ^ s).natAbs<=2 ^ (b+1+201*xs.length)*2 ^ 200:=by
   rw [lH]
   exact fG (Nat.le_of_lt h1) h3
  rw [<- mM] at h4
  have h5:=Int.natAbs_add_le (qZ (2 ^ s) 1 xs*2 ^ s) x
  have h6:2 ^ b<=2 ^ (b+1+201*xs.length+200):=fE (n:=2) ai ae
  have h7:2 ^ (b+1+201*(xs.length+1))=2 ^ (b+1+201*xs.length+200)*2:=by
   rw [<- iJ,show b+1+201*(xs.length+1)=b+1+201*xs.length+200+1 by omega]
  omega
theorem ai3 {s b:Nat} (hs:s<=200) (hb:b<=404) {xs:List Int} (h:ue b xs) (hl:xs.length<=40):zl (qZ (2 ^ s) 1 xs)<=300:=by
 refine JJ (TV hs h) ae
theorem aeF {s b:Nat} (hs:s<=200) (hb:b<=404) {xs:List Int} (h:ue b xs) (hl:xs.length<=40):zl (qZ (2 ^ s) 1 xs*2 ^ s)<=400:=by
 have h1:=TV hs h
 refine JJ (b:=b+1+201*xs.length+200) ?_ ae
 rw [lH,mM]
 have h3:((2:Int) ^ s).natAbs<=2 ^ 200:=by
  rw [OH]
  exact fE (n:=2) ai hs
 exact gw (Nat.mul_lt_mul_of_pos_right h1 (by rw [OH]; exact qi s)) (gl _ h3)
theorem N8 {b:Nat} {xs:List Int} (h:ue b xs) (i:Nat):ue b (xs.drop i):=sj.2 fun x hx=>sj.1 h x (kj hx)
theorem acA {s i:Nat} {xs:List Int} {x:Int} (h:xs[i]?=some x):qZ (2 ^ s) 1 (xs.drop (i+1))*2 ^ s+x=qZ (2 ^ s) 1 (xs.drop i):=by rw [abH _ _ h,Int.one_pow,qL]
theorem OR (x:Int):decide (x.sign<0)=decide (x<0):=by
 rcases EY x 0 with h | h | h
 ·rw [Int.sign_eq_neg_one_of_neg h,dU h]; rfl
 ·subst h; rfl
 ·rw [Int.sign_eq_one_of_pos h]; exact (bR ai).trans (bR ae).symm
theorem aan {m:Int} {s:Nat} (h:0<=m/\m<=300):¬m.tdiv s>2048:=by
 have h3:(m.tdiv s).natAbs<=m.natAbs:=by rw [Int.natAbs_tdiv]; exact yI ..
 omega
theorem ai4 {s:Nat} (hs:s<=200):zl (1*2 ^ s)<=7:=JJ (b:=201) (by rw [p',OH]; exact Nat.pow_lt_pow_right (a:=2) ai ae) ai
theorem ai5 (s:Nat):(1*2 ^ s:Int)≠0:=by
 rw [p']
 exact Int.pow_ne_zero ai
theorem ai6 {R:Nat} (h:R<2147483648):zl ((R:Nat):Int)<=1:=JJ (b:=31) (by rw [yD]; exact h) ai
theorem zdm {A B:Option Addr} {c d R s:Nat} {w:World} (hx:dK w A c ((R:Nat):Int)) (hy:dK w B d (1*2 ^ s)) (hR:R<2147483648) (hs:s<=200):
  Calls Tryz.prog 61 #[.agg #[.bool (neg ((R:Nat):Int)),.slice A (zl ((R:Nat):Int)) c],.agg #[.bool (neg (1*2 ^ s)),.slice B (zl (1*2 ^ s)) d]] w fun e w'=>∃v u,e=.returned (.tuple #[v,u,aq 0])/\pj w' v ((R / 2 ^ s:Nat):Int)/\pj w' u ((R%2 ^ s:Nat):Int)/\Below w.heap.size w w':=
 (P4 hx hy (bq (ai6 hR) ai) (bq (ai4 hs) ai) (ai5 s)).mono fun e w' ⟨v,u,he,h1,h2,hb⟩=>by
  have e1:((R:Nat):Int) / (1*2 ^ s)=((R / 2 ^ s:Nat):Int):=by rw [p',Int.natCast_ediv,Int.natCast_pow]; rfl
  have e2:((R:Nat):Int)%(1*2 ^ s)=((R%2 ^ s:Nat):Int):=by rw [p',Int.natCast_emod,Int.natCast_pow]; rfl
  rw [e1] at h1
  rw [e2] at h2
  exact ⟨v,u,he,h1,h2,hb⟩
theorem aoU {R:Nat} (h:((R:Nat):Int).sign=0):R=0:=by cases R with
 | zero=>rfl
 | succ n=>cases h
theorem ai7 {x:Int} (h:x.sign<0):x<0:=by have:=OR x; rw [dU h] at this; exact bX this.symm
theorem ai8 {x:Int} (h:¬x.sign<0):¬x<0:=by have:=OR x; rw [bR h] at this; exact fT this.symm
theorem aaG {w0:World} {s:Nat} (h1:1<=s) (h2:s<=65536):
  Calls Tryz.prog 56 #[ak s] w0 fun e w'=>e=.returned (.bool true)/\Below w0.heap.size w0 w':=by
 exact dp Tryz.func56 rfl Tryz.ntmps56 rfl fun σ=>xd rfl<|kB (b':=true) (dU ae)<|IZ rfl<|o1 Tryz.results56 rfl<|⟨aM (fun b=>Ending.returned (Value.bool b)) (dU ae),σ.below⟩
theorem abb {w0:World} {A:Option Addr} {c s:Nat} {x:Int} (hX:dK w0 A c x) (hx:x.natAbs<2147483648) (hs:4<=s/\s<=200):
  Calls Tryz.prog 35 #[.agg #[.bool (neg x),.slice A (zl x) c],ak s] w0 fun e w'=>∃A n c os,e=.returned (.tuple #[.slice A n c,aq 0])/\St w0 w' [abi A n c os] [bL FN os]/\os.map zz=ya s x/\os.length=n:=by
 refine dp Tryz.func35 rfl Tryz.ntmps35 rfl fun σ=>?_
 replace σ:=σ.eO hX trivial
 have hxz:=bq (show zl x<=1 from JJ (b:=31) hx ai) (show 1<=1000000 by decide)
 have hbl:arU x.natAbs<=31:=Ya (k:=31) hx
 refine eE rfl<|gN σ rfl fun _ bJ σ=>We rfl<|eE rfl<|dx Tryz.call56 (aaG (s:=s) ae ae) σ rfl fun _ σ=>iF rfl rfl<|gE 0 σ rfl<|eE rfl<|dx Tryz.call57 (ac2 (show dK _ A c x from σ.aU) ae) σ rfl fun _ σ=>can rfl ae<|yf rfl ae<|vE rfl (fun η=>kf (m:=((((arU x.natAbs)+s:Nat):Int) - (1:Int))) (n:=((s:Nat):Int)) η rfl rfl ae (gV ae))<|pd rfl<|kB (b':=false) (bR (aan ae))<|iF rfl rfl<|eE rfl<|cS Tryz.call18 (yU (n:=(1:Int)) ae ae) rfl ?_
 rintro _ _ ⟨_,rfl,⟨z8,wh,rfl,adt⟩,hb⟩
 refine ⟨_,rfl,?_⟩
 replace σ:=(σ.call hb).eO adt ⟨aN rfl,trivial⟩
 refine eE rfl<|cS Tryz.call58 (Mc (n:=s) (show dK _ z8 wh 1 from σ.aU) (bq adp ai) ae) rfl ?_
 rintro _ _ ⟨_,rfl,⟨A55,c56,rfl,JM⟩,hb⟩
 refine ⟨_,rfl,?_⟩
 replace σ:=(σ.call hb).eO JM ⟨aN rfl,trivial⟩
 refine eE rfl<|eL aG σ rfl fun _ z7 σ=>eE rfl<|cX 0 σ rfl fun _ σ=>ir rfl<|kB (b':=false) rfl<|iF rfl rfl<|gE 1 σ rfl<|eE rfl<|cS Tryz.call59 (ae7 (z:=x) (show dK _ A c x from σ.cF)) rfl ?_
 rintro _ _ ⟨_,rfl,⟨LF,HJ,rfl,adM⟩,hb⟩
 refine ⟨_,rfl,?_⟩
 replace σ:=(σ.call hb).eO adM ⟨aN rfl,aN rfl,trivial⟩
 refine eE rfl<|eL aG σ rfl fun _ g62 σ=>eE rfl<|cX 0 σ rfl fun _ σ=>?_
 replace σ:=(σ.cl ar 52 2).nP FN
 refine fX (fun mz l w=>∃R:Nat,∃Ar:Option Addr,∃cr:Nat,∃i:Nat,∃A4:Option Addr,∃c4:Nat,∃os:List NE,R=mz/\l=[(8,.slice A4 i c4),(2,bB bJ),(6,bB z7),(9,bB g62)]/\St w0 w [bk g62 #[.bool (neg ((R:Nat):Int)),.slice Ar (zl ((R:Nat):Int)) cr] 52,abi A4 i c4 os,bk z7 #[.bool (neg (1*2 ^ s)),.slice A55 (zl (1*2 ^ s)) c56] 52,bk bJ #[.bool (neg x),.slice A (zl x) c] 52] [bL FN os,BW Ar cr ((R:Nat):Int),BW A55 c56 (1*2 ^ s),BW z8 wh 1,BW A c x]/\os.map zz++(sw (2 ^ s) R).map (TO x)=ya s x/\os.length=i/\R<2147483648) ⟨x.natAbs,LF,HJ,0,none,0,[],rfl,rfl,σ.pick [1,0,2,3] [0,1,2,3,4] ai,rfl,rfl,hx⟩ ay ?_
 rintro _ _ _ ⟨R,Ar,cr,i,A4,c4,os,rfl,rfl,σ,Bi,mE,hRb⟩
 refine gE 0 σ rfl<|eE rfl<|dx Tryz.call60 (tp (z:=((R:Nat):Int))) σ rfl fun _ σ=>cZ rfl<|wQ (fun C9=>?_) fun C9=>?_
 ·have hR0:=aoU C9
  rw [hR0] at Bi
  exact iT rfl rfl<|o2 Tryz.results35 rfl<|⟨_,_,_,_,rfl,σ.pick [1] [0] ai,acd Bi,mE⟩
 ·have hR0:R≠0:=fun q=>C9 (by subst q; rfl)
  have Oj:=acv Bi mE
  have hc8:=Yb (x:=x) hs.1 hx
  refine iF rfl rfl<|gE 0 σ rfl<|gE 2 σ rfl<|eE rfl<|cS Tryz.call61 (zdm (show dK _ Ar cr ((R:Nat):Int) from σ.bC) (show dK _ A55 c56 (1*2 ^ s) from σ.cF) hRb ae) rfl ?_
  rintro _ _ ⟨_,_,rfl,⟨A64,c65,rfl,anJ⟩,⟨A67,c68,rfl,aiX⟩,hb⟩
  refine ⟨_,rfl,?_⟩
  replace σ:=((σ.call hb).eO anJ ⟨aN rfl,aL,aN rfl,aN rfl,trivial⟩).eO aiX ⟨aN rfl,aL,aN rfl,aN rfl,trivial⟩
  refine eE rfl<|eL aG σ rfl fun _ g70 σ=>eE rfl<|eL aG σ rfl fun _ g71 σ=>eE rfl<|cX 1 σ rfl fun _ σ=>eE rfl<|cX 0 σ rfl fun _ σ=>ir rfl<|kB (b':=false) rfl<|iF rfl rfl<|gE 5 σ rfl<|eE rfl<|dx Tryz.call60 (tp (z:=x)) σ rfl fun _ σ=>ei rfl<|wD (fun h72=>?_) fun h72=>?_
  ·have xv:=ai7 h72
   refine iT rfl rfl<|gE 0 σ rfl<|eE rfl<|cS Tryz.call62 (OW (z:=((R%2 ^ s:Nat):Int)) (show dK _ A67 c68 ((R%2 ^ s:Nat):Int) from σ.aU)) rfl ?_
   rintro _ _ ⟨_,rfl,⟨A73,c74,rfl,ao3⟩,hb⟩
   refine ⟨_,rfl,?_⟩
   replace σ:=(σ.call hb).eO ao3 ⟨aN rfl,aN rfl,aN rfl,aL,aN rfl,aN rfl,trivial⟩
   refine eE rfl<|cX 0 σ rfl fun _ σ=>gE 0 σ rfl<|eE rfl<|lr (z:=2) #[.bool (neg (-((R%2 ^ s:Nat):Int))),.slice A73 (zl (-((R%2 ^ s:Nat):Int))) c74] σ (ah.size) aG rfl aK fun _ g76 σ=>eE rfl<|pT (new:=[(A73,c74,(-((R%2 ^ s:Nat):Int)))]) 4 0 σ bK rfl (by unfold maxLen; omega) ae fun _ g77 c78 σ=>?_
   replace σ:=σ.l7 (e:=(A73,c74,(-((R%2 ^ s:Nat):Int)))) (i:=3) (j:=0) rfl rfl
   exact gE 2 σ rfl<|eE rfl<|cX 3 σ rfl fun _ σ=>dF ⟨R / 2 ^ s,A64,c65,i+1,(bh g77),c78,(os++[(A73,c74,(-((R%2 ^ s:Nat):Int)))]),rfl,rfl,σ.pick [3,4,5,6] [0,3,6,7,8] ai,(Nc ae hR0 Bi (by unfold TO; rw [aR xv])),(by rw [aP,mE]; rfl),(qf (yI _ _) hRb)⟩ ay (Nat.div_lt_self ae (CR ae))
  ·have xv:=ai8 h72
   refine iF rfl rfl<|gE 0 σ rfl<|eE rfl<|lr (z:=2) #[.bool (neg ((R%2 ^ s:Nat):Int)),.slice A67 (zl ((R%2 ^ s:Nat):Int)) c68] σ (ah.size) aG rfl aK fun _ g79 σ=>eE rfl<|pT (new:=[(A67,c68,((R%2 ^ s:Nat):Int))]) 4 0 σ bK rfl (by unfold maxLen; omega) ae fun _ g80 c81 σ=>?_
   replace σ:=σ.l7 (e:=(A67,c68,((R%2 ^ s:Nat):Int))) (i:=2) (j:=0) rfl rfl
   exact gE 2 σ rfl<|eE rfl<|cX 3 σ rfl fun _ σ=>dF ⟨R / 2 ^ s,A64,c65,i+1,(bh g80),c81,(os++[(A67,c68,((R%2 ^ s:Nat):Int))]),rfl,rfl,σ.pick [3,4,5,6] [0,2,5,6,7] ai,(Nc ae hR0 Bi (by unfold TO; rw [aQ xv])),(by rw [aP,mE]; rfl),(qf (yI _ _) hRb)⟩ ay (Nat.div_lt_self ae (CR ae))
theorem abc {w0:World} {A0:Option Addr} {n0 c0 s:Nat} {es0:List NE} {zs:List Int} (h0:(vh A0 n0 c0 es0).P w0) (jF:es0.map zz=zs) (Kb:ue 404 zs) (hn:n0<=40) (hs:4<=s/\s<=200):
  Calls Tryz.prog 36 #[.slice A0 n0 c0,ak s] w0 fun e w'=>∃v,e=.returned (.tuple #[v,aq 0])/\pj w' v (qZ (2 ^ s) 1 zs)/\Below w0.heap.size w0 w':=by
 refine dp Tryz.func36 rfl Tryz.ntmps36 rfl fun σ=>?_
 have a8:=h0.2.1
 have mC:zs.length=n0:=by rw [<- jF,aZ,a8]
 replace σ:=σ.aE h0
 refine eE rfl<|eL aG σ rfl fun _ bJ σ=>eE rfl<|dx Tryz.call56 (aaG (s:=s) ae ae) σ rfl fun _ σ=>iF rfl rfl<|pd rfl<|kB (b':=false) (bR ae)<|iF rfl rfl<|eE rfl<|eL aG σ rfl fun _ cJ σ=>yf rfl ae<|?_
 rw [show (#[.bool false,bA]:Array Value)=#[.bool (neg 0),.slice none (zl 0) 0] from lZ] at σ
 replace σ:=σ.eO (rj _) ⟨aN rfl,aN rfl,trivial⟩
 refine fX (fun mz l w=>∃m:Nat,∃z:Int,∃Av:Option Addr,∃cv:Nat,∃v:Int,m=mz/\l=[(7,aq z),(0,.slice A0 n0 c0),(1,ak s),(4,bB bJ),(6,bB cJ)]/\St w0 w [bk cJ #[.bool (neg v),.slice Av (zl v) cv] 52,bk bJ #[.bool (neg 0),.slice none (zl 0) 0] 52] [BW Av cv v,vh A0 n0 c0 es0]/\m<=n0/\z=((m:Nat):Int) - 1/\v=(qZ (2 ^ s) 1 (zs.drop m))) ⟨n0,((n0:Nat):Int) - 1,none,0,0,rfl,rfl,σ,(aY _),rfl,(by rw [dM ae]; rfl)⟩ ay ?_
 rintro _ _ _ ⟨m,z,Av,cv,v,rfl,rfl,σ,hm,ld,hv⟩
 refine xd rfl<|wD (fun lU=>?_) fun lU=>?_
 ·obtain ⟨j,rfl⟩:∃j,m=j+1:=⟨m - 1,by omega⟩
  obtain rfl:z=((j:Nat):Int):=ae
  obtain ⟨⟨Ae,ce,ze⟩,b5⟩:∃e,es0[j]?=some e:=⟨_,aw ae⟩
  replace σ:=σ.elem (k:=1) rfl b5
  have hzj:zs[j]?=some ze:=by rw [<- jF,bo,b5]; rfl
  have hvz:zl v<=300:=by rw [hv]; exact ai3 ae (aY _) (N8 Kb _) (by rw [j6]; omega)
  have JK:zl (v*2 ^ s)<=400:=by rw [hv]; exact aeF ae (aY _) (N8 Kb _) (by rw [j6]; omega)
  have hez:zl ze<=300:=JJ (sj.1 Kb _ (aB hzj)) ai
  refine iT rfl rfl<|gE 0 σ rfl<|eE rfl<|cS Tryz.call58 (Mc (n:=s) (show dK _ Av cv v from σ.bC) ae ae) rfl ?_
  rintro _ _ ⟨_,rfl,⟨tS,sF,rfl,rF⟩,hb⟩
  refine ⟨_,rfl,?_⟩
  replace σ:=(σ.call hb).eO rF ⟨aN rfl,aN rfl,trivial⟩
  refine eE rfl<|eL aG σ rfl fun _ u5 σ=>eE rfl<|cX 0 σ rfl fun _ σ=>ir rfl<|kB (b':=false) rfl<|iF rfl rfl<|gY [6] [1,4,8,12,17,22,26] aK σ fun _ σ=>gS 0 rfl<|vE rfl (fun η=>az (i:=j) η Tryz.underlying43 (ah.size) rfl rfl ae rfl (show (vh A0 n0 c0 es0).P _ from σ.eY).1)<|sE rfl (fun η hg=>bF (i:=j) (e:=(Ae,ce,ze)) η ah rfl rfl eF (show (vh A0 n0 c0 es0).P _ from (hg.pt (j:=3) rfl)).1 ae b5 rfl)<|eS rfl<|cS Tryz.call63 (BR (x:=v*2 ^ s) (y:=ze) (show dK _ tS sF (v*2 ^ s) from σ.aU) (show dK _ Ae ce ze from σ.bC) ae ae) rfl ?_
  rintro _ _ ⟨_,rfl,⟨A58,c59,rfl,ao4⟩,hb⟩
  refine ⟨_,rfl,?_⟩
  replace σ:=(σ.call hb).eO ao4 ⟨aN rfl,aN rfl,aN rfl,trivial⟩
  exact sk (σ.kd 0 1)<|eS rfl<|cX 1 σ rfl fun _ σ=>sz rfl<|yf rfl ae<|dF ⟨j,((j:Nat):Int) - 1,A58,c59,((v*2 ^ s)+ze),rfl,rfl,σ.pick [1,2] [0,4] ai,ae,rfl,(by rw [hv]; exact acA hzj)⟩ ay ae
 ·obtain rfl:m=0:=ae
  rw [vv] at hv
  exact iF rfl rfl<|gE 0 σ rfl<|eE rfl<|cX 1 σ rfl fun _ σ=>oR (fun e=>gC Tryz.results36 (RV.cell e ah rfl σ.vQ rfl) (RV.tmp e rfl))<|by rw [<- hv]; exact ⟨_,rfl,⟨Av,cv,rfl,σ.aU⟩,σ.below⟩
section
variable {P:Program} {N:Nat} {dq:List Deferred} {a:Act} {l:List (Nat×Value)} {w:World} {d:Nat} {ty:TypeId} {pos:String} {af:Array Edge} {gd:Option (Nat×Bool)} {b b':Bool} {A B:Option Addr} {n c m k:Nat}
theorem acD {T E:TypeId} {x y:Operand} (h:aW dq N a l) (hT:P.underlying T=some (.array 2 E)) (hE:lg P E 2) (hz:∃i,P.info? T=some i/\i.zero=some (.agg #[.bool false,bA,.bool false,bA])) (hx:bV l x=some (.agg #[.bool b,.slice A n c])) (hy:bV l y=some (.agg #[.bool b',.slice B m k])):
  (execOp a.eval ⟨some d,.build T #[(0,x),(1,y)],ty,pos,af,gd⟩).run P w=.ok (.value (.agg #[.bool b,.slice A n c,.bool b',.slice B m k])) w:=by
 have Pa:(zeroValue T).run P w=.ok (.agg #[.bool false,bA,.bool false,bA]) w:=by obtain ⟨i,hi,hv⟩:=hz; simp [zeroValue,typeInfo,hi,hv]
 simp [execOp,h.ev hx,h.ev hy,Instr.build,Pa,run_underlying hT,Sem.run_bind,run_sizeOf hE.size,Instr.fill,Value.cells]
theorem Yc {T E:TypeId} {x y:Operand} (j:Nat) (h:aW dq N a l) (hT:P.underlying T=some (.array 2 E)) (hE:lg P E 2) (hx:bV l x=some (.agg #[.bool b,.slice A n c,.bool b',.slice B m k])) (hy:bV l y=some (ak j)) {v:Value} (hj:j<2) (hv:(match j with | 0=>Value.agg #[.bool b,.slice A n c] | _=>Value.agg #[.bool b',.slice B m k])=v):
  (execOp a.eval ⟨some d,.index T x y,ty,pos,af,gd⟩).run P w=.ok (.value v) w:=by
 subst hv
 have hs:=run_sizeOf (P:=P) (w:=w) hE.size
 rcases (show j=0∨j=1 by omega) with rfl | rfl
 ·simp [execOp,h.ev hx,h.ev hy,Instr.index,asIntOf,run_underlying hT,Sem.run_bind,part,hE.agg,hs]
 ·simp [execOp,h.ev hx,h.ev hy,Instr.index,asIntOf,run_underlying hT,Sem.run_bind,part,hE.agg,hs]
end
theorem acE (x:Int):(x.tmod 2147483648).natAbs<2147483648:=by
 rw [Int.natAbs_tmod]
 exact kx _ ai
theorem ao5 {x y:Int} (hx:x.natAbs<2147483648) (hy:y.natAbs<2147483648):-9223372036854775808<=x*y/\x*y<=9223372036854775807:=by
 have h1:(x*y).natAbs<=2147483648*2147483648:=by rw [lH]; exact fG (Nat.le_of_lt hx) (Nat.le_of_lt hy)
 omega
theorem aeG {w0:World} {u:Un} {gm:Nat} (bH:u.Ok) (hM:(bk gm (CQ u) 82).P w0) (hm:u.Mem w0) (hT:ve w0) {Ax Ay:Option Addr} {cx cy s:Nat} {x y t:Int} (hX:dK w0 Ax cx x) (hY:dK w0 Ay cy y) (hx:x.natAbs<2147483648) (hy:y.natAbs<2147483648) (hs:4<=s/\s<=200):
  Calls Tryz.prog 17 #[bB gm,.agg #[.bool (neg x),.slice Ax (zl x) cx],.agg #[.bool (neg y),.slice Ay (zl y) cy],ak s,aq t] w0 fun e w'=>∃v,∃a b c d:Int,e=.returned (.tuple #[v,.agg #[aq a,aq b,aq c,aq d],aq 0])/\pj w' v (x*y)/\Below w0.heap.size w0 w':=by
 refine dp Tryz.func17 rfl Tryz.ntmps17 rfl fun σ=>?_
 replace σ:=σ.iB rI hT fun e he=>by cases he
 replace σ:=σ.aE hm.m6
 replace σ:=σ.aE hm.m5
 replace σ:=σ.aE hm.m4
 replace σ:=σ.aE hm.m3
 replace σ:=σ.aE hm.m1
 replace σ:=σ.aE hm.m0
 replace σ:=σ.aE hm.mP
 replace σ:=σ.iq _ hM
 replace σ:=σ.eO hY trivial
 replace σ:=σ.eO hX trivial
 have rL:=Yb hs.1 hx
 have sP:=Yb hs.1 hy
 refine eE rfl<|gN σ rfl fun _ bJ σ=>eE rfl<|gN σ rfl fun _ cJ σ=>eE rfl<|eL aG σ rfl fun _ fo σ=>eE rfl<|eL dB σ rfl fun _ eZ σ=>vE rfl (fun η=>p9 η Tryz.underlying35 rfl)<|iF rfl rfl<|eE rfl<|eL Ac σ rfl fun _ oo σ=>gE 4 σ rfl<|gE 3 σ rfl<|vE rfl (fun η=>acD η Tryz.underlying92 ah AY rfl rfl)<|?_
 replace σ:=σ.iB jY trivial fun _ _ _ _ h=>h
 replace σ:=σ.iB jY trivial fun _ _ _ _ h=>h
 refine fX (fun mz l w=>∃j:Nat,∃D0:Option Addr,∃m0:Nat,∃d0:Nat,∃e0:List NE,∃D1:Option Addr,∃m1:Nat,∃d1:Nat,∃e1:List NE,2 - j=mz/\l=[(29,ak j),(0,bB gm),(3,ak s),(4,aq t),(10,bB fo),(11,bB eZ),(13,bB oo),(28,.agg #[.bool (neg x),.slice Ax (zl x) cx,.bool (neg y),.slice Ay (zl y) cy])]/\St w0 w [bk oo #[.slice (xK (Nat.blt 0 j) D0 none) (xK (Nat.blt 0 j) m0 0) (xK (Nat.blt 0 j) d0 0),.slice (xK (Nat.blt 1 j) D1 none) (xK (Nat.blt 1 j) m1 0) (xK (Nat.blt 1 j) d1 0)] 91,bk eZ #[aq 0,aq 0,aq 0,aq 0] 39,bk fo #[.bool false,bA] 52,bk cJ #[.bool (neg y),.slice Ay (zl y) cy] 52,bk bJ #[.bool (neg x),.slice Ax (zl x) cx] 52] [opF (Nat.blt 0 j) (vh D0 m0 d0 e0),opF (Nat.blt 1 j) (vh D1 m1 d1 e1),BW Ax cx x,BW Ay cy y,bk gm (CQ u) 82,u3 u.Ap u.n u.cp u.ps,jM u.A0 u.n0 u.c0 u.e0,bE u.A1 u.n u.c1 u.e1,jM u.A3 u.n3 u.c3 u.e3,bE u.A4 u.n u.c4 u.e4,jM u.A5 u.n5 u.c5 u.e5,bE u.A6 u.n u.c6 u.e6,rI]/\j<=2/\(0<j->e0.map zz=ya s x/\e0.length=m0)/\(1<j->e1.map zz=ya s y/\e1.length=m1)) ⟨0,none,0,0,[],none,0,0,[],rfl,rfl,σ,(bm _),(fun h=>absurd h ai),(fun h=>absurd h ai)⟩ ay ?_
 rintro _ _ _ ⟨j,D0,m0,d0,e0,D1,m1,d1,e1,rfl,rfl,σ,hj,H',Kc⟩
 rcases (show j=0∨j=1∨j=2 by omega) with rfl|rfl|rfl
 ·replace σ:St w0 _ [bk oo #[bA,bA] 91,bk eZ #[aq 0,aq 0,aq 0,aq 0] 39,bk fo #[.bool false,bA] 52,bk cJ #[.bool (neg y),.slice Ay (zl y) cy] 52,bk bJ #[.bool (neg x),.slice Ax (zl x) cx] 52] [jY,jY,BW Ax cx x,BW Ay cy y,bk gm (CQ u) 82,u3 u.Ap u.n u.cp u.ps,jM u.A0 u.n0 u.c0 u.e0,bE u.A1 u.n u.c1 u.e1,jM u.A3 u.n3 u.c3 u.e3,bE u.A4 u.n u.c4 u.e4,jM u.A5 u.n5 u.c5 u.e5,bE u.A6 u.n u.c6 u.e6,rI]:=σ
  refine ei rfl<|kB (b':=true) ai<|iT rfl rfl<|vE rfl (fun η=>Yc (v:=.agg #[.bool (neg x),.slice Ax (zl x) cx]) 0 η Tryz.underlying92 ah rfl rfl ai rfl)<|eE rfl<|eL aG σ rfl fun _ yi σ=>eE rfl<|cX 0 σ rfl fun _ σ=>gE 0 σ rfl<|eE rfl<|cS Tryz.call35 (abb (show dK _ Ax cx x from σ.cF) hx hs) rfl ?_
  rintro _ _ ⟨D0,m0,d0,e0,rfl,wk,jF,hl0⟩
  refine ⟨_,rfl,?_⟩
  replace σ:=σ.Mx wk ⟨aL,aN rfl,aN rfl,aN rfl,aN rfl,aN rfl,aN rfl,trivial⟩
  replace σ:=σ.rU (k:=0) (j:=0) rfl rfl hl0
  replace σ:=σ.pick [0,1,2,3,4,5] [0,3,4,5,6,7,8,9,10,11,12,13,14,15] ai
  replace σ:St w0 _ [bk yi #[.bool (neg x),.slice Ax (zl x) cx] 52,bk oo #[bA,bA] 91,bk eZ #[aq 0,aq 0,aq 0,aq 0] 39,bk fo #[.bool false,bA] 52,bk cJ #[.bool (neg y),.slice Ay (zl y) cy] 52,bk bJ #[.bool (neg x),.slice Ax (zl x) cx] 52] [vh D0 m0 d0 e0,jY,jY,BW Ax cx x,BW Ay cy y,bk gm (CQ u) 82,u3 u.Ap u.n u.cp u.ps,jM u.A0 u.n0 u.c0 u.e0,bE u.A1 u.n u.c1 u.e1,jM u.A3 u.n3 u.c3 u.e3,bE u.A4 u.n u.c4 u.e4,jM u.A5 u.n5 u.c5 u.e5,bE u.A6 u.n u.c6 u.e6,rI]:=σ
  exact ir rfl<|kB (b':=false) rfl<|iF rfl rfl<|vE rfl (fun η=>iV (i:=0) (p:=0) η Tryz.underlying91 (aH.size) rfl rfl ae ae)<|eE rfl<|j0 1 σ rfl fun _ σ=>can (i:=0) (j:=1) rfl ae<|dF ⟨1,D0,m0,d0,e0,none,0,0,[],rfl,rfl,σ.pick [1,2,3,4,5] [0,2,3,4,5,6,7,8,9,10,11,12,13] ai,ae,(fun _=>⟨jF,hl0⟩),(fun h=>absurd h ai)⟩ ay ae
 ·obtain ⟨jF,hl0⟩:=H' ai
  replace σ:St w0 _ [bk oo #[.slice D0 m0 d0,bA] 91,bk eZ #[aq 0,aq 0,aq 0,aq 0] 39,bk fo #[.bool false,bA] 52,bk cJ #[.bool (neg y),.slice Ay (zl y) cy] 52,bk bJ #[.bool (neg x),.slice Ax (zl x) cx] 52] [vh D0 m0 d0 e0,jY,BW Ax cx x,BW Ay cy y,bk gm (CQ u) 82,u3 u.Ap u.n u.cp u.ps,jM u.A0 u.n0 u.c0 u.e0,bE u.A1 u.n u.c1 u.e1,jM u.A3 u.n3 u.c3 u.e3,bE u.A4 u.n u.c4 u.e4,jM u.A5 u.n5 u.c5 u.e5,bE u.A6 u.n u.c6 u.e6,rI]:=σ
  refine ei rfl<|kB (b':=true) ai<|iT rfl rfl<|vE rfl (fun η=>Yc (v:=.agg #[.bool (neg y),.slice Ay (zl y) cy]) 1 η Tryz.underlying92 ah rfl rfl ai rfl)<|eE rfl<|eL aG σ rfl fun _ z7 σ=>eE rfl<|cX 0 σ rfl fun _ σ=>gE 0 σ rfl<|eE rfl<|cS Tryz.call35 (abb (show dK _ Ay cy y from σ.eY) hy hs) rfl ?_
  rintro _ _ ⟨D1,m1,d1,e1,rfl,Jc,ld,iQ⟩
  refine ⟨_,rfl,?_⟩
  replace σ:=σ.Mx Jc ⟨aL,aN rfl,aN rfl,aN rfl,aN rfl,aN rfl,aN rfl,trivial⟩
  replace σ:=σ.rU (k:=0) (j:=0) rfl rfl iQ
  replace σ:=σ.pick [0,1,2,3,4,5] [0,3,4,5,6,7,8,9,10,11,12,13,14,15] ai
  replace σ:St w0 _ [bk z7 #[.bool (neg y),.slice Ay (zl y) cy] 52,bk oo #[.slice D0 m0 d0,bA] 91,bk eZ #[aq 0,aq 0,aq 0,aq 0] 39,bk fo #[.bool false,bA] 52,bk cJ #[.bool (neg y),.slice Ay (zl y) cy] 52,bk bJ #[.bool (neg x),.slice Ax (zl x) cx] 52] [vh D1 m1 d1 e1,vh D0 m0 d0 e0,jY,BW Ax cx x,BW Ay cy y,bk gm (CQ u) 82,u3 u.Ap u.n u.cp u.ps,jM u.A0 u.n0 u.c0 u.e0,bE u.A1 u.n u.c1 u.e1,jM u.A3 u.n3 u.c3 u.e3,bE u.A4 u.n u.c4 u.e4,jM u.A5 u.n5 u.c5 u.e5,bE u.A6 u.n u.c6 u.e6,rI]:=σ
  exact ir rfl<|kB (b':=false) rfl<|iF rfl rfl<|vE rfl (fun η=>iV (i:=1) (p:=1) η Tryz.underlying91 (aH.size) rfl rfl ae ae)<|eE rfl<|j0 1 σ rfl fun _ σ=>can (i:=1) (j:=1) rfl ae<|dF ⟨2,D0,m0,d0,e0,D1,m1,d1,e1,rfl,rfl,σ.pick [1,2,3,4,5] [1,0,3,4,5,6,7,8,9,10,11,12,13] ai,ae,(fun h=>⟨jF,hl0⟩),(fun _=>⟨ld,iQ⟩)⟩ ay ae
 ·obtain ⟨jF,hl0⟩:=H' ai
  obtain ⟨ld,iQ⟩:=Kc ai
  replace σ:St w0 _ [bk oo #[.slice D0 m0 d0,.slice D1 m1 d1] 91,bk eZ #[aq 0,aq 0,aq 0,aq 0] 39,bk fo #[.bool false,bA] 52,bk cJ #[.bool (neg y),.slice Ay (zl y) cy] 52,bk bJ #[.bool (neg x),.slice Ax (zl x) cx] 52] [vh D0 m0 d0 e0,vh D1 m1 d1 e1,BW Ax cx x,BW Ay cy y,bk gm (CQ u) 82,u3 u.Ap u.n u.cp u.ps,jM u.A0 u.n0 u.c0 u.e0,bE u.A1 u.n u.c1 u.e1,jM u.A3 u.n3 u.c3 u.e3,bE u.A4 u.n u.c4 u.e4,jM u.A5 u.n5 u.c5 u.e5,bE u.A6 u.n u.c6 u.e6,rI]:=σ
  refine ei rfl<|kB (b':=false) ai<|iF rfl rfl<|?_
  have Bn:m0=(ya s x).length:=by rw [<- hl0,<- jF,aZ]
  have wM:m1=(ya s y).length:=by rw [<- iQ,<- ld,aZ]
  refine vE rfl (fun η=>iV (i:=0) (p:=0) η Tryz.underlying91 (aH.size) rfl rfl ae ae)<|lE 0 σ rfl<|vE rfl (fun η=>iV (i:=1) (p:=1) η Tryz.underlying91 (aH.size) rfl rfl ae ae)<|lE 0 σ rfl<|eE rfl<|cS Tryz.call13 (TN (b:=200) bH σ.jW ⟨σ.nF,σ.uD,σ.pat (k:=7) rfl,σ.pat (k:=8) rfl,σ.pat (k:=9) rfl,σ.pat (k:=10) rfl,σ.pat (k:=11) rfl⟩ (σ.pat (k:=12) rfl) σ.aU σ.bC jF ld ae ae (ER ae hs.2) (ER ae hs.2) ai) rfl ?_
  rintro _ _ ⟨Ap,Np,cp,ep,rfl,hNp,hPp,hzp,ZN,hb⟩
  refine ⟨_,rfl,?_⟩
  replace σ:=(σ.call hb).JX (v:=(Ap,Np,cp,ep)) hPp ZN (fun o ho b gx=>.inl (o.lt (σ.mine o ho) gx)) ⟨aN rfl,aN rfl,aN rfl,aN rfl,aN rfl,trivial⟩
  replace σ:St w0 _ [bk oo #[.slice D0 m0 d0,.slice D1 m1 d1] 91,bk eZ #[aq 0,aq 0,aq 0,aq 0] 39,bk fo #[.bool false,bA] 52,bk cJ #[.bool (neg y),.slice Ay (zl y) cy] 52,bk bJ #[.bool (neg x),.slice Ax (zl x) cx] 52] [vh Ap Np cp ep,vh D0 m0 d0 e0,vh D1 m1 d1 e1,BW Ax cx x,BW Ay cy y,bk gm (CQ u) 82,u3 u.Ap u.n u.cp u.ps,jM u.A0 u.n0 u.c0 u.e0,bE u.A1 u.n u.c1 u.e1,jM u.A3 u.n3 u.c3 u.e3,bE u.A4 u.n u.c4 u.e4,jM u.A5 u.n5 u.c5 u.e5,bE u.A6 u.n u.c6 u.e6,rI]:=σ
  have aoV:=Yn (ya s x) (ya s y)
  rw [hNp] at aoV
  refine eE rfl<|eL dB σ rfl fun _ Bt σ=>eE rfl<|cX 0 σ rfl fun _ σ=>ir rfl<|kB (b':=false) rfl<|iF rfl rfl<|eE rfl<|cS Tryz.call36 (abc σ.aU hzp (aeE hs.1 hs.2 hx) ae hs) rfl ?_
  rintro _ _ ⟨_,rfl,⟨A61,c62,rfl,ai9⟩,hb⟩
  refine ⟨_,rfl,?_⟩
  rw [acw ae] at ai9 ⊢
  replace σ:=(σ.call hb).eO ai9 ⟨aN rfl,aN rfl,aN rfl,aN rfl,aN rfl,aN rfl,trivial⟩
  exact eE rfl<|eL aG σ rfl fun _ NM σ=>eE rfl<|cX 0 σ rfl fun _ σ=>ir rfl<|kB (b':=false) rfl<|iF rfl rfl<|NK [] [1,5,10,14,16] [0,1,2,5,6] [0,1,2,3,4,5,6,7,8,9,10,11,12,13,14] aK σ fun _ σ=>gS 0 rfl<|gS 1 rfl<|eS rfl<|cX 4 σ rfl fun _ σ=>sk (σ.pick [0,1,2,5,6] [0,1,2,3,4,5,6,7,8,9,10,11,12,13,14] ai).kn<|eS rfl<|cX 3 σ rfl fun _ σ=>sk (σ.pick [0,1,2,5,6] [0,1,2,3,4,5,6,7,8,9,10,11,12,13,14] ai).kn<|oR (fun e=>aff Tryz.results17 (RV.cell e ah rfl (σ.nA (k:=4) rfl) rfl) (RV.cell e m7 rfl σ.Dg rfl) (RV.tmp e rfl))<|⟨_,_,_,_,_,rfl,⟨A61,c62,rfl,σ.aU⟩,σ.below⟩
theorem Xn {w0:World} {k1 k2 x y sI t:Int} {A0:Option Addr} {n0 c0:Nat} {es0:List Pt} (hT:ve w0) (hD:iG w0) (h0:(u3 A0 n0 c0 es0).P w0) (hn:n0<=9223372036854775807) (_hx:-9223372036854775808<=x/\x<=9223372036854775807) (_hy:-9223372036854775808<=y/\y<=9223372036854775807):
  Calls Tryz.prog 4 #[aq k1,aq k2,.slice A0 n0 c0,aq x,aq y,aq sI,aq t] w0 fun e w'=>e=.returned (.bool true)/\Below w0.heap.size w0 w':=by
 refine dp Tryz.func4 rfl Tryz.ntmps4 rfl fun σ=>?_
 replace σ:=(σ.j1 hD).iB rI hT fun e he=>by cases he
 have a8:=h0.2.1
 replace σ:=σ.aE h0
 have hmx:=acE x
 have hmy:=acE y
 have hmu:=ao5 hmx hmy
 refine eE rfl<|dx Tryz.call6 (TU σ.bC σ.cF) σ rfl fun _ σ=>iF rfl rfl<|eE rfl<|cS Tryz.call7 (Hq (k1:=k1) (k2:=k2) σ.aU σ.cF ae) rfl ?_
 rintro _ _ ((⟨rfl,hnL,hb⟩|⟨rfl,hL,JR,hb⟩)|⟨u,hL,bH,Ki,Bc,QL,rfl,hSu,iQ,jb,sH,KD,hl5,hl6⟩)
 ·refine ⟨_,rfl,?_⟩
  replace σ:=σ.call hb
  exact eE rfl<|eL cA σ rfl fun _ bJ σ=>eE rfl<|cX 0 σ rfl fun _ σ=>ir rfl<|kB (b':=true) rfl<|iT rfl rfl<|o1 Tryz.results4 rfl<|⟨rfl,σ.below⟩
 ·refine ⟨_,rfl,?_⟩
  replace σ:=σ.call hb
  exact eE rfl<|eL cA σ rfl fun _ cJ σ=>eE rfl<|cX 0 σ rfl fun _ σ=>ir rfl<|kB (b':=true) rfl<|iT rfl rfl<|o1 Tryz.results4 rfl<|⟨rfl,σ.below⟩
 ·refine ⟨_,rfl,?_⟩
  replace σ:=σ.more hSu
  replace σ:=σ.eH (k:=0) rfl bH.len
  replace σ:=σ.eH (k:=0) rfl iQ
  replace σ:=σ.eH (k:=0) rfl jb
  replace σ:=σ.eH (k:=0) rfl sH
  replace σ:=σ.eH (k:=0) rfl KD
  replace σ:=σ.eH (k:=0) rfl hl5
  replace σ:=σ.eH (k:=0) rfl hl6
  replace σ:St w0 _ [] [bE u.A6 u.n u.c6 u.e6,jM u.A5 u.n5 u.c5 u.e5,bE u.A4 u.n u.c4 u.e4,jM u.A3 u.n3 u.c3 u.e3,bE u.A1 u.n u.c1 u.e1,jM u.A0 u.n0 u.c0 u.e0,u3 u.Ap u.n u.cp u.ps,u3 A0 n0 c0 es0,rI,my]:=σ
  refine eE rfl<|eL cA σ rfl fun _ fo σ=>eE rfl<|cX 0 σ rfl fun _ σ=>ir rfl<|kB (b':=false) rfl<|ei rfl<|wD (fun pV=>?_) fun pV=>?_
  ·exact iT rfl rfl<|o1 Tryz.results4 rfl<|⟨rfl,σ.below⟩
  ·refine pd rfl<|wD (fun qx=>?_) fun qx=>?_
   ·exact iT rfl rfl<|o1 Tryz.results4 rfl<|⟨rfl,σ.below⟩
   ·obtain ⟨s,rfl⟩:=dh (show 0<=sI by omega)
    refine iF rfl rfl<|gE 0 σ rfl<|eE rfl<|cS Tryz.call10 (Mw bH ⟨σ.uD,σ.nF,σ.jW,σ.eY,σ.cF,σ.bC,σ.aU⟩) rfl ?_
    rintro _ _ ⟨gm,v,AZ,hpv,Ol,Yo,rfl,hSv,Bn,wM,Ov,hm3,hm4,hm5,hm6⟩
    refine ⟨_,rfl,?_⟩
    replace σ:=σ.more hSv
    replace σ:=σ.uK (k:=0) rfl
    replace σ:=σ.eH (k:=0) rfl Bn
    replace σ:=σ.eH (k:=0) rfl wM
    replace σ:=σ.eH (k:=0) rfl Ov
    replace σ:=σ.eH (k:=0) rfl hm3
    replace σ:=σ.eH (k:=0) rfl hm4
    replace σ:=σ.eH (k:=0) rfl hm5
    replace σ:=σ.eH (k:=0) rfl hm6
    replace σ:St w0 _ [bk fo (CQ u) 30] [bE v.A6 v.n v.c6 v.e6,jM v.A5 v.n5 v.c5 v.e5,bE v.A4 v.n v.c4 v.e4,jM v.A3 v.n3 v.c3 v.e3,bE v.A1 v.n v.c1 v.e1,jM v.A0 v.n0 v.c0 v.e0,u3 v.Ap v.n v.cp v.ps,bk gm (CQ v) 82,bE u.A6 u.n u.c6 u.e6,jM u.A5 u.n5 u.c5 u.e5,bE u.A4 u.n u.c4 u.e4,jM u.A3 u.n3 u.c3 u.e3,bE u.A1 u.n u.c1 u.e1,jM u.A0 u.n0 u.c0 u.e0,u3 u.Ap u.n u.cp u.ps,u3 A0 n0 c0 es0,rI,my]:=σ
    refine ir rfl<|kB (b':=false) rfl<|iF rfl rfl<|vE rfl (fun η=>tu (m:=x) (n:=(2147483648:Int)) η rfl rfl ae rfl)<|vE rfl (fun η=>tu (m:=y) (n:=(2147483648:Int)) η rfl rfl ae rfl)<|eE rfl<|cS Tryz.call18 (yU (n:=(x.tmod (2147483648:Int))) ae ae) rfl ?_
    rintro _ _ ⟨_,rfl,⟨GD,D4,rfl,xI⟩,hb⟩
    refine ⟨_,rfl,?_⟩
    replace σ:=(σ.call hb).eO xI ⟨aN rfl,trivial⟩
    refine eE rfl<|cS Tryz.call18 (yU (n:=(y.tmod (2147483648:Int))) ae ae) rfl ?_
    rintro _ _ ⟨_,rfl,⟨LF,HJ,rfl,adM⟩,hb⟩
    refine ⟨_,rfl,?_⟩
    replace σ:=(σ.call hb).eO adM ⟨aN rfl,trivial⟩
    refine eE rfl<|cS Tryz.call17 (aeG AZ (σ.pat (k:=9) rfl) ⟨σ.pat (k:=8) rfl,σ.pat (k:=7) rfl,σ.uD,σ.nF,σ.jW,σ.eY,σ.cF⟩ (σ.pat (k:=18) rfl) (show dK _ GD D4 (x.tmod (2147483648:Int)) from σ.bC) (show dK _ LF HJ (y.tmod (2147483648:Int)) from σ.aU) (acE x) (acE y) ⟨by omega,by omega⟩) rfl ?_
    rintro _ _ ⟨_,a1,a2,a3,a4,rfl,⟨A62,Wn,rfl,Xr⟩,hb⟩
    refine ⟨_,rfl,?_⟩
    replace σ:=(σ.call hb).eO Xr ⟨aN rfl,trivial⟩
    exact eE rfl<|eL aG σ rfl fun _ Ox σ=>eE rfl<|eL dB σ rfl fun _ Zs σ=>eE rfl<|cX 1 σ rfl fun _ σ=>eE rfl<|cX 0 σ rfl fun _ σ=>gE 1 σ rfl<|eE rfl<|dx Tryz.call19 (Xi (show dK _ A62 Wn ((x.tmod 2147483648)*(y.tmod 2147483648)) from σ.aU) hmu.1 hmu.2) σ rfl fun _ σ=>cZ rfl<|kB (b':=true) rfl<|xC rfl ae<|cZ rfl<|o1 Tryz.results4 rfl<|⟨aM (fun b=>Ending.returned (Value.bool b)) (uh.2 rfl),σ.below⟩
end Go.Proofs.YtgopcdagnicekaaGreatDoor.W

/- TopNumbers over arguments as they come in. By hand. No condition. -/
namespace Go.Proofs.YtgopcdagnicekaaGreatDoor
open Go.RowKit Anv Go.ChangeShapes Go.WideShapes Go.ChangeAt Go.Joins W
theorem Oa {w0:World} {k1 k2 x y s t:Int} {A0:Option Addr} {n0 c0:Nat} {es0:List Pt} (h0:(u3 A0 n0 c0 es0).P w0) (hx:-9223372036854775808<=x/\x<=9223372036854775807) (hy:-9223372036854775808<=y/\y<=9223372036854775807) (hT:ve w0) (hD:iG w0):
  Calls Tryz.prog 4 #[.int .i64 k1,.int .i64 k2,.slice A0 n0 c0,.int .i64 x,.int .i64 y,.int .i64 s,.int .i64 t] w0 fun e w'=>e=.returned (.bool true)/\Below w0.heap.size w0 w':=
 Xn hT hD h0 (by have h1:=bq h0.1.cap h0.1.big; unfold maxLen at h1; omega) hx hy
end Go.Proofs.YtgopcdagnicekaaGreatDoor
