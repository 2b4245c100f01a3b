/- Package order: Pack. Printed by pv/gen_v9.py. No condition. -/
import Derived.Test.YtgopcdagnicekaaGreatDoorM1
import Derived.Test.YtgopcdagnicekaaGreatDoorM12
import Derived.Test.YtgopcdagnicekaaGreatDoorM43
import Derived.Test.YtgopcdagnicekaaGreatDoorM44
import Derived.Test.YtgopcdagnicekaaGreatDoorM31

set_option linter.unusedVariables false
set_option linter.unusedSimpArgs false
set_option linter.all false
set_option maxRecDepth 100000
set_option maxHeartbeats 2000000
namespace Go.Proofs.YtgopcdagnicekaaGreatDoor.W
open Go.RowKit Anv Go.Lib
def OA (u:List Int) (v:Nat):List Bool:=(List.range v).map fun v=>decide (gi u (v:Nat)<0)
def LS (v:Nat):List Int:=(List.range v).map fun v=>((v:Nat):Int)
theorem LU (u:List Int) (v:Nat):(OA u v).length=v:=by simp [OA]
theorem Ed (v:Nat):(LS v).length=v:=by simp [LS]
theorem AN {u:List Int} {v:Nat} {x:Int} (h:u[v]?=some x):OA u v++[decide (x<0)]=OA u (v+1):=by unfold OA; rw [vB,je,List.map_singleton,nw h]
theorem SB (v:Nat):LS v++[((v:Nat):Int)]=LS (v+1):=by unfold LS; rw [vB,je,List.map_singleton]
theorem D'.nil:D' [] (LS 0):=⟨fun v h=>absurd h (ks _),fun _ _=>rfl⟩
theorem D'.step {lm:List (Int×Int)} {v:Nat} (h:D' lm (LS v)):D' (lm++[(((v:Nat):Int),((v:Nat):Int))]) (LS (v+1)):=by
 have:=h.add ((v:Nat):Int)
 rw [Ed,SB] at this
 exact this
theorem D'.no {lm:List (Int×Int)} {v:Nat} (h:D' lm (LS v)):rC ((v:Nat):Int) lm=false:=h.2 v (by rw [Ed]; exact aY _)
theorem acW {x:Int} {l:List (Int×Int)} (h:rC x l=false):EI x l=0:=by
 unfold rC at h; unfold EI
 cases hf:yo x l 0 with
 | none=>rfl
 | some q=>rw [hf] at h; cases h
theorem D'.gap {lm:List (Int×Int)} {at_:List Int} (h:D' lm at_):D' lm (at_++[0]):=by
 refine ⟨fun v hv=>?_,fun v hv=>?_⟩
 ·rw [aP,dG] at hv
  rcases dr v at_.length with c | c
  ·rw [h.1 v c,Sl c]
  ·obtain rfl:v=at_.length:=ae
   rw [acW (h.2 _ (aY _)),Sm]
 ·rw [aP,dG] at hv
  exact h.2 v ae
theorem LV {i:Nat} {u:List Int} (h:0<=gi u i):sC i u=⟨LS i++[((i:Nat):Int)],OA u i++[false]⟩:=by unfold sC LS OA; rw [aR h,aR h]
theorem LW {i:Nat} {u:List Int} (h:¬0<=gi u i):sC i u=⟨LS i++[0],OA u i⟩:=by unfold sC LS OA; rw [aQ h,aQ h,fv]
def arN (a b j:Nat):Nat:=if j=0 then a else b
theorem SC (a b j:Nat):qw ((a:Nat):Int) ((b:Nat):Int) j=((arN a b j:Nat):Int):=by unfold qw arN; split<;>rfl
def jw (u:List Int) (k:Nat) (p:Pk) (a b:Nat) (j:Nat):Pk:=if j=0 then p else if j=1 then ew u k p (a:Nat) else ew u k (ew u k p (a:Nat)) (b:Nat)
theorem si {u:List Int} {k:Nat} {p:Pk} {a b j:Nat} (h:j<2):jw u k p a b (j+1)=ew u k (jw u k p a b j) (arN a b j:Nat):=by
 rcases (show j=0∨j=1 by omega) with rfl | rfl<;>rfl
theorem j5 (u:List Int) (k:Nat) (p:Pk) (a b j:Nat):(jw u k p a b j).at_=p.at_/\(jw u k p a b j).free.length=p.free.length:=by
 unfold jw
 split
 ·exact ⟨rfl,rfl⟩
 ·split
  ·exact mH ..
  ·exact ⟨(mH ..).1.trans (mH ..).1,(mH ..).2.trans (mH ..).2⟩
theorem SD {u:List Int} {k:Nat} {p:Pk} {a b j:Nat} (h:Sx p):Sx (jw u k p a b j):=by
 unfold jw
 split
 ·exact h
 ·split
  ·exact AM h
  ·exact AM (AM h)
theorem LX (p:Pk):(fq p).1<=(p.free.length:Int):=by
 obtain ⟨rn,h1,h2,_⟩:=xX p
 omega
theorem ahn {p:Pk} (h:Sx p) {v:Nat} (hv:v<p.at_.length):∃x:Nat,gi p.at_ ((v:Nat):Int)=((x:Nat):Int)/\x<p.free.length:=by
 have hx:p.at_[v]?=some p.at_[v]:=aw hv
 have hb:=h _ (aB hx)
 obtain ⟨x,e⟩:=dh hb.1
 exact ⟨x,(nw hx).trans e,by omega⟩
theorem Zu {i g:Nat} {es:List IE} {os:List Int} (iI:∀e∈es,cN e g) (ho:∀r∈os,0<=r/\r<g):∀x∈iD i g es os,0<=x/\x<((i+1+es.length:Nat):Int):=fun x hx=>by
 obtain ⟨r,hr,rfl⟩:=ff.1 hx
 have hh:=uN (i:=i) iI (gK i g) (fun r h0 h1=>by rw [nr h0 h1]; omega) es.length (aY _) r (ho r hr).1 (ho r hr).2
 rw [bD (aY _)] at hh
 omega
theorem LY {w0:World} {i g:Nat} {A0 A1:Option Addr} {n0 c0 n1 c1:Nat} {es0:List IE} {es1:List Int} (h0:(jM A0 n0 c0 es0).P w0) (h1:(bE A1 n1 c1 es1).P w0) (bH:jc (i:Nat) (g:Nat) n0 n1 es0 es1) (n8:(gG es1 es0).1=List.replicate n0 true):
  Calls Tryz.prog 92 #[.agg (u4 i g A0 n0 c0 A1 n1 c1)] w0 fun e w'=>∃A c B d,e=.returned (.tuple #[.agg #[ak i,ak (nQ i g es0 es1),.slice A n0 c,.slice B n1 d],aq 0])/\St w0 w' [aad A n0 c (zE i g es0 es1),aab B n1 d (mi i g es0 es1)] []:=by
 have q1:=bH.i1
 have q2:=bH.ln
 have EC:=(YT bH.may bH.out (i:=i)).2
 refine dp Tryz.func92 rfl Tryz.ntmps92 rfl fun σ=>?_
 have a8:=h0.2.1
 have ic:=h0.1.cap
 have bW:=h0.1.big
 unfold maxLen at bW
 have cY:=h1.2.1
 have kY:=h1.1.cap
 have eC:=h1.1.big
 unfold maxLen at eC
 replace σ:=σ.aE h0
 replace σ:=σ.aE h1
 refine eE rfl<|gN σ rfl fun _ bJ σ=>eE rfl<|eL bf σ rfl fun _ cJ σ=>gE 1 σ rfl<|eE rfl<|cS Tryz.call141 (Su σ.bC σ.aU bH n8) rfl ?_
 rintro _ _ ⟨gL,An,cn,ga,gb,gs,B,d,Au,cu,rfl,hSl⟩
 refine ⟨_,rfl,?_⟩
 replace σ:=σ.more hSl
 refine ir rfl<|kB (b':=false) rfl<|iF rfl rfl<|eE rfl<|mmE xH σ rfl fun _ fo σ=>vE rfl (fun η=>cK (c:=#[.map (some fo),bA]) qF η rfl rfl)<|eE rfl<|gN σ rfl fun _ eZ σ=>?_
 replace σ:=(σ.cl ar 4 1)
 replace σ:=(σ.pick [1,0,2,3,4,5,6,7,8,9,10,11] [0,1] ai).pack 3
 refine lE 9 σ rfl<|fX (fun mz l w=>∃v:Nat,∃A5:Option Addr,∃c5:Nat,∃lm:List (Int×Int),i - v=mz/\l=[(30,ak v),(1,bB bJ),(2,bB cJ),(4,bB gL),(6,bB eZ),(29,ak i)]/\St w0 w [Oz eZ fo A5 v c5 (OA (fC i g es0 es1) v) lm,bk gL #[ak i,ak g,.slice A0 n0 c0,.slice A1 n1 c1,.slice An n0 cn,.slice (bh ga) n0 n0,.slice (bh gb) n0 n0,.slice (bh gs) n0 n0,.slice B n1 d,.slice Au (i+1+n0) cu] 230,aal An n0 cn (List.replicate n0 true),aab (bh ga) n0 n0 ((iY i (bu i g) 0 es0).map Prod.fst),aab (bh gb) n0 n0 ((iY i (bu i g) 0 es0).map Prod.snd),aab (bh gs) n0 n0 (EK i n0),aab B n1 d (iD i g es0 es1),aab Au (i+1+n0) cu (fC i g es0 es1),bk cJ #[aq 0,aq 0,bA,bA] 28,bk bJ (u4 i g A0 n0 c0 A1 n1 c1) 28] [bE A1 n1 c1 es1,jM A0 n0 c0 es0]/\v<=i/\D' lm (LS v)) ⟨0,none,0,[],rfl,rfl,σ,(bm _),D'.nil⟩ ay ?_
 rintro _ _ _ ⟨v,A5,c5,lm,rfl,rfl,σ,hv,hP⟩
 refine ei rfl<|wD (fun qx=>?_) fun qx=>?_
 ·have cD:v<i:=ae
  obtain ⟨uv,huv⟩:∃e,(fC i g es0 es1)[v]?=some e:=⟨_,aw (by rw [EC]; omega)⟩
  refine iT rfl rfl<|lE 1 σ rfl<|vE rfl (fun η=>az (i:=v) η Tryz.underlying26 (aD.size) rfl rfl ae rfl (ax σ.tx))<|cE rfl (fun η=>aJ (i:=v) (j:=0) (e:=uv) η aD rfl rfl bn ai (ax σ.tx) ae huv rfl)<|eE rfl<|cS Tryz.call142 (So (σ.bO (k:=0) rfl []) (LU _ _) ae hP.no) rfl ?_
  rintro _ _ ⟨GD,D4,rfl,acj⟩
  refine ⟨_,rfl,?_⟩
  replace σ:=σ.j4 (k:=0) rfl acj
  rw [AN huv] at σ
  exact can (j:=1) rfl ae<|dF ⟨v+1,GD,D4,(lm++[(((v:Nat):Int),((v:Nat):Int))]),rfl,rfl,σ,ae,hP.step⟩ ay ae
 ·obtain rfl:i=v:=ae
  obtain ⟨ui,hui⟩:∃e,(fC i g es0 es1)[i]?=some e:=⟨_,aw (by rw [EC]; omega)⟩
  refine iF rfl rfl<|gY [] [0,4,8,13,16,21,24,29,32] aK σ fun _ σ=>lS 1 rfl<|lS 9 rfl<|vE rfl (fun η=>az (i:=i) η Tryz.underlying26 (aD.size) rfl rfl ae rfl (ax σ.tx))<|sE rfl (fun η hg=>aJ (i:=i) (j:=0) (e:=ui) η aD rfl rfl bn ai (ax (hg.ow (j:=7) rfl)) ae hui rfl)<|xd rfl<|wD (fun u6=>?_) fun u6=>?_
  ·have vG:0<=gi (fC i g es0 es1) i:=by rw [nw hui]; exact u6
   refine iT rfl rfl<|NK [] [0,4,9,12,16,20,25,28,33,36,41,46] [1,2,3,4,5,6,7,8,9] [0,1] aK σ fun _ σ=>lS 8 rfl<|lS 0 rfl<|lS 8 rfl<|vE rfl (fun η=>az (i:=i) η Tryz.underlying26 (aD.size) rfl rfl ae rfl (ax σ.tx))<|sE rfl (fun η hg=>aJ (i:=i) (j:=0) (e:=ui) η aD rfl rfl bn ai (ax (hg.ow (j:=6) rfl)) ae hui rfl)<|eS rfl<|cS Tryz.call142 (So (σ.bO (k:=0) rfl []) (LU _ _) ae hP.no) rfl ?_
   rintro _ _ ⟨As,uc,rfl,wm⟩
   refine ⟨_,rfl,?_⟩
   replace σ:=σ.j4 (k:=0) rfl wm
   rw [AN hui] at σ
   refine sk (σ.pick [1,2,3,4,5,6,7,8,9] [0,1] ai).kn<|Wc 0 (fun l w=>∃g8:Nat,∃A6:Option Addr,∃n:Nat,∃c6:Nat,∃W5:List (Int×Int),l=[(8,bB g8),(1,bB bJ),(2,bB cJ),(4,bB gL),(6,bB eZ)]/\St w0 w [bk g8 (u4 i n none 0 0 none 0 0) 28,Oz eZ fo A6 n c6 ((sC i (fC i g es0 es1)).free) W5,bk gL #[ak i,ak g,.slice A0 n0 c0,.slice A1 n1 c1,.slice An n0 cn,.slice (bh ga) n0 n0,.slice (bh gb) n0 n0,.slice (bh gs) n0 n0,.slice B n1 d,.slice Au (i+1+n0) cu] 230,aal An n0 cn (List.replicate n0 true),aab (bh ga) n0 n0 ((iY i (bu i g) 0 es0).map Prod.fst),aab (bh gb) n0 n0 ((iY i (bu i g) 0 es0).map Prod.snd),aab (bh gs) n0 n0 (EK i n0),aab B n1 d (iD i g es0 es1),aab Au (i+1+n0) cu (fC i g es0 es1),bk cJ #[aq 0,aq 0,bA,bA] 28,bk bJ (u4 i g A0 n0 c0 A1 n1 c1) 28] [bE A1 n1 c1 es1,jM A0 n0 c0 es0]/\D' W5 (sC i (fC i g es0 es1)).at_/\(sC i (fC i g es0 es1)).free.length=n/\i<=n/\n<=i+1) rfl ?_ ?_
   ·replace σ:=σ.unpack
    refine gY [12] [0,5,8,13,16,20,24,29,32,36,40,46,50] aK σ fun _ σ=>lS 11 rfl<|lS 11 rfl<|lS 0 rfl<|vE rfl (fun η=>rZ η rfl rfl)<|vE rfl (fun η=>cK (c:=#[ak i,ak (max i (i+1)),bA,bA]) eM η rfl rfl)<|eS rfl<|eL bf σ rfl fun _ WD σ=>sk (σ.kd 1 0)<|eS rfl<|cX 0 σ rfl fun _ σ=>sz rfl<|?_
    replace σ:=(σ.pick [1,2,3,0,4,5,6,7,8,9,10,11,12] [0,1] ai).pack 3
    rw [show max i (i+1)=(i+1) by omega] at σ
    rw [show (OA (fC i g es0 es1) (i+1))=(sC i (fC i g es0 es1)).free from by rw [LV vG,<- AN hui,bR ae]] at σ
    exact xf ⟨WD,As,(i+1),uc,(lm++[(((i:Nat):Int),((i:Nat):Int))]),rfl,σ.pick [1,0,2,3,4,5,6,7,8,9,10] [0,1] ai,(by rw [LV vG]; have:=hP.add ((i:Nat):Int); rw [Ed] at this; exact this),(by rw [uP]; exact aR vG),ae,ae⟩ ay
   rintro _ _ ⟨g8,A6,n,c6,W5,rfl,σ,hP,T8,km,hni⟩
   refine lE 10 σ rfl<|?_
   replace σ:=(σ.pick [1,0,2,3,4,5,6,7,8,9,10] [0,1] ai).unpack
   replace σ:=(σ.cl ar 116 5)
   refine fX (fun mz l w=>∃k:Nat,∃p:Pk,∃GX:List IE,∃n7:Nat,∃A7:Option Addr,∃c7:Nat,∃AO:List (Int×Int),∃A8:Option Addr,∃c8:Nat,n0 - k=mz/\l=[(79,ak k),(2,bB cJ),(4,bB gL),(6,bB eZ),(8,bB g8),(77,.slice A0 n0 c0),(78,ak n0)]/\St w0 w [bk g8 (u4 i n7 A8 k c8 none 0 0) 28,aad A8 k c8 GX,bk eZ #[.map (some fo),.slice A7 n7 c7] 227,aal A7 n7 c7 p.free,qG xH fo AO,bk gL #[ak i,ak g,.slice A0 n0 c0,.slice A1 n1 c1,.slice An n0 cn,.slice (bh ga) n0 n0,.slice (bh gb) n0 n0,.slice (bh gs) n0 n0,.slice B n1 d,.slice Au (i+1+n0) cu] 230,aal An n0 cn (List.replicate n0 true),aab (bh ga) n0 n0 ((iY i (bu i g) 0 es0).map Prod.fst),aab (bh gb) n0 n0 ((iY i (bu i g) 0 es0).map Prod.snd),aab (bh gs) n0 n0 (EK i n0),aab B n1 d (iD i g es0 es1),aab Au (i+1+n0) cu (fC i g es0 es1),bk cJ #[aq 0,aq 0,bA,bA] 28,bk bJ (u4 i g A0 n0 c0 A1 n1 c1) 28] [bE A1 n1 c1 es1,jM A0 n0 c0 es0]/\k<=n0/\Sx p/\p.at_.length=i+1+k/\D' AO p.at_/\p.free.length=n7/\i<=n7/\n7<=i+1+k/\GX.length=k/\(iZ (fC i g es0 es1) k p (es0.drop k) ((iY i (bu i g) 0 es0).drop k)).1=(Ck i g es0 es1).1/\GX++(iZ (fC i g es0 es1) k p (es0.drop k) ((iY i (bu i g) 0 es0).drop k)).2=zE i g es0 es1) ⟨0,(sC i (fC i g es0 es1)),[],n,A6,c6,W5,none,0,rfl,rfl,σ.pick [4,0,1,2,3,5,6,7,8,9,10,11,12,13] [0,1] ai,(bm _),(Zt ae),(SA i _),hP,T8,km,hni,rfl,rfl,rfl⟩ ay ?_
   rintro _ _ _ ⟨k,p,GX,n7,A7,c7,AO,A8,c8,rfl,rfl,σ,hk,hB8,KY,NO,Jv,amX,amY,he8,vR,BB⟩
   refine ei rfl<|wD (fun HN=>?_) fun HN=>?_
   ·have cD:k<n0:=ae
    obtain ⟨⟨op,D9,xy,vn,BA⟩,b5⟩:∃e,es0[k]?=some e:=⟨_,aw ae⟩
    have hM:=bH.may _ (aB b5)
    have xi:=hM
    unfold cN at xi
    dsimp only at xi
    obtain ⟨⟨va0,vb0⟩,wJ⟩:∃q,(iY i (bu i g) 0 es0)[k]?=some q:=⟨_,aw (by rw [gj]; omega)⟩
    have Oo:=rq bH.may _ _ wJ
    dsimp only at Oo
    obtain ⟨va,rfl⟩:=dh Oo.1.1
    obtain ⟨vb,rfl⟩:=dh Oo.2.1
    have W4:((iY i (bu i g) 0 es0).map Prod.fst)[k]?=some ((va:Nat):Int):=by rw [bo,wJ]; rfl
    have Sw:((iY i (bu i g) 0 es0).map Prod.snd)[k]?=some ((vb:Nat):Int):=by rw [bo,wJ]; rfl
    refine iT rfl rfl<|vE rfl (fun η=>az (i:=k) η Tryz.underlying25 (an.size) rfl rfl ae rfl σ.bC.1)<|cE rfl (fun η=>bF (v:=#[aq op,aq D9,aq xy,aq vn,aq BA]) (i:=k) (e:=(op,D9,xy,vn,BA)) η an rfl rfl iR σ.bC.1 ae b5 rfl)<|eE rfl<|eL aI σ rfl fun _ Ox σ=>eE rfl<|cX 0 σ rfl fun _ σ=>lE 6 σ rfl<|vE rfl (fun η=>az (i:=k) η Tryz.underlying219 (bQ.size) rfl rfl ae rfl (ax σ.tx))<|cE rfl (fun η=>aJ (i:=k) (j:=0) (e:=true) η bQ rfl rfl fi ai (ax σ.tx) ae (Ju cD) rfl)<|iF rfl rfl<|gE 0 σ rfl<|eE rfl<|cS Tryz.call121 (mB (op:=op) (tr:=D9) (ra:=xy) (rb:=vn) (cn:=BA) ae) rfl ?_
    rintro _ _ ⟨Wt,RE,n68,rfl,DY,Rv⟩
    refine ⟨_,rfl,?_⟩
    replace σ:=σ.more DY
    have abF:=kJ op xy vn
    refine pd rfl<|gY [13] [0,4,8,13,16,20,24,29,32,36,41,45,48,54] aK σ fun _ σ=>lS 4 rfl<|lS 7 rfl<|vE rfl (fun η=>az (i:=k) η Tryz.underlying26 (aD.size) rfl rfl ae rfl (ax (σ.owns (k:=9) rfl)))<|sE rfl (fun η hg=>aJ (i:=k) (j:=0) (e:=((va:Nat):Int)) η aD rfl rfl bn ai (ax (hg.ow (j:=9) rfl)) ae W4 rfl)<|sE rfl (fun η hg=>jD (lm:=AO) (x:=((va:Nat):Int)) false η AL Tryz.underlying225 fj rfl rfl (hg.ow (j:=6) rfl))<|Lv (aM (Value.int .i64) (NO.1 va ae))<|eS rfl<|j0 1 σ rfl fun _ σ=>sz rfl<|Wc 0 (fun l w=>∃Jw:Int,l=[(2,bB cJ),(4,bB gL),(6,bB eZ),(8,bB g8),(9,ak k),(10,bB Ox),(77,.slice A0 n0 c0),(78,ak n0),(79,ak k)]/\St w0 w [bk Ox #[aq op,aq D9,aq (gi p.at_ ((va:Nat):Int)),aq Jw,aq BA] 116,bk g8 (u4 i n7 A8 k c8 none 0 0) 28,aad A8 k c8 GX,bk eZ #[.map (some fo),.slice A7 n7 c7] 227,aal A7 n7 c7 p.free,qG xH fo AO,bk gL #[ak i,ak g,.slice A0 n0 c0,.slice A1 n1 c1,.slice An n0 cn,.slice (bh ga) n0 n0,.slice (bh gb) n0 n0,.slice (bh gs) n0 n0,.slice B n1 d,.slice Au (i+1+n0) cu] 230,aal An n0 cn (List.replicate n0 true),aab (bh ga) n0 n0 ((iY i (bu i g) 0 es0).map Prod.fst),aab (bh gb) n0 n0 ((iY i (bu i g) 0 es0).map Prod.snd),aab (bh gs) n0 n0 (EK i n0),aab B n1 d (iD i g es0 es1),aab Au (i+1+n0) cu (fC i g es0 es1),bk cJ #[aq 0,aq 0,bA,bA] 28,bk bJ (u4 i g A0 n0 c0 A1 n1 c1) 28] [bE A1 n1 c1 es1,jM A0 n0 c0 es0]/\Jw=if op=3∨op=4 then gi p.at_ ((vb:Nat):Int) else vn) rfl ?_ ?_
    ·refine dE rfl (fun h72=>?_) fun h72=>?_
     ·have Jy:(op=3∨op=4)↔1<n68:=by rw [<- Rv]; unfold cP; split<;>(try split)<;>simp_all
      exact gY [13] [0,4,8,13,16,20,24,29,32,36,41,45,48,54] aK σ fun _ σ=>lS 4 rfl<|lS 7 rfl<|vE rfl (fun η=>az (i:=k) η Tryz.underlying26 (aD.size) rfl rfl ae rfl (ax (σ.owns (k:=10) rfl)))<|sE rfl (fun η hg=>aJ (i:=k) (j:=0) (e:=((vb:Nat):Int)) η aD rfl rfl bn ai (ax (hg.ow (j:=10) rfl)) ae Sw rfl)<|sE rfl (fun η hg=>jD (lm:=AO) (x:=((vb:Nat):Int)) false η AL Tryz.underlying225 fj rfl rfl (hg.ow (j:=6) rfl))<|Lv (aM (Value.int .i64) (NO.1 vb ae))<|eS rfl<|j0 1 σ rfl fun _ σ=>sz rfl<|xf ⟨(gi p.at_ ((vb:Nat):Int)),rfl,σ.pick [1,2,3,4,5,6,7,8,9,10,11,12,13,14,15] [0,1] ai,(by rw [aR (Jy.2 ae)])⟩ ay
     ·have Jy:(op=3∨op=4)↔1<n68:=by rw [<- Rv]; unfold cP; split<;>(try split)<;>simp_all
      exact xf ⟨vn,rfl,σ.pick [1,2,3,4,5,6,7,8,9,10,11,12,13,14,15] [0,1] ai,(by rw [aQ (fun q=>by have:=Jy.1 q; omega)])⟩ ay
    rintro _ _ ⟨Jw,rfl,σ,UX⟩
    refine gY [] [0,4,8,13,16,20,25,28,32,36,41,44,48,53,56,60] aK σ fun _ σ=>lS 6 rfl<|vE rfl (fun η=>az (i:=k) η Tryz.underlying26 (aD.size) rfl rfl ae rfl (ax (σ.owns (k:=8) rfl)))<|sE rfl (fun η hg=>aJ (i:=k) (j:=0) (e:=((va:Nat):Int)) η aD rfl rfl bn ai (ax (hg.ow (j:=8) rfl)) ae W4 rfl)<|lS 6 rfl<|vE rfl (fun η=>az (i:=k) η Tryz.underlying26 (aD.size) rfl rfl ae rfl (ax (σ.owns (k:=9) rfl)))<|sE rfl (fun η hg=>aJ (i:=k) (j:=0) (e:=((vb:Nat):Int)) η aD rfl rfl bn ai (ax (hg.ow (j:=9) rfl)) ae Sw rfl)<|vE rfl (fun η=>uQ η Tryz.underlying231 (aD.size) lM rfl rfl)<|?_
    rw [show p.free=(jw (fC i g es0 es1) k p va vb 0).free from rfl] at σ
    refine fX (fun mz l w=>∃tj:Nat,2 - tj=mz/\l=[(138,ak tj),(2,bB cJ),(4,bB gL),(6,bB eZ),(8,bB g8),(9,ak k),(10,bB Ox),(77,.slice A0 n0 c0),(78,ak n0),(79,ak k),(137,.agg #[ak va,ak vb])]/\St w0 w [bk Ox #[aq op,aq D9,aq (gi p.at_ ((va:Nat):Int)),aq Jw,aq BA] 116,bk g8 (u4 i n7 A8 k c8 none 0 0) 28,aad A8 k c8 GX,bk eZ #[.map (some fo),.slice A7 n7 c7] 227,aal A7 n7 c7 ((jw (fC i g es0 es1) k p va vb tj).free),qG xH fo AO,bk gL #[ak i,ak g,.slice A0 n0 c0,.slice A1 n1 c1,.slice An n0 cn,.slice (bh ga) n0 n0,.slice (bh gb) n0 n0,.slice (bh gs) n0 n0,.slice B n1 d,.slice Au (i+1+n0) cu] 230,aal An n0 cn (List.replicate n0 true),aab (bh ga) n0 n0 ((iY i (bu i g) 0 es0).map Prod.fst),aab (bh gb) n0 n0 ((iY i (bu i g) 0 es0).map Prod.snd),aab (bh gs) n0 n0 (EK i n0),aab B n1 d (iD i g es0 es1),aab Au (i+1+n0) cu (fC i g es0 es1),bk cJ #[aq 0,aq 0,bA,bA] 28,bk bJ (u4 i g A0 n0 c0 A1 n1 c1) 28] [bE A1 n1 c1 es1,jM A0 n0 c0 es0]/\tj<=2) ⟨0,rfl,rfl,σ,(bm _)⟩ ay ?_
    rintro _ _ _ ⟨tj,rfl,rfl,σ,ht⟩
    refine ei rfl<|wD (fun h73=>?_) fun h73=>?_
    ·have Dj:tj<2:=ae
     obtain ⟨v9,NP⟩:∃v,v=arN va vb tj:=⟨_,rfl⟩
     have hvb:v9<i+1+k:=by rw [NP]; unfold arN; split<;>omega
     have acY:=σ
     obtain ⟨uw,huw⟩:∃e,(fC i g es0 es1)[v9]?=some e:=⟨_,aw (by rw [EC]; omega)⟩
     refine iT rfl rfl<|vE rfl (fun η=>oJ (m:=((va:Nat):Int)) (n:=((vb:Nat):Int)) (j:=tj) η Tryz.underlying231 aD rfl rfl ae)<|Lv (aM (Value.int .i64) ((SC va vb tj).trans (aM (fun x:Nat=>((x:Nat):Int)) NP.symm)))<|lE 6 σ rfl<|vE rfl (fun η=>az (i:=v9) η Tryz.underlying26 (aD.size) rfl rfl ae rfl (ax (σ.owns (k:=12) rfl)))<|cE rfl (fun η=>aJ (i:=v9) (j:=0) (e:=uw) η aD rfl rfl bn ai (ax (σ.owns (k:=12) rfl)) ae huw rfl)<|cZ rfl<|wQ (fun Us=>?_) fun Us=>?_
     ·obtain ⟨x9,OB,hx8⟩:=ahn hB8 (v:=v9) ae
      refine iT rfl rfl<|gY [11] [0,4,8,13,16,20,24,29,32,37,40,46] aK σ fun _ σ=>lS 3 rfl<|lS 3 rfl<|sE rfl (fun η hg=>jD (lm:=AO) (x:=((v9:Nat):Int)) false η AL Tryz.underlying225 fj rfl rfl (hg.ow (j:=5) rfl))<|Lv (aM (Value.int .i64) (NO.1 v9 ae))<|Lv (aM (Value.int .i64) OB)<|vE rfl (fun η=>az (i:=x9) η Tryz.underlying219 (bQ.size) rfl rfl ae rfl (ax σ.Bl))<|eS rfl<|qI 4 x9 (e1:=true) fi σ rfl rfl ae ((j5 ..).2.trans Jv) fun _ σ=>sz rfl<|can (j:=1) rfl ae<|?_
      rw [show (((jw (fC i g es0 es1) k p va vb tj).free).set x9 true)=(jw (fC i g es0 es1) k p va vb (tj+1)).free from by rw [si Dj,<- NP]; unfold ew; rw [aR (by rw [nw huw]; exact Us),(j5 ..).1,OB]; rfl] at σ
      exact dF ⟨tj+1,rfl,rfl,σ,ae⟩ ay ae
     ·refine iF rfl rfl<|can (j:=1) rfl ae<|?_
      rw [show (jw (fC i g es0 es1) k p va vb tj).free=(jw (fC i g es0 es1) k p va vb (tj+1)).free from by rw [si Dj,<- NP]; unfold ew; rw [aQ (by rw [nw huw]; exact Us)]] at σ
      exact dF ⟨tj+1,rfl,rfl,σ,ae⟩ ay ae
    ·obtain rfl:tj=2:=ae
     refine iF rfl rfl<|?_
     replace σ:=(σ.pick [3,4,5,0,1,2,6,7,8,9,10,11,12,13,14] [0,1] ai).pack 3
     refine lE 4 σ rfl<|vE rfl (fun η=>az (i:=k) η Tryz.underlying26 (aD.size) rfl rfl ae rfl (ax (σ.owns (k:=8) rfl)))<|cE rfl (fun η=>aJ (i:=k) (j:=0) (e:=((i+1+k:Nat):Int)) η aD rfl rfl bn ai (ax (σ.owns (k:=8) rfl)) ae (Eb cD) rfl)<|eE rfl<|cS Tryz.call143 (LQ (p:=(jw (fC i g es0 es1) k p va vb 2)) (σ.bO (k:=0) rfl []) ((j5 ..).2.trans Jv) ae (NO.2 _ ae)) rfl ?_
     rintro _ _ ⟨A75,n76,c77,rfl,Je,ac1⟩
     refine ⟨_,rfl,?_⟩
     replace σ:=σ.j4 (k:=0) rfl Je
     have hg9:=Sy (SD (a:=va) (b:=vb) (j:=2) (u:=(fC i g es0 es1)) (k:=k) hB8)
     have hg8:=LX (jw (fC i g es0 es1) k p va vb 2)
     have hg7:=(j5 (fC i g es0 es1) k p va vb 2).2
     replace σ:=σ.unpack
     exact eE rfl<|j0 3 σ rfl fun _ σ=>lE 4 σ rfl<|gE 3 σ rfl<|eE rfl<|lr (z:=5) #[aq op,aq ((fq (jw (fC i g es0 es1) k p va vb 2)).1),aq (gi p.at_ ((va:Nat):Int)),aq Jw,aq BA] σ (an.size) aI rfl aK fun _ g79 σ=>eE rfl<|pT (new:=[(op,(fq (jw (fC i g es0 es1) k p va vb 2)).1,(gi p.at_ ((va:Nat):Int)),Jw,BA)]) 6 0 σ bT rfl (by unfold maxLen; omega) ae fun _ g80 c81 σ=>eE rfl<|j0 5 σ rfl fun _ σ=>lE 5 σ rfl<|lE 4 σ rfl<|Rf rfl ae<|vE rfl (fun η=>rY η rfl rfl)<|Lv (aM (Value.int .i64) (show _=((n76:Nat):Int) by omega))<|eE rfl<|j0 5 σ rfl fun _ σ=>can (j:=1) rfl ae<|dF ⟨k+1,(fq (jw (fC i g es0 es1) k p va vb 2)).2,(GX++[(op,(fq (jw (fC i g es0 es1) k p va vb 2)).1,(gi p.at_ ((va:Nat):Int)),Jw,BA)]),n76,A75,c77,(AO++[(((i+1+k:Nat):Int),(fq (jw (fC i g es0 es1) k p va vb 2)).1)]),(bh g80),c81,rfl,rfl,σ.pick [5,6,1,2,3,7,8,9,10,11,12,13,14,15] [0,1] ai,ae,hg9.1,(by rw [hg9.2.1,aP,(j5 ..).1,KY]; rfl),(by rw [hg9.2.1,(j5 ..).1]; have:=NO.add (fq (jw (fC i g es0 es1) k p va vb 2)).1; rw [KY] at this; exact this),ac1,ae,ae,(by rw [aP,he8]; rfl),(by rw [u9 b5 wJ] at vR; exact vR),(by rw [UX,cG]; rw [u9 b5 wJ] at BB; exact BB)⟩ ay ae
   ·obtain rfl:n0=k:=ae
    rw [CD ae] at vR BB
    rw [fv] at BB
    dsimp only at vR
    have hOB:=Zu bH.may bH.out (i:=i)
    refine iF rfl rfl<|lE 5 σ rfl<|?_
    replace σ:=(σ.cl ar 3 1)
    refine fX (fun mz l w=>∃wi:Nat,∃B9:Option Addr,∃d9:Nat,n1 - wi=mz/\l=[(191,ak wi),(2,bB cJ),(6,bB eZ),(8,bB g8),(189,.slice B n1 d),(190,ak n1)]/\St w0 w [bk g8 (u4 i n7 A8 n0 c8 B9 wi d9) 28,aab B9 wi d9 ((mi i g es0 es1).take wi),aad A8 n0 c8 GX,bk eZ #[.map (some fo),.slice A7 n7 c7] 227,aal A7 n7 c7 p.free,qG xH fo AO,bk gL #[ak i,ak g,.slice A0 n0 c0,.slice A1 n1 c1,.slice An n0 cn,.slice (bh ga) n0 n0,.slice (bh gb) n0 n0,.slice (bh gs) n0 n0,.slice B n1 d,.slice Au (i+1+n0) cu] 230,aal An n0 cn (List.replicate n0 true),aab (bh ga) n0 n0 ((iY i (bu i g) 0 es0).map Prod.fst),aab (bh gb) n0 n0 ((iY i (bu i g) 0 es0).map Prod.snd),aab (bh gs) n0 n0 (EK i n0),aab B n1 d (iD i g es0 es1),aab Au (i+1+n0) cu (fC i g es0 es1),bk cJ #[aq 0,aq 0,bA,bA] 28,bk bJ (u4 i g A0 n0 c0 A1 n1 c1) 28] [bE A1 n1 c1 es1,jM A0 n0 c0 es0]/\wi<=n1) ⟨0,none,0,rfl,rfl,σ.pick [1,0,2,3,4,5,6,7,8,9,10,11,12,13,14] [0,1] ai,(bm _)⟩ ay ?_
    rintro _ _ _ ⟨wi,B9,d9,rfl,rfl,σ,hw⟩
    refine ei rfl<|wD (fun Wu=>?_) fun Wu=>?_
    ·have hlw:wi<n1:=ae
     obtain ⟨vr0,AZ⟩:∃e,(iD i g es0 es1)[wi]?=some e:=⟨_,aw (by unfold iD; rw [aZ]; omega)⟩
     have Pu:=hOB _ (aB AZ)
     obtain ⟨vr,rfl⟩:=dh Pu.1
     have hpo:(mi i g es0 es1)[wi]?=some (gi p.at_ ((vr:Nat):Int)):=by unfold mi; rw [bo,AZ,<- vR]; rfl
     refine iT rfl rfl<|vE rfl (fun η=>az (i:=wi) η Tryz.underlying26 (aD.size) rfl rfl ae rfl (ax (σ.owns (k:=11) rfl)))<|cE rfl (fun η=>aJ (i:=wi) (j:=0) (e:=((vr:Nat):Int)) η aD rfl rfl bn ai (ax (σ.owns (k:=11) rfl)) ae AZ rfl)<|gY [9,11] [0,5,8,12,16,21,24,29,34,38,40,46] aK σ fun _ σ=>lS 0 rfl<|lS 3 rfl<|sE rfl (fun η hg=>jD (lm:=AO) (x:=((vr:Nat):Int)) false η AL Tryz.underlying225 fj rfl rfl (hg.ow (j:=5) rfl))<|Lv (aM (Value.int .i64) (NO.1 vr ae))<|eS rfl<|lr (z:=1) #[aq (gi p.at_ ((vr:Nat):Int))] σ (aD.size) dc rfl aK fun _ g83 σ=>sk (σ.kd 1 0)<|eS rfl<|pT (new:=[(gi p.at_ ((vr:Nat):Int))]) 2 0 σ du rfl (by unfold maxLen; omega) ae fun _ g84 c85 σ=>sz rfl<|?_
     rw [<- take_one hpo] at σ
     exact eS rfl<|j0 1 σ rfl fun _ σ=>sz rfl<|can (j:=1) rfl ae<|dF ⟨wi+1,(bh g84),c85,rfl,rfl,σ.pick [1,2,3,4,5,6,7,8,9,10,11,12,13,14,15] [0,1] ai,ae⟩ ay ae
    ·obtain rfl:n1=wi:=ae
     refine iF rfl rfl<|gE 0 σ rfl<|eE rfl<|cX 13 σ rfl fun _ σ=>oR (fun e=>gC Tryz.results92 (RV.cell e aO rfl (σ.nA (k:=13) rfl) rfl) (RV.tmp e rfl))<|?_
     rw [bD (show (mi i g es0 es1).length<=n1 by unfold mi iD; rw [aZ,aZ]; omega)] at σ
     exact by rw [BB] at σ; exact ⟨_,_,_,_,by unfold nQ; rw [<- vR,Jv],σ.pick [2,1] [] ai⟩
  ·have vG:¬0<=gi (fC i g es0 es1) i:=by rw [nw hui]; exact u6
   refine iF rfl rfl<|Wc 0 (fun l w=>∃g8:Nat,∃A6:Option Addr,∃n:Nat,∃c6:Nat,∃W5:List (Int×Int),l=[(8,bB g8),(1,bB bJ),(2,bB cJ),(4,bB gL),(6,bB eZ)]/\St w0 w [bk g8 (u4 i n none 0 0 none 0 0) 28,Oz eZ fo A6 n c6 ((sC i (fC i g es0 es1)).free) W5,bk gL #[ak i,ak g,.slice A0 n0 c0,.slice A1 n1 c1,.slice An n0 cn,.slice (bh ga) n0 n0,.slice (bh gb) n0 n0,.slice (bh gs) n0 n0,.slice B n1 d,.slice Au (i+1+n0) cu] 230,aal An n0 cn (List.replicate n0 true),aab (bh ga) n0 n0 ((iY i (bu i g) 0 es0).map Prod.fst),aab (bh gb) n0 n0 ((iY i (bu i g) 0 es0).map Prod.snd),aab (bh gs) n0 n0 (EK i n0),aab B n1 d (iD i g es0 es1),aab Au (i+1+n0) cu (fC i g es0 es1),bk cJ #[aq 0,aq 0,bA,bA] 28,bk bJ (u4 i g A0 n0 c0 A1 n1 c1) 28] [bE A1 n1 c1 es1,jM A0 n0 c0 es0]/\D' W5 (sC i (fC i g es0 es1)).at_/\(sC i (fC i g es0 es1)).free.length=n/\i<=n/\n<=i+1) rfl ?_ ?_
   ·replace σ:=σ.unpack
    refine gY [12] [0,5,8,13,16,20,24,29,32,36,40,46,50] aK σ fun _ σ=>lS 11 rfl<|lS 11 rfl<|lS 0 rfl<|vE rfl (fun η=>rZ η rfl rfl)<|vE rfl (fun η=>cK (c:=#[ak i,ak (max i i),bA,bA]) eM η rfl rfl)<|eS rfl<|eL bf σ rfl fun _ g86 σ=>sk (σ.kd 1 0)<|eS rfl<|cX 0 σ rfl fun _ σ=>sz rfl<|?_
    replace σ:=(σ.pick [1,2,3,0,4,5,6,7,8,9,10,11,12] [0,1] ai).pack 3
    rw [show max i i=i by omega] at σ
    rw [show (OA (fC i g es0 es1) i)=(sC i (fC i g es0 es1)).free from by rw [LW vG]] at σ
    exact xf ⟨g86,A5,i,c5,lm,rfl,σ.pick [1,0,2,3,4,5,6,7,8,9,10] [0,1] ai,(by rw [LW vG]; exact hP.gap),(by rw [uP]; exact aQ vG),ae,ae⟩ ay
   rintro _ _ ⟨g8,A6,n,c6,W5,rfl,σ,hP,T8,km,hni⟩
   refine lE 10 σ rfl<|?_
   replace σ:=(σ.pick [1,0,2,3,4,5,6,7,8,9,10] [0,1] ai).unpack
   replace σ:=(σ.cl ar 116 5)
   refine fX (fun mz l w=>∃k:Nat,∃p:Pk,∃GX:List IE,∃n7:Nat,∃A7:Option Addr,∃c7:Nat,∃AO:List (Int×Int),∃A8:Option Addr,∃c8:Nat,n0 - k=mz/\l=[(79,ak k),(2,bB cJ),(4,bB gL),(6,bB eZ),(8,bB g8),(77,.slice A0 n0 c0),(78,ak n0)]/\St w0 w [bk g8 (u4 i n7 A8 k c8 none 0 0) 28,aad A8 k c8 GX,bk eZ #[.map (some fo),.slice A7 n7 c7] 227,aal A7 n7 c7 p.free,qG xH fo AO,bk gL #[ak i,ak g,.slice A0 n0 c0,.slice A1 n1 c1,.slice An n0 cn,.slice (bh ga) n0 n0,.slice (bh gb) n0 n0,.slice (bh gs) n0 n0,.slice B n1 d,.slice Au (i+1+n0) cu] 230,aal An n0 cn (List.replicate n0 true),aab (bh ga) n0 n0 ((iY i (bu i g) 0 es0).map Prod.fst),aab (bh gb) n0 n0 ((iY i (bu i g) 0 es0).map Prod.snd),aab (bh gs) n0 n0 (EK i n0),aab B n1 d (iD i g es0 es1),aab Au (i+1+n0) cu (fC i g es0 es1),bk cJ #[aq 0,aq 0,bA,bA] 28,bk bJ (u4 i g A0 n0 c0 A1 n1 c1) 28] [bE A1 n1 c1 es1,jM A0 n0 c0 es0]/\k<=n0/\Sx p/\p.at_.length=i+1+k/\D' AO p.at_/\p.free.length=n7/\i<=n7/\n7<=i+1+k/\GX.length=k/\(iZ (fC i g es0 es1) k p (es0.drop k) ((iY i (bu i g) 0 es0).drop k)).1=(Ck i g es0 es1).1/\GX++(iZ (fC i g es0 es1) k p (es0.drop k) ((iY i (bu i g) 0 es0).drop k)).2=zE i g es0 es1) ⟨0,(sC i (fC i g es0 es1)),[],n,A6,c6,W5,none,0,rfl,rfl,σ.pick [4,0,1,2,3,5,6,7,8,9,10,11,12,13] [0,1] ai,(bm _),(Zt ae),(SA i _),hP,T8,km,hni,rfl,rfl,rfl⟩ ay ?_
   rintro _ _ _ ⟨k,p,GX,n7,A7,c7,AO,A8,c8,rfl,rfl,σ,hk,hB8,KY,NO,Jv,amX,amY,he8,vR,BB⟩
   refine ei rfl<|wD (fun h87=>?_) fun h87=>?_
   ·have cD:k<n0:=ae
    obtain ⟨⟨op,D9,xy,vn,BA⟩,b5⟩:∃e,es0[k]?=some e:=⟨_,aw ae⟩
    have hM:=bH.may _ (aB b5)
    have xi:=hM
    unfold cN at xi
    dsimp only at xi
    obtain ⟨⟨va0,vb0⟩,wJ⟩:∃q,(iY i (bu i g) 0 es0)[k]?=some q:=⟨_,aw (by rw [gj]; omega)⟩
    have Oo:=rq bH.may _ _ wJ
    dsimp only at Oo
    obtain ⟨va,rfl⟩:=dh Oo.1.1
    obtain ⟨vb,rfl⟩:=dh Oo.2.1
    have W4:((iY i (bu i g) 0 es0).map Prod.fst)[k]?=some ((va:Nat):Int):=by rw [bo,wJ]; rfl
    have Sw:((iY i (bu i g) 0 es0).map Prod.snd)[k]?=some ((vb:Nat):Int):=by rw [bo,wJ]; rfl
    refine iT rfl rfl<|vE rfl (fun η=>az (i:=k) η Tryz.underlying25 (an.size) rfl rfl ae rfl σ.bC.1)<|cE rfl (fun η=>bF (v:=#[aq op,aq D9,aq xy,aq vn,aq BA]) (i:=k) (e:=(op,D9,xy,vn,BA)) η an rfl rfl iR σ.bC.1 ae b5 rfl)<|eE rfl<|eL aI σ rfl fun _ g88 σ=>eE rfl<|cX 0 σ rfl fun _ σ=>lE 6 σ rfl<|vE rfl (fun η=>az (i:=k) η Tryz.underlying219 (bQ.size) rfl rfl ae rfl (ax σ.tx))<|cE rfl (fun η=>aJ (i:=k) (j:=0) (e:=true) η bQ rfl rfl fi ai (ax σ.tx) ae (Ju cD) rfl)<|iF rfl rfl<|gE 0 σ rfl<|eE rfl<|cS Tryz.call121 (mB (op:=op) (tr:=D9) (ra:=xy) (rb:=vn) (cn:=BA) ae) rfl ?_
    rintro _ _ ⟨A89,Wv,Nw,rfl,am3,ahp⟩
    refine ⟨_,rfl,?_⟩
    replace σ:=σ.more am3
    have am4:=kJ op xy vn
    refine pd rfl<|gY [13] [0,4,8,13,16,20,24,29,32,36,41,45,48,54] aK σ fun _ σ=>lS 4 rfl<|lS 7 rfl<|vE rfl (fun η=>az (i:=k) η Tryz.underlying26 (aD.size) rfl rfl ae rfl (ax (σ.owns (k:=9) rfl)))<|sE rfl (fun η hg=>aJ (i:=k) (j:=0) (e:=((va:Nat):Int)) η aD rfl rfl bn ai (ax (hg.ow (j:=9) rfl)) ae W4 rfl)<|sE rfl (fun η hg=>jD (lm:=AO) (x:=((va:Nat):Int)) false η AL Tryz.underlying225 fj rfl rfl (hg.ow (j:=6) rfl))<|Lv (aM (Value.int .i64) (NO.1 va ae))<|eS rfl<|j0 1 σ rfl fun _ σ=>sz rfl<|Wc 0 (fun l w=>∃Jw:Int,l=[(2,bB cJ),(4,bB gL),(6,bB eZ),(8,bB g8),(9,ak k),(10,bB g88),(77,.slice A0 n0 c0),(78,ak n0),(79,ak k)]/\St w0 w [bk g88 #[aq op,aq D9,aq (gi p.at_ ((va:Nat):Int)),aq Jw,aq BA] 116,bk g8 (u4 i n7 A8 k c8 none 0 0) 28,aad A8 k c8 GX,bk eZ #[.map (some fo),.slice A7 n7 c7] 227,aal A7 n7 c7 p.free,qG xH fo AO,bk gL #[ak i,ak g,.slice A0 n0 c0,.slice A1 n1 c1,.slice An n0 cn,.slice (bh ga) n0 n0,.slice (bh gb) n0 n0,.slice (bh gs) n0 n0,.slice B n1 d,.slice Au (i+1+n0) cu] 230,aal An n0 cn (List.replicate n0 true),aab (bh ga) n0 n0 ((iY i (bu i g) 0 es0).map Prod.fst),aab (bh gb) n0 n0 ((iY i (bu i g) 0 es0).map Prod.snd),aab (bh gs) n0 n0 (EK i n0),aab B n1 d (iD i g es0 es1),aab Au (i+1+n0) cu (fC i g es0 es1),bk cJ #[aq 0,aq 0,bA,bA] 28,bk bJ (u4 i g A0 n0 c0 A1 n1 c1) 28] [bE A1 n1 c1 es1,jM A0 n0 c0 es0]/\Jw=if op=3∨op=4 then gi p.at_ ((vb:Nat):Int) else vn) rfl ?_ ?_
    ·refine dE rfl (fun h95=>?_) fun h95=>?_
     ·have Jy:(op=3∨op=4)↔1<Nw:=by rw [<- ahp]; unfold cP; split<;>(try split)<;>simp_all
      exact gY [13] [0,4,8,13,16,20,24,29,32,36,41,45,48,54] aK σ fun _ σ=>lS 4 rfl<|lS 7 rfl<|vE rfl (fun η=>az (i:=k) η Tryz.underlying26 (aD.size) rfl rfl ae rfl (ax (σ.owns (k:=10) rfl)))<|sE rfl (fun η hg=>aJ (i:=k) (j:=0) (e:=((vb:Nat):Int)) η aD rfl rfl bn ai (ax (hg.ow (j:=10) rfl)) ae Sw rfl)<|sE rfl (fun η hg=>jD (lm:=AO) (x:=((vb:Nat):Int)) false η AL Tryz.underlying225 fj rfl rfl (hg.ow (j:=6) rfl))<|Lv (aM (Value.int .i64) (NO.1 vb ae))<|eS rfl<|j0 1 σ rfl fun _ σ=>sz rfl<|xf ⟨(gi p.at_ ((vb:Nat):Int)),rfl,σ.pick [1,2,3,4,5,6,7,8,9,10,11,12,13,14,15] [0,1] ai,(by rw [aR (Jy.2 ae)])⟩ ay
     ·have Jy:(op=3∨op=4)↔1<Nw:=by rw [<- ahp]; unfold cP; split<;>(try split)<;>simp_all
      exact xf ⟨vn,rfl,σ.pick [1,2,3,4,5,6,7,8,9,10,11,12,13,14,15] [0,1] ai,(by rw [aQ (fun q=>by have:=Jy.1 q; omega)])⟩ ay
    rintro _ _ ⟨Jw,rfl,σ,UX⟩
    refine gY [] [0,4,8,13,16,20,25,28,32,36,41,44,48,53,56,60] aK σ fun _ σ=>lS 6 rfl<|vE rfl (fun η=>az (i:=k) η Tryz.underlying26 (aD.size) rfl rfl ae rfl (ax (σ.owns (k:=8) rfl)))<|sE rfl (fun η hg=>aJ (i:=k) (j:=0) (e:=((va:Nat):Int)) η aD rfl rfl bn ai (ax (hg.ow (j:=8) rfl)) ae W4 rfl)<|lS 6 rfl<|vE rfl (fun η=>az (i:=k) η Tryz.underlying26 (aD.size) rfl rfl ae rfl (ax (σ.owns (k:=9) rfl)))<|sE rfl (fun η hg=>aJ (i:=k) (j:=0) (e:=((vb:Nat):Int)) η aD rfl rfl bn ai (ax (hg.ow (j:=9) rfl)) ae Sw rfl)<|vE rfl (fun η=>uQ η Tryz.underlying231 (aD.size) lM rfl rfl)<|?_
    rw [show p.free=(jw (fC i g es0 es1) k p va vb 0).free from rfl] at σ
    refine fX (fun mz l w=>∃tj:Nat,2 - tj=mz/\l=[(138,ak tj),(2,bB cJ),(4,bB gL),(6,bB eZ),(8,bB g8),(9,ak k),(10,bB g88),(77,.slice A0 n0 c0),(78,ak n0),(79,ak k),(137,.agg #[ak va,ak vb])]/\St w0 w [bk g88 #[aq op,aq D9,aq (gi p.at_ ((va:Nat):Int)),aq Jw,aq BA] 116,bk g8 (u4 i n7 A8 k c8 none 0 0) 28,aad A8 k c8 GX,bk eZ #[.map (some fo),.slice A7 n7 c7] 227,aal A7 n7 c7 ((jw (fC i g es0 es1) k p va vb tj).free),qG xH fo AO,bk gL #[ak i,ak g,.slice A0 n0 c0,.slice A1 n1 c1,.slice An n0 cn,.slice (bh ga) n0 n0,.slice (bh gb) n0 n0,.slice (bh gs) n0 n0,.slice B n1 d,.slice Au (i+1+n0) cu] 230,aal An n0 cn (List.replicate n0 true),aab (bh ga) n0 n0 ((iY i (bu i g) 0 es0).map Prod.fst),aab (bh gb) n0 n0 ((iY i (bu i g) 0 es0).map Prod.snd),aab (bh gs) n0 n0 (EK i n0),aab B n1 d (iD i g es0 es1),aab Au (i+1+n0) cu (fC i g es0 es1),bk cJ #[aq 0,aq 0,bA,bA] 28,bk bJ (u4 i g A0 n0 c0 A1 n1 c1) 28] [bE A1 n1 c1 es1,jM A0 n0 c0 es0]/\tj<=2) ⟨0,rfl,rfl,σ,(bm _)⟩ ay ?_
    rintro _ _ _ ⟨tj,rfl,rfl,σ,ht⟩
    refine ei rfl<|wD (fun h96=>?_) fun h96=>?_
    ·have Dj:tj<2:=ae
     obtain ⟨v9,NP⟩:∃v,v=arN va vb tj:=⟨_,rfl⟩
     have hvb:v9<i+1+k:=by rw [NP]; unfold arN; split<;>omega
     have acY:=σ
     obtain ⟨uw,huw⟩:∃e,(fC i g es0 es1)[v9]?=some e:=⟨_,aw (by rw [EC]; omega)⟩
     refine iT rfl rfl<|vE rfl (fun η=>oJ (m:=((va:Nat):Int)) (n:=((vb:Nat):Int)) (j:=tj) η Tryz.underlying231 aD rfl rfl ae)<|Lv (aM (Value.int .i64) ((SC va vb tj).trans (aM (fun x:Nat=>((x:Nat):Int)) NP.symm)))<|lE 6 σ rfl<|vE rfl (fun η=>az (i:=v9) η Tryz.underlying26 (aD.size) rfl rfl ae rfl (ax (σ.owns (k:=12) rfl)))<|cE rfl (fun η=>aJ (i:=v9) (j:=0) (e:=uw) η aD rfl rfl bn ai (ax (σ.owns (k:=12) rfl)) ae huw rfl)<|cZ rfl<|wQ (fun h97=>?_) fun h97=>?_
     ·obtain ⟨x9,OB,hx8⟩:=ahn hB8 (v:=v9) ae
      refine iT rfl rfl<|gY [11] [0,4,8,13,16,20,24,29,32,37,40,46] aK σ fun _ σ=>lS 3 rfl<|lS 3 rfl<|sE rfl (fun η hg=>jD (lm:=AO) (x:=((v9:Nat):Int)) false η AL Tryz.underlying225 fj rfl rfl (hg.ow (j:=5) rfl))<|Lv (aM (Value.int .i64) (NO.1 v9 ae))<|Lv (aM (Value.int .i64) OB)<|vE rfl (fun η=>az (i:=x9) η Tryz.underlying219 (bQ.size) rfl rfl ae rfl (ax σ.Bl))<|eS rfl<|qI 4 x9 (e1:=true) fi σ rfl rfl ae ((j5 ..).2.trans Jv) fun _ σ=>sz rfl<|can (j:=1) rfl ae<|?_
      rw [show (((jw (fC i g es0 es1) k p va vb tj).free).set x9 true)=(jw (fC i g es0 es1) k p va vb (tj+1)).free from by rw [si Dj,<- NP]; unfold ew; rw [aR (by rw [nw huw]; exact h97),(j5 ..).1,OB]; rfl] at σ
      exact dF ⟨tj+1,rfl,rfl,σ,ae⟩ ay ae
     ·refine iF rfl rfl<|can (j:=1) rfl ae<|?_
      rw [show (jw (fC i g es0 es1) k p va vb tj).free=(jw (fC i g es0 es1) k p va vb (tj+1)).free from by rw [si Dj,<- NP]; unfold ew; rw [aQ (by rw [nw huw]; exact h97)]] at σ
      exact dF ⟨tj+1,rfl,rfl,σ,ae⟩ ay ae
    ·obtain rfl:tj=2:=ae
     refine iF rfl rfl<|?_
     replace σ:=(σ.pick [3,4,5,0,1,2,6,7,8,9,10,11,12,13,14] [0,1] ai).pack 3
     refine lE 4 σ rfl<|vE rfl (fun η=>az (i:=k) η Tryz.underlying26 (aD.size) rfl rfl ae rfl (ax (σ.owns (k:=8) rfl)))<|cE rfl (fun η=>aJ (i:=k) (j:=0) (e:=((i+1+k:Nat):Int)) η aD rfl rfl bn ai (ax (σ.owns (k:=8) rfl)) ae (Eb cD) rfl)<|eE rfl<|cS Tryz.call143 (LQ (p:=(jw (fC i g es0 es1) k p va vb 2)) (σ.bO (k:=0) rfl []) ((j5 ..).2.trans Jv) ae (NO.2 _ ae)) rfl ?_
     rintro _ _ ⟨A98,n99,am6,rfl,LC,ac1⟩
     refine ⟨_,rfl,?_⟩
     replace σ:=σ.j4 (k:=0) rfl LC
     have hg9:=Sy (SD (a:=va) (b:=vb) (j:=2) (u:=(fC i g es0 es1)) (k:=k) hB8)
     have hg8:=LX (jw (fC i g es0 es1) k p va vb 2)
     have hg7:=(j5 (fC i g es0 es1) k p va vb 2).2
     replace σ:=σ.unpack
     exact eE rfl<|j0 3 σ rfl fun _ σ=>lE 4 σ rfl<|gE 3 σ rfl<|eE rfl<|lr (z:=5) #[aq op,aq ((fq (jw (fC i g es0 es1) k p va vb 2)).1),aq (gi p.at_ ((va:Nat):Int)),aq Jw,aq BA] σ (an.size) aI rfl aK fun _ aup σ=>eE rfl<|pT (new:=[(op,(fq (jw (fC i g es0 es1) k p va vb 2)).1,(gi p.at_ ((va:Nat):Int)),Jw,BA)]) 6 0 σ bT rfl (by unfold maxLen; omega) ae fun _ am7 am8 σ=>eE rfl<|j0 5 σ rfl fun _ σ=>lE 5 σ rfl<|lE 4 σ rfl<|Rf rfl ae<|vE rfl (fun η=>rY η rfl rfl)<|Lv (aM (Value.int .i64) (show _=((n99:Nat):Int) by omega))<|eE rfl<|j0 5 σ rfl fun _ σ=>can (j:=1) rfl ae<|dF ⟨k+1,(fq (jw (fC i g es0 es1) k p va vb 2)).2,(GX++[(op,(fq (jw (fC i g es0 es1) k p va vb 2)).1,(gi p.at_ ((va:Nat):Int)),Jw,BA)]),n99,A98,am6,(AO++[(((i+1+k:Nat):Int),(fq (jw (fC i g es0 es1) k p va vb 2)).1)]),(bh am7),am8,rfl,rfl,σ.pick [5,6,1,2,3,7,8,9,10,11,12,13,14,15] [0,1] ai,ae,hg9.1,(by rw [hg9.2.1,aP,(j5 ..).1,KY]; rfl),(by rw [hg9.2.1,(j5 ..).1]; have:=NO.add (fq (jw (fC i g es0 es1) k p va vb 2)).1; rw [KY] at this; exact this),ac1,ae,ae,(by rw [aP,he8]; rfl),(by rw [u9 b5 wJ] at vR; exact vR),(by rw [UX,cG]; rw [u9 b5 wJ] at BB; exact BB)⟩ ay ae
   ·obtain rfl:n0=k:=ae
    rw [CD ae] at vR BB
    rw [fv] at BB
    dsimp only at vR
    have hOB:=Zu bH.may bH.out (i:=i)
    refine iF rfl rfl<|lE 5 σ rfl<|?_
    replace σ:=(σ.cl ar 3 1)
    refine fX (fun mz l w=>∃wi:Nat,∃B9:Option Addr,∃d9:Nat,n1 - wi=mz/\l=[(191,ak wi),(2,bB cJ),(6,bB eZ),(8,bB g8),(189,.slice B n1 d),(190,ak n1)]/\St w0 w [bk g8 (u4 i n7 A8 n0 c8 B9 wi d9) 28,aab B9 wi d9 ((mi i g es0 es1).take wi),aad A8 n0 c8 GX,bk eZ #[.map (some fo),.slice A7 n7 c7] 227,aal A7 n7 c7 p.free,qG xH fo AO,bk gL #[ak i,ak g,.slice A0 n0 c0,.slice A1 n1 c1,.slice An n0 cn,.slice (bh ga) n0 n0,.slice (bh gb) n0 n0,.slice (bh gs) n0 n0,.slice B n1 d,.slice Au (i+1+n0) cu] 230,aal An n0 cn (List.replicate n0 true),aab (bh ga) n0 n0 ((iY i (bu i g) 0 es0).map Prod.fst),aab (bh gb) n0 n0 ((iY i (bu i g) 0 es0).map Prod.snd),aab (bh gs) n0 n0 (EK i n0),aab B n1 d (iD i g es0 es1),aab Au (i+1+n0) cu (fC i g es0 es1),bk cJ #[aq 0,aq 0,bA,bA] 28,bk bJ (u4 i g A0 n0 c0 A1 n1 c1) 28] [bE A1 n1 c1 es1,jM A0 n0 c0 es0]/\wi<=n1) ⟨0,none,0,rfl,rfl,σ.pick [1,0,2,3,4,5,6,7,8,9,10,11,12,13,14] [0,1] ai,(bm _)⟩ ay ?_
    rintro _ _ _ ⟨wi,B9,d9,rfl,rfl,σ,hw⟩
    refine ei rfl<|wD (fun am9=>?_) fun am9=>?_
    ·have hlw:wi<n1:=ae
     obtain ⟨vr0,AZ⟩:∃e,(iD i g es0 es1)[wi]?=some e:=⟨_,aw (by unfold iD; rw [aZ]; omega)⟩
     have Pu:=hOB _ (aB AZ)
     obtain ⟨vr,rfl⟩:=dh Pu.1
     have hpo:(mi i g es0 es1)[wi]?=some (gi p.at_ ((vr:Nat):Int)):=by unfold mi; rw [bo,AZ,<- vR]; rfl
     refine iT rfl rfl<|vE rfl (fun η=>az (i:=wi) η Tryz.underlying26 (aD.size) rfl rfl ae rfl (ax (σ.owns (k:=11) rfl)))<|cE rfl (fun η=>aJ (i:=wi) (j:=0) (e:=((vr:Nat):Int)) η aD rfl rfl bn ai (ax (σ.owns (k:=11) rfl)) ae AZ rfl)<|gY [9,11] [0,5,8,12,16,21,24,29,34,38,40,46] aK σ fun _ σ=>lS 0 rfl<|lS 3 rfl<|sE rfl (fun η hg=>jD (lm:=AO) (x:=((vr:Nat):Int)) false η AL Tryz.underlying225 fj rfl rfl (hg.ow (j:=5) rfl))<|Lv (aM (Value.int .i64) (NO.1 vr ae))<|eS rfl<|lr (z:=1) #[aq (gi p.at_ ((vr:Nat):Int))] σ (aD.size) dc rfl aK fun _ auq σ=>sk (σ.kd 1 0)<|eS rfl<|pT (new:=[(gi p.at_ ((vr:Nat):Int))]) 2 0 σ du rfl (by unfold maxLen; omega) ae fun _ am' Wq σ=>sz rfl<|?_
     rw [<- take_one hpo] at σ
     exact eS rfl<|j0 1 σ rfl fun _ σ=>sz rfl<|can (j:=1) rfl ae<|dF ⟨wi+1,(bh am'),Wq,rfl,rfl,σ.pick [1,2,3,4,5,6,7,8,9,10,11,12,13,14,15] [0,1] ai,ae⟩ ay ae
    ·obtain rfl:n1=wi:=ae
     refine iF rfl rfl<|gE 0 σ rfl<|eE rfl<|cX 13 σ rfl fun _ σ=>oR (fun e=>gC Tryz.results92 (RV.cell e aO rfl (σ.nA (k:=13) rfl) rfl) (RV.tmp e rfl))<|?_
     rw [bD (show (mi i g es0 es1).length<=n1 by unfold mi iD; rw [aZ,aZ]; omega)] at σ
     exact by rw [BB] at σ; exact ⟨_,_,_,_,by unfold nQ; rw [<- vR,Jv],σ.pick [2,1] [] ai⟩
theorem ac5 {c:Int} (h:c<2):p2 c=none:=by
 cases hq:p2 c with
 | none=>rfl
 | some m=>
  obtain ⟨h1,h2,_⟩:=pH hq
  have h3:(2:Int) ^ 1<=2 ^ m:=by exact_mod_cast fE ai h2
  have:(2:Int) ^ 1=2:=rfl
  omega
theorem aht {c:Int} (h1:2<=c) (h2:c<=512) (h:bits .and .i64 c (c - 1)≠0):p2 c=none:=by
 cases hq:p2 c with
 | none=>rfl
 | some m=>exact absurd ((Lz ae h2).2 (.inr (by rw [hq]; rfl))) h
def Zv (f c s d:Int):Int:=((mG f c s d).getD (0,0)).1
def Ut (f c s d:Int):Int:=((mG f c s d).getD (0,0)).2
theorem lT {f c s d:Int} {q:Int×Int} (h:mG f c s d=some q):Zv f c s d=q.1/\Ut f c s d=q.2/\(mG f c s d).isSome=true:=by unfold Zv Ut; rw [h]; exact ⟨rfl,rfl,rfl⟩
theorem rD {f c s d:Int} (h:mG f c s d=none):Zv f c s d=0/\Ut f c s d=0/\(mG f c s d).isSome=false:=by unfold Zv Ut; rw [h]; exact ⟨rfl,rfl,rfl⟩
theorem LZ {op tr ra rb cn g:Int} (h:cN (op,tr,ra,rb,cn) g):-512<=cn/\cn<=512:=by unfold cN at h; dsimp only at h; omega
theorem ahu {op tr ra rb cn g:Int} (h:cN (op,tr,ra,rb,cn) g) (ho:op=5∨op=6):cn≠0:=by unfold cN at h; dsimp only at h; omega
theorem ahv {c d:Int} (h1:-512<=c/\c<=512) (h2:-512<=d/\d<=512):-1000000<=c*d/\c*d<=1000000:=by
 have:=Ry h1 h2
 omega
theorem L0 {w0:World} {n:Int}:
  Calls Tryz.prog 210 #[aq n] w0 fun e w'=>e=.returned (.bool (decide (-512<=n/\n<=512)))/\Below w0.heap.size w0 w':=by
 refine dp Tryz.func210 rfl Tryz.ntmps210 rfl fun σ=>xd rfl<|wD (fun iz=>?_) fun iz=>?_
 ·exact IZ rfl<|o1 Tryz.results210 rfl<|⟨aM (fun b=>Ending.returned (Value.bool b)) (vC.2 (by simp; try omega)),σ.below⟩
 ·exact o1 Tryz.results210 rfl<|⟨aM (fun b=>Ending.returned (Value.bool b)) (vC.2 (by simp; try omega)),σ.below⟩
theorem lu {w0:World} {op tr ra cn:Int}:
  Calls Tryz.prog 181 #[aq op,aq tr,aq ra,aq cn] w0 fun e w'=>e=.returned (.agg #[aq op,aq tr,aq ra,aq 0,aq cn])/\Below w0.heap.size w0 w':=by
 exact dp Tryz.func181 rfl Tryz.ntmps181 rfl fun σ=>eE rfl<|eL aI σ rfl fun _ bJ σ=>vE rfl (fun η=>cK bG η rfl rfl)<|eE rfl<|cX 0 σ rfl fun _ σ=>oR (fun e=>dA Tryz.results181 (RV.cell e an rfl σ.dj rfl))<|⟨rfl,σ.below⟩
theorem SG {w0:World} {c:Int} (hD:iG w0) (b1:-512<=c) (b2:c<=512):
  Calls Tryz.prog 180 #[aq c] w0 fun e w'=>e=.returned (.tuple #[ak ((p2 c).getD 0),.bool (p2 c).isSome])/\Below w0.heap.size w0 w':=by
 refine dp Tryz.func180 rfl Tryz.ntmps180 rfl fun σ=>?_
 replace σ:=σ.j1 hD
 refine ei rfl<|wD (fun iz=>?_) fun iz=>?_
 ·have sY:=ac5 iz
  exact iT rfl rfl<|o2 Tryz.results180 rfl<|⟨by rw [sY]; rfl,σ.below⟩
 ·refine yf rfl ae<|vE rfl (fun η=>Ly η rfl rfl)<|ir rfl<|wN (fun jG=>?_) fun jG=>?_
  ·have sY:=aht ae ae jG
   exact iT rfl rfl<|o2 Tryz.results180 rfl<|⟨by rw [sY]; rfl,σ.below⟩
  ·have ua:=((Lz (c:=c) ae ae).1 ae).resolve_left ae
   obtain ⟨m,hm,Nt,wM,Ou⟩:=Y6 ua
   exact iF rfl rfl<|vE rfl (fun η=>iC η rfl Tryz.underlying3 Tryz.underlying99 (LA Nt ae))<|eE rfl<|dx Tryz.call128 (tz wM Ou σ.aU) σ rfl fun _ σ=>o2 Tryz.results180 rfl<|⟨by rw [hm]; rfl,σ.below⟩
theorem GY {w0:World} {f c s d:Int} (hc:-512<=c/\c<=512) (hd:-512<=d/\d<=512) (hf:f=5∨f=6->c≠0) (hs:s=5∨s=6->d≠0):
  Calls Tryz.prog 182 #[aq f,aq c,aq s,aq d] w0 fun e w'=>e=.returned (.tuple #[aq (Zv f c s d),aq (Ut f c s d),.bool (mG f c s d).isSome])/\Below w0.heap.size w0 w':=by
 have hcd:=ahv hc hd
 refine dp Tryz.func182 rfl Tryz.ntmps182 rfl fun σ=>cZ rfl<|wQ (fun iz=>?_) fun iz=>?_
 ·exact iT rfl rfl<|o3 Tryz.results182 rfl<|⟨by obtain ⟨a1,a2,a3⟩:=lT (f:=f) (c:=c) (s:=s) (d:=d) (q:=(s,d)) (by unfold mG; simp [*]<;>omega); rw [a1,a2,a3],σ.below⟩
 ·refine iF rfl rfl<|cZ rfl<|wQ (fun jG=>?_) fun jG=>?_
  ·refine iT rfl rfl<|cZ rfl<|wQ (fun lU=>?_) fun lU=>?_
   ·exact iT rfl rfl<|o3 Tryz.results182 rfl<|⟨by obtain ⟨a1,a2,a3⟩:=lT (f:=f) (c:=c) (s:=s) (d:=d) (q:=((2:Int),(0:Int))) (by unfold mG; simp [*]<;>omega); rw [a1,a2,a3],σ.below⟩
   ·refine iF rfl rfl<|cZ rfl<|wQ (fun pV=>?_) fun pV=>?_
    ·exact iT rfl rfl<|o3 Tryz.results182 rfl<|⟨by obtain ⟨a1,a2,a3⟩:=lT (f:=f) (c:=c) (s:=s) (d:=d) (q:=((1:Int),(0:Int))) (by unfold mG; simp [*]<;>omega); rw [a1,a2,a3],σ.below⟩
    ·refine iF rfl rfl<|cZ rfl<|wQ (fun qx=>?_) fun qx=>?_
     ·exact iT rfl rfl<|iT rfl rfl<|Wa rfl ae<|o3 Tryz.results182 rfl<|⟨by obtain ⟨a1,a2,a3⟩:=lT (f:=f) (c:=c) (s:=s) (d:=d) (q:=(s,(-d))) (by unfold mG; simp [*]<;>omega); rw [a1,a2,a3],σ.below⟩
     ·refine iF rfl rfl<|cZ rfl<|wQ (fun wa=>?_) fun wa=>?_
      ·exact iT rfl rfl<|Wa rfl ae<|o3 Tryz.results182 rfl<|⟨by obtain ⟨a1,a2,a3⟩:=lT (f:=f) (c:=c) (s:=s) (d:=d) (q:=(s,(-d))) (by unfold mG; simp [*]<;>omega); rw [a1,a2,a3],σ.below⟩
      ·exact iF rfl rfl<|o3 Tryz.results182 rfl<|⟨by obtain ⟨a1,a2,a3⟩:=rD (f:=f) (c:=c) (s:=s) (d:=d) (by unfold mG; simp [*]<;>omega); rw [a1,a2,a3],σ.below⟩
  ·refine iF rfl rfl<|cZ rfl<|wQ (fun Ah=>?_) fun Ah=>?_
   ·refine iT rfl rfl<|cZ rfl<|wQ (fun rB=>?_) fun rB=>?_
    ·exact iT rfl rfl<|Wa rfl ae<|o3 Tryz.results182 rfl<|⟨by obtain ⟨a1,a2,a3⟩:=lT (f:=f) (c:=c) (s:=s) (d:=d) (q:=((5:Int),(-c))) (by unfold mG; simp [*]<;>omega); rw [a1,a2,a3],σ.below⟩
    ·refine iF rfl rfl<|cZ rfl<|wQ (fun u6=>?_) fun u6=>?_
     ·refine xC rfl ae<|eE rfl<|dx Tryz.call210 (L0 (n:=(c*d))) σ rfl fun _ σ=>wD (fun xg=>?_) fun xg=>?_
      ·exact iT rfl rfl<|xC rfl ae<|o3 Tryz.results182 rfl<|⟨by obtain ⟨a1,a2,a3⟩:=lT (f:=f) (c:=c) (s:=s) (d:=d) (q:=((5:Int),(c*d))) (by unfold mG; simp [*]<;>omega); rw [a1,a2,a3],σ.below⟩
      ·exact iF rfl rfl<|cZ rfl<|kB (b':=false) (by rw [u6]; rfl)<|iF rfl rfl<|cZ rfl<|kB (b':=false) (by rw [u6]; rfl)<|iF rfl rfl<|o3 Tryz.results182 rfl<|⟨by obtain ⟨a1,a2,a3⟩:=rD (f:=f) (c:=c) (s:=s) (d:=d) (by unfold mG; simp [*]<;>omega); rw [a1,a2,a3],σ.below⟩
     ·refine iF rfl rfl<|cZ rfl<|wQ (fun wj=>?_) fun wj=>?_
      ·refine vE rfl (fun η=>tu (m:=c) (n:=d) η rfl rfl ae rfl)<|cZ rfl<|wQ (fun Jd=>?_) fun Jd=>?_
       ·exact iT rfl rfl<|gY [] [0,4,8,12,16,20] aK σ fun _ σ=>vE rfl (fun η=>kf (m:=c) (n:=d) η rfl rfl ae (gV ae))<|o3 Tryz.results182 rfl<|⟨by obtain ⟨a1,a2,a3⟩:=lT (f:=f) (c:=c) (s:=s) (d:=d) (q:=((5:Int),(c.tdiv d))) (by unfold mG; simp [*]<;>omega); rw [a1,a2,a3],σ.below⟩
       ·refine iF rfl rfl<|cZ rfl<|kB (b':=true) (uh.2 wj)<|vE rfl (fun η=>tu (m:=d) (n:=c) η rfl rfl ae rfl)<|cZ rfl<|wQ (fun C9=>?_) fun C9=>?_
        ·exact iT rfl rfl<|gY [] [0,4,8,12,16,20] aK σ fun _ σ=>vE rfl (fun η=>kf (m:=d) (n:=c) η rfl rfl ae (gV ae))<|o3 Tryz.results182 rfl<|⟨by obtain ⟨a1,a2,a3⟩:=lT (f:=f) (c:=c) (s:=s) (d:=d) (q:=((6:Int),(d.tdiv c))) (by unfold mG; simp [*]<;>omega); rw [a1,a2,a3],σ.below⟩
        ·exact iF rfl rfl<|o3 Tryz.results182 rfl<|⟨by obtain ⟨a1,a2,a3⟩:=rD (f:=f) (c:=c) (s:=s) (d:=d) (by unfold mG; simp [*]<;>omega); rw [a1,a2,a3],σ.below⟩
      ·exact iF rfl rfl<|cZ rfl<|kB (b':=false) (kv.2 wj)<|iF rfl rfl<|o3 Tryz.results182 rfl<|⟨by obtain ⟨a1,a2,a3⟩:=rD (f:=f) (c:=c) (s:=s) (d:=d) (by unfold mG; simp [*]<;>omega); rw [a1,a2,a3],σ.below⟩
   ·refine iF rfl rfl<|cZ rfl<|wQ (fun HN=>?_) fun HN=>?_
    ·refine iT rfl rfl<|cZ rfl<|wQ (fun Gz=>?_) fun Gz=>?_
     ·exact iT rfl rfl<|Wa rfl ae<|o3 Tryz.results182 rfl<|⟨by obtain ⟨a1,a2,a3⟩:=lT (f:=f) (c:=c) (s:=s) (d:=d) (q:=((6:Int),(-c))) (by unfold mG; simp [*]<;>omega); rw [a1,a2,a3],σ.below⟩
     ·refine iF rfl rfl<|cZ rfl<|wQ (fun h66=>?_) fun h66=>?_
      ·refine xC rfl ae<|eE rfl<|dx Tryz.call210 (L0 (n:=(c*d))) σ rfl fun _ σ=>wD (fun Zw=>?_) fun Zw=>?_
       ·exact iT rfl rfl<|xC rfl ae<|o3 Tryz.results182 rfl<|⟨by obtain ⟨a1,a2,a3⟩:=lT (f:=f) (c:=c) (s:=s) (d:=d) (q:=((6:Int),(c*d))) (by unfold mG; simp [*]<;>omega); rw [a1,a2,a3],σ.below⟩
       ·exact iF rfl rfl<|o3 Tryz.results182 rfl<|⟨by obtain ⟨a1,a2,a3⟩:=rD (f:=f) (c:=c) (s:=s) (d:=d) (by unfold mG; simp [*]<;>omega); rw [a1,a2,a3],σ.below⟩
      ·exact iF rfl rfl<|o3 Tryz.results182 rfl<|⟨by obtain ⟨a1,a2,a3⟩:=rD (f:=f) (c:=c) (s:=s) (d:=d) (by unfold mG; simp [*]<;>omega); rw [a1,a2,a3],σ.below⟩
    ·refine iF rfl rfl<|cZ rfl<|wQ (fun h68=>?_) fun h68=>?_
     ·refine iT rfl rfl<|cZ rfl<|wQ (fun h69=>?_) fun h69=>?_
      ·refine Rf rfl ae<|IZ rfl<|wD (fun h70=>?_) fun h70=>?_
       ·exact iT rfl rfl<|Rf rfl ae<|o3 Tryz.results182 rfl<|⟨by obtain ⟨a1,a2,a3⟩:=lT (f:=f) (c:=c) (s:=s) (d:=d) (q:=((7:Int),(c+d))) (by unfold mG; simp [*]<;>omega); rw [a1,a2,a3],σ.below⟩
       ·exact iF rfl rfl<|ir rfl<|kB (b':=true) (by rw [h69]; rfl)<|iT rfl rfl<|o3 Tryz.results182 rfl<|⟨by obtain ⟨a1,a2,a3⟩:=rD (f:=f) (c:=c) (s:=s) (d:=d) (by unfold mG; simp [*]<;>omega); rw [a1,a2,a3],σ.below⟩
      ·refine iF rfl rfl<|ir rfl<|wN (fun h71=>?_) fun h71=>?_
       ·exact iT rfl rfl<|o3 Tryz.results182 rfl<|⟨by obtain ⟨a1,a2,a3⟩:=rD (f:=f) (c:=c) (s:=s) (d:=d) (by unfold mG; simp [*]<;>omega); rw [a1,a2,a3],σ.below⟩
       ·refine iF rfl rfl<|cZ rfl<|wQ (fun h72=>?_) fun h72=>?_
        ·exact iT rfl rfl<|o3 Tryz.results182 rfl<|⟨by obtain ⟨a1,a2,a3⟩:=lT (f:=f) (c:=c) (s:=s) (d:=d) (q:=((1:Int),(0:Int))) (by unfold mG; simp [*]<;>omega); rw [a1,a2,a3],σ.below⟩
        ·refine iF rfl rfl<|pd rfl<|wD (fun h73=>?_) fun h73=>?_
         ·exact iT rfl rfl<|yf rfl ae<|o3 Tryz.results182 rfl<|⟨by obtain ⟨a1,a2,a3⟩:=lT (f:=f) (c:=c) (s:=s) (d:=d) (q:=((7:Int),(c - d))) (by unfold mG; simp [*]<;>omega); rw [a1,a2,a3],σ.below⟩
         ·exact iF rfl rfl<|yf rfl ae<|o3 Tryz.results182 rfl<|⟨by obtain ⟨a1,a2,a3⟩:=lT (f:=f) (c:=c) (s:=s) (d:=d) (q:=((8:Int),(d - c))) (by unfold mG; simp [*]<;>omega); rw [a1,a2,a3],σ.below⟩
     ·refine iF rfl rfl<|cZ rfl<|wQ (fun Us=>?_) fun Us=>?_
      ·refine iT rfl rfl<|cZ rfl<|wQ (fun h75=>?_) fun h75=>?_
       ·refine Rf rfl ae<|IZ rfl<|wD (fun h76=>?_) fun h76=>?_
        ·exact iT rfl rfl<|Rf rfl ae<|o3 Tryz.results182 rfl<|⟨by obtain ⟨a1,a2,a3⟩:=lT (f:=f) (c:=c) (s:=s) (d:=d) (q:=((8:Int),(c+d))) (by unfold mG; simp [*]<;>omega); rw [a1,a2,a3],σ.below⟩
        ·exact iF rfl rfl<|o3 Tryz.results182 rfl<|⟨by obtain ⟨a1,a2,a3⟩:=rD (f:=f) (c:=c) (s:=s) (d:=d) (by unfold mG; simp [*]<;>omega); rw [a1,a2,a3],σ.below⟩
       ·exact iF rfl rfl<|o3 Tryz.results182 rfl<|⟨by obtain ⟨a1,a2,a3⟩:=rD (f:=f) (c:=c) (s:=s) (d:=d) (by unfold mG; simp [*]<;>omega); rw [a1,a2,a3],σ.below⟩
      ·exact iF rfl rfl<|o3 Tryz.results182 rfl<|⟨by obtain ⟨a1,a2,a3⟩:=rD (f:=f) (c:=c) (s:=s) (d:=d) (by unfold mG; simp [*]<;>omega); rw [a1,a2,a3],σ.below⟩
theorem GZ {w0:World} {op tr ra rb cn:Int} (hD:iG w0) (b1:-512<=cn) (b2:cn<=512):
  Calls Tryz.prog 133 #[.agg #[aq op,aq tr,aq ra,aq rb,aq cn]] w0 fun e w'=>e=.returned (.agg #[aq (bM (op,tr,ra,rb,cn)).1,aq (bM (op,tr,ra,rb,cn)).2.1,aq (bM (op,tr,ra,rb,cn)).2.2.1,aq (bM (op,tr,ra,rb,cn)).2.2.2.1,aq (bM (op,tr,ra,rb,cn)).2.2.2.2])/\Below w0.heap.size w0 w':=by
 refine dp Tryz.func133 rfl Tryz.ntmps133 rfl fun σ=>?_
 replace σ:=σ.j1 hD
 refine eE rfl<|gN σ rfl fun _ bJ σ=>eE rfl<|eL aI σ rfl fun _ cJ σ=>lE 1 σ rfl<|eE rfl<|dx Tryz.call180 (SG σ.aU b1 b2) σ rfl fun _ σ=>?_
 cases hm:p2 cn
 ·refine lE 1 σ rfl<|cZ rfl<|wQ (fun lU=>?_) fun lU=>?_
  ·refine iT rfl rfl<|lE 1 σ rfl<|lE 1 σ rfl<|cZ rfl<|wQ (fun pV=>?_) fun pV=>?_
   ·exact iT rfl rfl<|lE 1 σ rfl<|lE 1 σ rfl<|eE rfl<|dx Tryz.call181 (lu (op:=(7:Int)) (tr:=tr) (ra:=ra) (cn:=(1:Int))) σ rfl fun _ σ=>eE rfl<|cX 0 σ rfl fun _ σ=>oR (fun e=>dA Tryz.results133 (RV.cell e an rfl σ.dj rfl))<|⟨by rw [show bM (op,tr,ra,rb,cn)=((7:Int),tr,ra,(0:Int),(1:Int)) by unfold bM; simp [*]<;>omega],σ.below⟩
   ·exact iF rfl rfl<|gE 1 σ rfl<|eE rfl<|cX 0 σ rfl fun _ σ=>oR (fun e=>dA Tryz.results133 (RV.cell e an rfl σ.dj rfl))<|⟨by rw [show bM (op,tr,ra,rb,cn)=(op,tr,ra,rb,cn) by unfold bM; simp [*]<;>omega],σ.below⟩
  ·refine iF rfl rfl<|cZ rfl<|wQ (fun qx=>?_) fun qx=>?_
   ·refine iT rfl rfl<|iT rfl rfl<|lE 1 σ rfl<|cZ rfl<|wQ (fun wa=>?_) fun wa=>?_
    ·exact iT rfl rfl<|lE 1 σ rfl<|lE 1 σ rfl<|eE rfl<|dx Tryz.call181 (lu (op:=(1:Int)) (tr:=tr) (ra:=ra) (cn:=(0:Int))) σ rfl fun _ σ=>eE rfl<|cX 0 σ rfl fun _ σ=>oR (fun e=>dA Tryz.results133 (RV.cell e an rfl σ.dj rfl))<|⟨by rw [show bM (op,tr,ra,rb,cn)=((1:Int),tr,ra,(0:Int),(0:Int)) by unfold bM; simp [*]<;>omega],σ.below⟩
    ·refine iF rfl rfl<|lE 1 σ rfl<|cZ rfl<|wQ (fun Ah=>?_) fun Ah=>?_
     ·exact iT rfl rfl<|lE 1 σ rfl<|lE 1 σ rfl<|eE rfl<|dx Tryz.call181 (lu (op:=(2:Int)) (tr:=tr) (ra:=ra) (cn:=(0:Int))) σ rfl fun _ σ=>eE rfl<|cX 0 σ rfl fun _ σ=>oR (fun e=>dA Tryz.results133 (RV.cell e an rfl σ.dj rfl))<|⟨by rw [show bM (op,tr,ra,rb,cn)=((2:Int),tr,ra,(0:Int),(0:Int)) by unfold bM; simp [*]<;>omega],σ.below⟩
     ·exact iF rfl rfl<|iF rfl rfl<|iF rfl rfl<|gE 1 σ rfl<|eE rfl<|cX 0 σ rfl fun _ σ=>oR (fun e=>dA Tryz.results133 (RV.cell e an rfl σ.dj rfl))<|⟨by rw [show bM (op,tr,ra,rb,cn)=(op,tr,ra,rb,cn) by unfold bM; simp [*]<;>omega],σ.below⟩
   ·refine iF rfl rfl<|cZ rfl<|wQ (fun rB=>?_) fun rB=>?_
    ·refine iT rfl rfl<|lE 1 σ rfl<|cZ rfl<|wQ (fun u6=>?_) fun u6=>?_
     ·exact iT rfl rfl<|lE 1 σ rfl<|lE 1 σ rfl<|eE rfl<|dx Tryz.call181 (lu (op:=(1:Int)) (tr:=tr) (ra:=ra) (cn:=(0:Int))) σ rfl fun _ σ=>eE rfl<|cX 0 σ rfl fun _ σ=>oR (fun e=>dA Tryz.results133 (RV.cell e an rfl σ.dj rfl))<|⟨by rw [show bM (op,tr,ra,rb,cn)=((1:Int),tr,ra,(0:Int),(0:Int)) by unfold bM; simp [*]<;>omega],σ.below⟩
     ·refine iF rfl rfl<|lE 1 σ rfl<|cZ rfl<|wQ (fun xg=>?_) fun xg=>?_
      ·exact iT rfl rfl<|lE 1 σ rfl<|lE 1 σ rfl<|eE rfl<|dx Tryz.call181 (lu (op:=(2:Int)) (tr:=tr) (ra:=ra) (cn:=(0:Int))) σ rfl fun _ σ=>eE rfl<|cX 0 σ rfl fun _ σ=>oR (fun e=>dA Tryz.results133 (RV.cell e an rfl σ.dj rfl))<|⟨by rw [show bM (op,tr,ra,rb,cn)=((2:Int),tr,ra,(0:Int),(0:Int)) by unfold bM; simp [*]<;>omega],σ.below⟩
      ·exact iF rfl rfl<|iF rfl rfl<|iF rfl rfl<|gE 1 σ rfl<|eE rfl<|cX 0 σ rfl fun _ σ=>oR (fun e=>dA Tryz.results133 (RV.cell e an rfl σ.dj rfl))<|⟨by rw [show bM (op,tr,ra,rb,cn)=(op,tr,ra,rb,cn) by unfold bM; simp [*]<;>omega],σ.below⟩
    ·exact iF rfl rfl<|gE 1 σ rfl<|eE rfl<|cX 0 σ rfl fun _ σ=>oR (fun e=>dA Tryz.results133 (RV.cell e an rfl σ.dj rfl))<|⟨by rw [show bM (op,tr,ra,rb,cn)=(op,tr,ra,rb,cn) by unfold bM; simp [*]<;>omega],σ.below⟩
 ·rename_i m
  refine lE 1 σ rfl<|cZ rfl<|wQ (fun wj=>?_) fun wj=>?_
  ·refine iT rfl rfl<|lE 1 σ rfl<|lE 1 σ rfl<|cZ rfl<|wQ (fun Jd=>?_) fun Jd=>?_
   ·exact iT rfl rfl<|lE 1 σ rfl<|lE 1 σ rfl<|eE rfl<|dx Tryz.call181 (lu (op:=(7:Int)) (tr:=tr) (ra:=ra) (cn:=(1:Int))) σ rfl fun _ σ=>eE rfl<|cX 0 σ rfl fun _ σ=>oR (fun e=>dA Tryz.results133 (RV.cell e an rfl σ.dj rfl))<|⟨by rw [show bM (op,tr,ra,rb,cn)=((7:Int),tr,ra,(0:Int),(1:Int)) by unfold bM; simp [*]<;>omega],σ.below⟩
   ·exact iF rfl rfl<|gE 1 σ rfl<|eE rfl<|cX 0 σ rfl fun _ σ=>oR (fun e=>dA Tryz.results133 (RV.cell e an rfl σ.dj rfl))<|⟨by rw [show bM (op,tr,ra,rb,cn)=(op,tr,ra,rb,cn) by unfold bM; simp [*]<;>omega],σ.below⟩
  ·refine iF rfl rfl<|cZ rfl<|wQ (fun C9=>?_) fun C9=>?_
   ·refine iT rfl rfl<|iT rfl rfl<|lE 1 σ rfl<|cZ rfl<|wQ (fun HN=>?_) fun HN=>?_
    ·exact iT rfl rfl<|lE 1 σ rfl<|lE 1 σ rfl<|eE rfl<|dx Tryz.call181 (lu (op:=(1:Int)) (tr:=tr) (ra:=ra) (cn:=(0:Int))) σ rfl fun _ σ=>eE rfl<|cX 0 σ rfl fun _ σ=>oR (fun e=>dA Tryz.results133 (RV.cell e an rfl σ.dj rfl))<|⟨by rw [show bM (op,tr,ra,rb,cn)=((1:Int),tr,ra,(0:Int),(0:Int)) by unfold bM; simp [*]<;>omega],σ.below⟩
    ·refine iF rfl rfl<|lE 1 σ rfl<|cZ rfl<|wQ (fun Gz=>?_) fun Gz=>?_
     ·exact iT rfl rfl<|lE 1 σ rfl<|lE 1 σ rfl<|eE rfl<|dx Tryz.call181 (lu (op:=(2:Int)) (tr:=tr) (ra:=ra) (cn:=(0:Int))) σ rfl fun _ σ=>eE rfl<|cX 0 σ rfl fun _ σ=>oR (fun e=>dA Tryz.results133 (RV.cell e an rfl σ.dj rfl))<|⟨by rw [show bM (op,tr,ra,rb,cn)=((2:Int),tr,ra,(0:Int),(0:Int)) by unfold bM; simp [*]<;>omega],σ.below⟩
     ·exact iF rfl rfl<|lE 1 σ rfl<|cZ rfl<|kB (b':=true) (uh.2 C9)<|iT rfl rfl<|lE 1 σ rfl<|lE 1 σ rfl<|eE rfl<|dx Tryz.call181 (lu (op:=(7:Int)) (tr:=tr) (ra:=ra) (cn:=((m:Nat):Int))) σ rfl fun _ σ=>eE rfl<|cX 0 σ rfl fun _ σ=>oR (fun e=>dA Tryz.results133 (RV.cell e an rfl σ.dj rfl))<|⟨by rw [show bM (op,tr,ra,rb,cn)=((7:Int),tr,ra,(0:Int),((m:Nat):Int)) by unfold bM; simp [*]<;>omega],σ.below⟩
   ·refine iF rfl rfl<|cZ rfl<|wQ (fun h66=>?_) fun h66=>?_
    ·refine iT rfl rfl<|lE 1 σ rfl<|cZ rfl<|wQ (fun Zw=>?_) fun Zw=>?_
     ·exact iT rfl rfl<|lE 1 σ rfl<|lE 1 σ rfl<|eE rfl<|dx Tryz.call181 (lu (op:=(1:Int)) (tr:=tr) (ra:=ra) (cn:=(0:Int))) σ rfl fun _ σ=>eE rfl<|cX 0 σ rfl fun _ σ=>oR (fun e=>dA Tryz.results133 (RV.cell e an rfl σ.dj rfl))<|⟨by rw [show bM (op,tr,ra,rb,cn)=((1:Int),tr,ra,(0:Int),(0:Int)) by unfold bM; simp [*]<;>omega],σ.below⟩
     ·refine iF rfl rfl<|lE 1 σ rfl<|cZ rfl<|wQ (fun h68=>?_) fun h68=>?_
      ·exact iT rfl rfl<|lE 1 σ rfl<|lE 1 σ rfl<|eE rfl<|dx Tryz.call181 (lu (op:=(2:Int)) (tr:=tr) (ra:=ra) (cn:=(0:Int))) σ rfl fun _ σ=>eE rfl<|cX 0 σ rfl fun _ σ=>oR (fun e=>dA Tryz.results133 (RV.cell e an rfl σ.dj rfl))<|⟨by rw [show bM (op,tr,ra,rb,cn)=((2:Int),tr,ra,(0:Int),(0:Int)) by unfold bM; simp [*]<;>omega],σ.below⟩
      ·exact iF rfl rfl<|lE 1 σ rfl<|cZ rfl<|kB (b':=false) (kv.2 C9)<|iF rfl rfl<|iT rfl rfl<|lE 1 σ rfl<|lE 1 σ rfl<|eE rfl<|dx Tryz.call181 (lu (op:=(8:Int)) (tr:=tr) (ra:=ra) (cn:=((m:Nat):Int))) σ rfl fun _ σ=>eE rfl<|cX 0 σ rfl fun _ σ=>oR (fun e=>dA Tryz.results133 (RV.cell e an rfl σ.dj rfl))<|⟨by rw [show bM (op,tr,ra,rb,cn)=((8:Int),tr,ra,(0:Int),((m:Nat):Int)) by unfold bM; simp [*]<;>omega],σ.below⟩
    ·exact iF rfl rfl<|gE 1 σ rfl<|eE rfl<|cX 0 σ rfl fun _ σ=>oR (fun e=>dA Tryz.results133 (RV.cell e an rfl σ.dj rfl))<|⟨by rw [show bM (op,tr,ra,rb,cn)=(op,tr,ra,rb,cn) by unfold bM; simp [*]<;>omega],σ.below⟩
theorem ahw {oa ta aa ba ca ob tb xb yb cb g o k:Int} (hA:cN (oa,ta,aa,ba,ca) g) (hB:cN (ob,tb,xb,yb,cb) g) (h:mG oa ca ob cb=some (o,k)) (hn:¬(ob=3∨ob=4)):-512<=k/\k<=512:=by
 have h1:CN oa ca:=by unfold cN at hA; unfold CN; dsimp only at hA; omega
 have h2:CN ob cb:=by unfold cN at hB; unfold CN; dsimp only at hB; omega
 have h3:1<=oa/\oa<=8:=by unfold cN at hA; dsimp only at hA; omega
 have h4:1<=ob/\ob<=8:=by unfold cN at hB; dsimp only at hB; omega
 have h5:=Dx h h1 h2 h3 h4 hn
 unfold CN at h5
 omega
theorem yq {w0:World} {oa ta aa ba ca ob tb xb yb cb g:Int} (hD:iG w0) (hA:cN (oa,ta,aa,ba,ca) g) (hB:cN (ob,tb,xb,yb,cb) g):
  Calls Tryz.prog 134 #[.agg #[aq oa,aq ta,aq aa,aq ba,aq ca],.agg #[aq ob,aq tb,aq xb,aq yb,aq cb]] w0 fun e w'=>e=.returned (.tuple #[.agg #[aq ((eD (oa,ta,aa,ba,ca) (ob,tb,xb,yb,cb)).getD (0,0,0,0,0)).1,aq ((eD (oa,ta,aa,ba,ca) (ob,tb,xb,yb,cb)).getD (0,0,0,0,0)).2.1,aq ((eD (oa,ta,aa,ba,ca) (ob,tb,xb,yb,cb)).getD (0,0,0,0,0)).2.2.1,aq ((eD (oa,ta,aa,ba,ca) (ob,tb,xb,yb,cb)).getD (0,0,0,0,0)).2.2.2.1,aq ((eD (oa,ta,aa,ba,ca) (ob,tb,xb,yb,cb)).getD (0,0,0,0,0)).2.2.2.2],.bool (eD (oa,ta,aa,ba,ca) (ob,tb,xb,yb,cb)).isSome])/\Below w0.heap.size w0 w':=by
 refine dp Tryz.func134 rfl Tryz.ntmps134 rfl fun σ=>?_
 replace σ:=σ.j1 hD
 refine eE rfl<|gN σ rfl fun _ bJ σ=>eE rfl<|gN σ rfl fun _ cJ σ=>eE rfl<|eL aI σ rfl fun _ fo σ=>lE 1 σ rfl<|cZ rfl<|wQ (fun pV=>?_) fun pV=>?_
 ·exact iT rfl rfl<|vE rfl (fun η=>cK (c:=#[aq 0,aq 0,aq 0,aq 0,aq 0]) bG η rfl rfl)<|eE rfl<|cX 0 σ rfl fun _ σ=>oR (fun e=>gC Tryz.results134 (RV.cell e an rfl σ.dj rfl) (RV.tmp e rfl))<|⟨by rw [show eD (oa,ta,aa,ba,ca) (ob,tb,xb,yb,cb)=none by unfold eD; rw [aR (by dsimp only; omega)]]; rfl,σ.below⟩
 ·refine lE 1 σ rfl<|cZ rfl<|wQ (fun qx=>?_) fun qx=>?_
  ·exact iT rfl rfl<|vE rfl (fun η=>cK (c:=#[aq 0,aq 0,aq 0,aq 0,aq 0]) bG η rfl rfl)<|eE rfl<|cX 0 σ rfl fun _ σ=>oR (fun e=>gC Tryz.results134 (RV.cell e an rfl σ.dj rfl) (RV.tmp e rfl))<|⟨by rw [show eD (oa,ta,aa,ba,ca) (ob,tb,xb,yb,cb)=none by unfold eD; rw [aR (by dsimp only; omega)]]; rfl,σ.below⟩
  ·refine lE 1 σ rfl<|lE 2 σ rfl<|ir rfl<|wN (fun wa=>?_) fun wa=>?_
   ·exact iT rfl rfl<|vE rfl (fun η=>cK (c:=#[aq 0,aq 0,aq 0,aq 0,aq 0]) bG η rfl rfl)<|eE rfl<|cX 0 σ rfl fun _ σ=>oR (fun e=>gC Tryz.results134 (RV.cell e an rfl σ.dj rfl) (RV.tmp e rfl))<|⟨by rw [show eD (oa,ta,aa,ba,ca) (ob,tb,xb,yb,cb)=none by unfold eD; rw [aR (by dsimp only; omega)]]; rfl,σ.below⟩
   ·refine lE 1 σ rfl<|lE 2 σ rfl<|ir rfl<|wN (fun Ah=>?_) fun Ah=>?_
    ·exact iT rfl rfl<|vE rfl (fun η=>cK (c:=#[aq 0,aq 0,aq 0,aq 0,aq 0]) bG η rfl rfl)<|eE rfl<|cX 0 σ rfl fun _ σ=>oR (fun e=>gC Tryz.results134 (RV.cell e an rfl σ.dj rfl) (RV.tmp e rfl))<|⟨by rw [show eD (oa,ta,aa,ba,ca) (ob,tb,xb,yb,cb)=none by unfold eD; rw [aR (by dsimp only; omega)]]; rfl,σ.below⟩
    ·refine iF rfl rfl<|lE 2 σ rfl<|lE 2 σ rfl<|lE 1 σ rfl<|lE 1 σ rfl<|eE rfl<|dx Tryz.call182 (GY (f:=oa) (c:=ca) (s:=ob) (d:=cb) (LZ hA) (LZ hB) (ahu hA) (ahu hB)) σ rfl fun _ σ=>?_
     cases hm:mG oa ca ob cb
     ·exact iT rfl rfl<|vE rfl (fun η=>cK (c:=#[aq 0,aq 0,aq 0,aq 0,aq 0]) bG η rfl rfl)<|eE rfl<|cX 0 σ rfl fun _ σ=>oR (fun e=>gC Tryz.results134 (RV.cell e an rfl σ.dj rfl) (RV.tmp e rfl))<|⟨by rw [show eD (oa,ta,aa,ba,ca) (ob,tb,xb,yb,cb)=none by unfold eD; rw [aQ (by dsimp only; omega)]; dsimp only; rw [hm]; rfl]; rfl,σ.below⟩
     ·rename_i q9
      obtain ⟨o9,k9⟩:=q9
      obtain ⟨t1,t2,-⟩:=lT hm
      have hcn:-512<=Ut oa ca ob cb/\Ut oa ca ob cb<=512:=by rw [t2]; exact ahw hA hB hm ae
      exact iF rfl rfl<|lE 1 σ rfl<|lE 2 σ rfl<|eE rfl<|dx Tryz.call181 (lu (op:=(Zv oa ca ob cb)) (tr:=tb) (ra:=aa) (cn:=(Ut oa ca ob cb))) σ rfl fun _ σ=>eE rfl<|dx Tryz.call133 (GZ (op:=(Zv oa ca ob cb)) (tr:=tb) (ra:=aa) (rb:=(0:Int)) (cn:=(Ut oa ca ob cb)) σ.aU ae ae) σ rfl fun _ σ=>eE rfl<|cX 0 σ rfl fun _ σ=>oR (fun e=>gC Tryz.results134 (RV.cell e an rfl σ.dj rfl) (RV.tmp e rfl))<|⟨by rw [show eD (oa,ta,aa,ba,ca) (ob,tb,xb,yb,cb)=some (bM (Zv oa ca ob cb,tb,aa,0,Ut oa ca ob cb)) by unfold eD; rw [aQ (by dsimp only; omega)]; dsimp only; rw [hm,t1,t2]; rfl]; rfl,σ.below⟩
def foF (st:List IE) (e:IE):List IE:=dJ st (bM e)
theorem G0 {es st:List IE} {j:Nat} {e:IE} (h:es[j]?=some e):(es.drop j).foldl foF st=(es.drop (j+1)).foldl foF (dJ st (bM e)):=by
 obtain ⟨hi,rfl⟩:=bU.1 h
 rw [gW hi]
 rfl
theorem ac6 {st:List IE} {op tr ra rb cn:Int} (h:op=1/\tr=ra):dJ st (op,tr,ra,rb,cn)=st:=by
 have hn:nm (op,tr,ra,rb,cn)=true:=by unfold nm; exact dU h
 cases st with
 | nil=>unfold dJ; rw [hn]; rfl
 | cons a st=>unfold dJ; rw [hn]; rfl
theorem SH {op tr ra rb cn:Int} (h:¬(op=1/\tr=ra)):dJ [] (op,tr,ra,rb,cn)=[(op,tr,ra,rb,cn)]:=by
 have hn:nm (op,tr,ra,rb,cn)=false:=by unfold nm; exact bR h
 unfold dJ; rw [hn]; rfl
theorem L1 {a:IE} {st:List IE} {op tr ra rb cn:Int} (h:¬(op=1/\tr=ra)) (hm:eD a (op,tr,ra,rb,cn)=none):dJ (a::st) (op,tr,ra,rb,cn)=(op,tr,ra,rb,cn)::a::st:=by
 have hn:nm (op,tr,ra,rb,cn)=false:=by unfold nm; exact bR h
 rw [dJ,hn,hm]; rfl
theorem G1 {a x:IE} {st:List IE} {op tr ra rb cn:Int} (h:¬(op=1/\tr=ra)) (hm:eD a (op,tr,ra,rb,cn)=some x):dJ (a::st) (op,tr,ra,rb,cn)=dJ st x:=by
 have hn:nm (op,tr,ra,rb,cn)=false:=by unfold nm; exact bR h
 rw [dJ,hn,hm]; rfl
theorem rev_last {a:IE} {st:List IE}:((a::st).reverse)[st.length]?=some a:=by
 rw [tf,<- yz,List.getElem?_concat_length]
theorem G2 {a:IE} {st:List IE}:((a::st).reverse).take st.length=st.reverse:=by
 rw [tf,<- yz,List.take_left]
theorem W7 {w0:World} {i g:Int} {A0 A1:Option Addr} {n0 c0 n1 c1:Nat} {es0:List IE} {es1:List Int} (h0:(jM A0 n0 c0 es0).P w0) (h1:(bE A1 n1 c1 es1).P w0) (hD:iG w0) (bH:jc i g n0 n1 es0 es1):
  Calls Tryz.prog 89 #[.agg #[aq i,aq g,.slice A0 n0 c0,.slice A1 n1 c1]] w0 fun e w'=>∃A n c B d,e=.returned (.tuple #[.agg #[aq i,aq g,.slice A n c,.slice B n1 d],aq 0])/\St w0 w' [aad A n c (kK es0),aab B n1 d es1] []/\(kK es0).length=n:=by
 have k1:=bH.i1
 have k2:=bH.ln
 refine dp Tryz.func89 rfl Tryz.ntmps89 rfl fun σ=>?_
 replace σ:=σ.j1 hD
 have a8:=h0.2.1
 have ic:=h0.1.cap
 have bW:=h0.1.big
 unfold maxLen at bW
 have cY:=h1.2.1
 have kY:=h1.1.cap
 have eC:=h1.1.big
 unfold maxLen at eC
 replace σ:=σ.aE h0
 replace σ:=σ.aE h1
 refine eE rfl<|gN σ rfl fun _ bJ σ=>eE rfl<|eL bf σ rfl fun _ cJ σ=>We rfl<|gE 1 σ rfl<|eE rfl<|dx Tryz.call41 (iu σ.bC σ.aU bH) σ rfl fun _ σ=>ir rfl<|kB (b':=false) rfl<|iF rfl rfl<|lE 1 σ rfl<|?_
 replace σ:=(σ.cl ar 116 5)
 refine fX (fun mz l w=>∃j:Nat,∃A2:Option Addr,∃c2:Nat,∃n2:Nat,∃Zx:List IE,n0 - j=mz/\l=[(6,.slice A2 n2 c2),(24,ak j),(1,bB bJ),(2,bB cJ),(22,.slice A0 n0 c0),(23,ak n0)]/\St w0 w [aad A2 n2 c2 Zx.reverse,bk cJ #[aq 0,aq 0,bA,bA] 28,bk bJ #[aq i,aq g,.slice A0 n0 c0,.slice A1 n1 c1] 28] [bE A1 n1 c1 es1,jM A0 n0 c0 es0,my]/\j<=n0/\(es0.drop j).foldl foF Zx=es0.foldl foF []/\(∀e∈Zx,cN e g)/\Zx.length=n2/\n2<=j) ⟨0,none,0,0,([]:List IE),rfl,rfl,σ,(bm _),rfl,(fun _ h=>by cases h),rfl,(aY _)⟩ ay ?_
 rintro _ _ _ ⟨j,A2,c2,n2,Zx,rfl,rfl,σ,hj,hi,hms,jb,hb⟩
 refine ei rfl<|wD (fun lU=>?_) fun lU=>?_
 ·have cD:j<n0:=ae
  obtain ⟨⟨op,tr,ra,rb,cn⟩,b5⟩:∃e,es0[j]?=some e:=⟨_,aw ae⟩
  have hMe:=bH.may _ (aB b5)
  refine iT rfl rfl<|vE rfl (fun η=>az (i:=j) η Tryz.underlying25 (an.size) rfl rfl ae rfl σ.bC.1)<|cE rfl (fun η=>bF (v:=#[aq op,aq tr,aq ra,aq rb,aq cn]) (i:=j) (e:=(op,tr,ra,rb,cn)) η an rfl rfl iR σ.bC.1 ae b5 rfl)<|eE rfl<|eL aI σ rfl fun _ eZ σ=>eE rfl<|cX 0 σ rfl fun _ σ=>We rfl<|gE 0 σ rfl<|eE rfl<|dx Tryz.call133 (GZ (op:=op) (tr:=tr) (ra:=ra) (rb:=rb) (cn:=cn) σ.cF (LZ hMe).1 (LZ hMe).2) σ rfl fun _ σ=>eE rfl<|eL aI σ rfl fun _ oo σ=>eE rfl<|cX 0 σ rfl fun _ σ=>fX (fun mz l w=>∃A3:Option Addr,∃c3:Nat,∃n3:Nat,∃OC:List IE,∃ob:Int,∃tb:Int,∃xb:Int,∃yb:Int,∃cb:Int,n3=mz/\l=[(6,.slice A3 n3 c3),(1,bB bJ),(2,bB cJ),(9,bB oo),(22,.slice A0 n0 c0),(23,ak n0),(24,ak j)]/\St w0 w [aad A3 n3 c3 OC.reverse,bk oo #[aq ob,aq tb,aq xb,aq yb,aq cb] 116,bk eZ #[aq op,aq tr,aq ra,aq rb,aq cn] 116,bk cJ #[aq 0,aq 0,bA,bA] 28,bk bJ #[aq i,aq g,.slice A0 n0 c0,.slice A1 n1 c1] 28] [bE A1 n1 c1 es1,jM A0 n0 c0 es0,my]/\dJ OC (ob,tb,xb,yb,cb)=dJ Zx (bM (op,tr,ra,rb,cn))/\(∀e∈OC,cN e g)/\OC.length=n3/\cN (ob,tb,xb,yb,cb) g/\n3<=n2) ⟨A2,c2,n2,Zx,(bM (op,tr,ra,rb,cn)).1,(bM (op,tr,ra,rb,cn)).2.1,(bM (op,tr,ra,rb,cn)).2.2.1,(bM (op,tr,ra,rb,cn)).2.2.2.1,(bM (op,tr,ra,rb,cn)).2.2.2.2,rfl,rfl,σ.pick [2,0,1,3,4] [0,1,2] ai,rfl,hms,jb,(pI hMe),(aY _)⟩ ay ?_
  rintro _ _ _ ⟨A3,c3,n3,OC,ob,tb,xb,yb,cb,rfl,rfl,σ,h3,Ee,sH,hB,tW⟩
  refine lE 1 σ rfl<|cZ rfl<|wQ (fun wa=>?_) fun wa=>?_
  ·refine lE 1 σ rfl<|lE 1 σ rfl<|cZ rfl<|wQ (fun Ah=>?_) fun Ah=>?_
   ·exact iT rfl rfl<|can (j:=1) rfl ae<|dF ⟨j+1,A3,c3,n3,OC,rfl,rfl,σ.pick [0,3,4] [0,1,2] ai,ae,(by rw [<- hi,G0 b5,<- h3,ac6 ⟨wa,Ah⟩]),Ee,sH,ae⟩ ay ae
   ·refine iF rfl rfl<|cZ rfl<|wQ (fun rB=>?_) fun rB=>?_
    ·obtain rfl:OC=[]:=jE ae
     refine iT rfl rfl<|gE 1 σ rfl<|eE rfl<|lr (z:=5) #[aq ob,aq tb,aq xb,aq yb,aq cb] σ (an.size) aI rfl aK fun _ B4 σ=>eE rfl<|pT (new:=[(ob,tb,xb,yb,cb)]) 1 0 σ bT rfl (by unfold maxLen; omega) ae fun _ Bt uc σ=>?_
     rw [<- tf] at σ
     exact can (j:=1) rfl ae<|dF ⟨j+1,(bh Bt),uc,(n3+1),((ob,tb,xb,yb,cb)::[]),rfl,rfl,σ.pick [1,4,5] [0,1,2] ai,ae,(by rw [<- hi,G0 b5,<- h3,SH (fun q=>Ah q.2)]),(fun e he=>(dW.1 he).elim (fun q=>q ▸ hB) (Ee e)),(by simp<;>omega),ae⟩ ay ae
    ·obtain ⟨⟨oa,ta,aa,ba,ca⟩,sJ,rfl⟩:∃a sJ,OC=a::sJ:=by cases OC with | nil=>exact absurd sH (by simp; omega) | cons a sJ=>exact ⟨a,sJ,rfl⟩
     have hA:=Ee _ (bS ..)
     have KD:sJ.length+1=n3:=sH
     obtain rfl:=KD
     refine iF rfl rfl<|Wc 0 (fun l w=>∃g10:Nat,l=[(10,bB g10),(11,.bool ((eD (oa,ta,aa,ba,ca) (ob,tb,xb,yb,cb)).isSome)),(1,bB bJ),(2,bB cJ),(6,.slice A3 (sJ.length+1) c3),(9,bB oo),(22,.slice A0 n0 c0),(23,ak n0),(24,ak j)]/\St w0 w [bk g10 #[aq (((eD (oa,ta,aa,ba,ca) (ob,tb,xb,yb,cb)).getD (0,0,0,0,0)).1),aq (((eD (oa,ta,aa,ba,ca) (ob,tb,xb,yb,cb)).getD (0,0,0,0,0)).2.1),aq (((eD (oa,ta,aa,ba,ca) (ob,tb,xb,yb,cb)).getD (0,0,0,0,0)).2.2.1),aq (((eD (oa,ta,aa,ba,ca) (ob,tb,xb,yb,cb)).getD (0,0,0,0,0)).2.2.2.1),aq (((eD (oa,ta,aa,ba,ca) (ob,tb,xb,yb,cb)).getD (0,0,0,0,0)).2.2.2.2)] 116,aad A3 (sJ.length+1) c3 (((oa,ta,aa,ba,ca)::sJ).reverse),bk oo #[aq ob,aq tb,aq xb,aq yb,aq cb] 116,bk eZ #[aq op,aq tr,aq ra,aq rb,aq cn] 116,bk cJ #[aq 0,aq 0,bA,bA] 28,bk bJ #[aq i,aq g,.slice A0 n0 c0,.slice A1 n1 c1] 28] [bE A1 n1 c1 es1,jM A0 n0 c0 es0,my]) rfl ?_ ?_
     ·refine gY [12] [0,4,8,12,16,21,25,3,0,0,0,0,0,0] aK σ fun _ σ=>xD (j:=1) rfl ae<|vE rfl (fun η=>az (i:=(sJ.length+1) - 1) η Tryz.underlying25 (an.size) rfl rfl ae rfl (ax σ.dm))<|sE rfl (fun η hg=>bF (v:=#[aq oa,aq ta,aq aa,aq ba,aq ca]) (i:=(sJ.length+1) - 1) (e:=(oa,ta,aa,ba,ca)) η an rfl rfl iR (ax (hg.ow (j:=0) rfl)) ae rev_last rfl)<|gS 1 rfl<|brE [(7,[32,36,40,46,50,52]),(11,[30,32,36,40,50,52])] aK cT ⟨⟨⟨_,_,_,_,_,rfl,?_⟩,by kernel_rfl,rfl⟩,⟨⟨_,_,_,_,_,rfl,?_⟩,by kernel_rfl,rfl⟩,trivial⟩
      ·exact dx Tryz.call134 (yq σ.cF hA hB) σ rfl fun _ σ=>sk σ.kn<|eS rfl<|eL aI σ rfl fun _ g62 σ=>sk (σ.kd 1 0)<|eS rfl<|cX 0 σ rfl fun _ σ=>sz rfl<|xf ⟨g62,rfl,σ⟩ ay
      ·exact eL aI σ rfl fun _ WD σ=>sk (σ.kd 1 0)<|eS rfl<|dx Tryz.call134 (yq σ.cF hA hB) σ rfl fun _ σ=>sk (σ.kd 1 0)<|eS rfl<|cX 0 σ rfl fun _ σ=>sz rfl<|xf ⟨WD,rfl,σ⟩ ay
     rintro _ _ ⟨g10,rfl,σ⟩
     cases hm:eD (oa,ta,aa,ba,ca) (ob,tb,xb,yb,cb)
     ·rw [hm] at σ
      refine iT rfl rfl<|gE 2 σ rfl<|eE rfl<|lr (z:=5) #[aq ob,aq tb,aq xb,aq yb,aq cb] σ (an.size) aI rfl aK fun _ NM σ=>eE rfl<|pT (new:=[(ob,tb,xb,yb,cb)]) 2 0 σ bT rfl (by unfold maxLen; omega) ae fun _ Ox V2 σ=>?_
      rw [<- tf] at σ
      exact can (j:=1) rfl ae<|dF ⟨j+1,(bh Ox),V2,((sJ.length+1)+1),((ob,tb,xb,yb,cb)::((oa,ta,aa,ba,ca)::sJ)),rfl,rfl,σ.pick [2,5,6] [0,1,2] ai,ae,(by rw [<- hi,G0 b5,<- h3,L1 (fun q=>Ah q.2) hm]),(fun e he=>(dW.1 he).elim (fun q=>q ▸ hB) (Ee e)),(by simp<;>omega),ae⟩ ay ae
     ·rw [hm] at σ
      rename_i x9
      obtain ⟨o9,t9,a9,b9,c9⟩:=x9
      refine iF rfl rfl<|xD (j:=1) rfl ae<|vE rfl (fun η=>nh (m:=sJ.length) η Tryz.underlying25 (an.size) rfl rfl (bq (nJ _) (ax σ.fK).cap))<|?_
      replace σ:=σ.PT (k:=1) rfl cT sJ.length iR (nJ _)
      rw [G2] at σ
      exact gE 0 σ rfl<|eE rfl<|cX 2 σ rfl fun _ σ=>dF ⟨A3,c3,sJ.length,sJ,o9,t9,a9,b9,c9,rfl,rfl,σ.pick [1,2,3,4,5] [0,1,2] ai,(by rw [<- h3,G1 (fun q=>Ah q.2) hm]),(fun e he=>Ee e (cO _ he)),rfl,(rX hm hA hB),(by simp at sH; omega)⟩ ay (by simp at sH; omega)
  ·refine iF rfl rfl<|cZ rfl<|wQ (fun Zw=>?_) fun Zw=>?_
   ·obtain rfl:OC=[]:=jE ae
    refine iT rfl rfl<|gE 1 σ rfl<|eE rfl<|lr (z:=5) #[aq ob,aq tb,aq xb,aq yb,aq cb] σ (an.size) aI rfl aK fun _ g68 σ=>eE rfl<|pT (new:=[(ob,tb,xb,yb,cb)]) 1 0 σ bT rfl (by unfold maxLen; omega) ae fun _ g69 c70 σ=>?_
    rw [<- tf] at σ
    exact can (j:=1) rfl ae<|dF ⟨j+1,(bh g69),c70,(n3+1),((ob,tb,xb,yb,cb)::[]),rfl,rfl,σ.pick [1,4,5] [0,1,2] ai,ae,(by rw [<- hi,G0 b5,<- h3,SH (fun q=>wa q.1)]),(fun e he=>(dW.1 he).elim (fun q=>q ▸ hB) (Ee e)),(by simp<;>omega),ae⟩ ay ae
   ·obtain ⟨⟨oa,ta,aa,ba,ca⟩,sJ,rfl⟩:∃a sJ,OC=a::sJ:=by cases OC with | nil=>exact absurd sH (by simp; omega) | cons a sJ=>exact ⟨a,sJ,rfl⟩
    have hA:=Ee _ (bS ..)
    have KD:sJ.length+1=n3:=sH
    obtain rfl:=KD
    refine iF rfl rfl<|Wc 0 (fun l w=>∃g10:Nat,l=[(10,bB g10),(11,.bool ((eD (oa,ta,aa,ba,ca) (ob,tb,xb,yb,cb)).isSome)),(1,bB bJ),(2,bB cJ),(6,.slice A3 (sJ.length+1) c3),(9,bB oo),(22,.slice A0 n0 c0),(23,ak n0),(24,ak j)]/\St w0 w [bk g10 #[aq (((eD (oa,ta,aa,ba,ca) (ob,tb,xb,yb,cb)).getD (0,0,0,0,0)).1),aq (((eD (oa,ta,aa,ba,ca) (ob,tb,xb,yb,cb)).getD (0,0,0,0,0)).2.1),aq (((eD (oa,ta,aa,ba,ca) (ob,tb,xb,yb,cb)).getD (0,0,0,0,0)).2.2.1),aq (((eD (oa,ta,aa,ba,ca) (ob,tb,xb,yb,cb)).getD (0,0,0,0,0)).2.2.2.1),aq (((eD (oa,ta,aa,ba,ca) (ob,tb,xb,yb,cb)).getD (0,0,0,0,0)).2.2.2.2)] 116,aad A3 (sJ.length+1) c3 (((oa,ta,aa,ba,ca)::sJ).reverse),bk oo #[aq ob,aq tb,aq xb,aq yb,aq cb] 116,bk eZ #[aq op,aq tr,aq ra,aq rb,aq cn] 116,bk cJ #[aq 0,aq 0,bA,bA] 28,bk bJ #[aq i,aq g,.slice A0 n0 c0,.slice A1 n1 c1] 28] [bE A1 n1 c1 es1,jM A0 n0 c0 es0,my]) rfl ?_ ?_
    ·refine gY [12] [0,4,8,12,16,21,25,3,0,0,0,0,0,0] aK σ fun _ σ=>xD (j:=1) rfl ae<|vE rfl (fun η=>az (i:=(sJ.length+1) - 1) η Tryz.underlying25 (an.size) rfl rfl ae rfl (ax σ.dm))<|sE rfl (fun η hg=>bF (v:=#[aq oa,aq ta,aq aa,aq ba,aq ca]) (i:=(sJ.length+1) - 1) (e:=(oa,ta,aa,ba,ca)) η an rfl rfl iR (ax (hg.ow (j:=0) rfl)) ae rev_last rfl)<|gS 1 rfl<|brE [(7,[32,36,40,46,50,52]),(11,[30,32,36,40,50,52])] aK cT ⟨⟨⟨_,_,_,_,_,rfl,?_⟩,by kernel_rfl,rfl⟩,⟨⟨_,_,_,_,_,rfl,?_⟩,by kernel_rfl,rfl⟩,trivial⟩
     ·exact dx Tryz.call134 (yq σ.cF hA hB) σ rfl fun _ σ=>sk σ.kn<|eS rfl<|eL aI σ rfl fun _ g71 σ=>sk (σ.kd 1 0)<|eS rfl<|cX 0 σ rfl fun _ σ=>sz rfl<|xf ⟨g71,rfl,σ⟩ ay
     ·exact eL aI σ rfl fun _ g72 σ=>sk (σ.kd 1 0)<|eS rfl<|dx Tryz.call134 (yq σ.cF hA hB) σ rfl fun _ σ=>sk (σ.kd 1 0)<|eS rfl<|cX 0 σ rfl fun _ σ=>sz rfl<|xf ⟨g72,rfl,σ⟩ ay
    rintro _ _ ⟨g10,rfl,σ⟩
    cases hm:eD (oa,ta,aa,ba,ca) (ob,tb,xb,yb,cb)
    ·rw [hm] at σ
     refine iT rfl rfl<|gE 2 σ rfl<|eE rfl<|lr (z:=5) #[aq ob,aq tb,aq xb,aq yb,aq cb] σ (an.size) aI rfl aK fun _ W2 σ=>eE rfl<|pT (new:=[(ob,tb,xb,yb,cb)]) 2 0 σ bT rfl (by unfold maxLen; omega) ae fun _ g74 c75 σ=>?_
     rw [<- tf] at σ
     exact can (j:=1) rfl ae<|dF ⟨j+1,(bh g74),c75,((sJ.length+1)+1),((ob,tb,xb,yb,cb)::((oa,ta,aa,ba,ca)::sJ)),rfl,rfl,σ.pick [2,5,6] [0,1,2] ai,ae,(by rw [<- hi,G0 b5,<- h3,L1 (fun q=>wa q.1) hm]),(fun e he=>(dW.1 he).elim (fun q=>q ▸ hB) (Ee e)),(by simp<;>omega),ae⟩ ay ae
    ·rw [hm] at σ
     rename_i x9
     obtain ⟨o9,t9,a9,b9,c9⟩:=x9
     refine iF rfl rfl<|xD (j:=1) rfl ae<|vE rfl (fun η=>nh (m:=sJ.length) η Tryz.underlying25 (an.size) rfl rfl (bq (nJ _) (ax σ.fK).cap))<|?_
     replace σ:=σ.PT (k:=1) rfl cT sJ.length iR (nJ _)
     rw [G2] at σ
     exact gE 0 σ rfl<|eE rfl<|cX 2 σ rfl fun _ σ=>dF ⟨A3,c3,sJ.length,sJ,o9,t9,a9,b9,c9,rfl,rfl,σ.pick [1,2,3,4,5] [0,1,2] ai,(by rw [<- h3,G1 (fun q=>wa q.1) hm]),(fun e he=>Ee e (cO _ he)),rfl,(rX hm hA hB),(by simp at sH; omega)⟩ ay (by simp at sH; omega)
 ·obtain rfl:n0=j:=ae
  have acR:Zx.reverse=kK es0:=by unfold kK; rw [show es0.foldl (fun st e=>dJ st (bM e)) []=es0.foldl foF [] from rfl,<- hi,dM ae]; rfl
  refine iF rfl rfl<|gY [9] [0,5,8,13,16,20,25,30,32,38,40] aK σ fun _ σ=>lS 2 rfl<|lS 2 rfl<|lS 2 rfl<|eS rfl<|cS Tryz.call94 (wv σ.aU ae) rfl ?_
  rintro _ _ ⟨A76,c77,rfl,Je⟩
  refine ⟨_,rfl,?_⟩
  replace σ:=σ.more Je
  exact sk (σ.kd 1 0)<|vE rfl (fun η=>cK (c:=#[aq i,aq g,.slice A2 n2 c2,.slice A76 n1 c77]) eM η rfl rfl)<|eS rfl<|cX 2 σ rfl fun _ σ=>sz rfl<|oR (fun e=>gC Tryz.results89 (RV.cell e aO rfl σ.Bm rfl) (RV.tmp e rfl))<|by rw [<- acR]; exact ⟨_,_,_,_,_,rfl,σ.pick [1,0] [] ai,by rw [yz]; exact jb⟩
abbrev PQ:=Int×Int×(Option Addr×Nat×Nat)×(Option Addr×Nat×Nat)
def ov (i g:Nat) (p:List IE×List Int) (j:Nat):List IE×List Int:=
 if j=0 then p else if j=1 then (kK p.1,p.2) else if j=2 then (l8 i g (kK p.1),kL i g (kK p.1) p.2) else DC i g p
theorem Ef {i g n n0 n1:Nat} {G:List Rw} {p:List IE×List Int} {O:List Rw} (hi:G.length=i) (h:lp i g n G p.1 p.2 O) (hc:jc i g n0 n1 p.1 p.2) (hl:p.1.length=n0) (j:Nat):jc i g (ov i g p j).1.length n1 (ov i g p j).1 (ov i g p j).2/\(ov i g p j).2.length=p.2.length:=by
 obtain ⟨R',h1,h2⟩:=h.run
 have q1:=hc.i1
 have q2:=hc.ln
 have hg:i<=g:=ae
 have f1:=FB h.may (iX ae) h1
 have f2:=Cf h.may
 have f3:=Cg p.1
 obtain ⟨s1,s2,s3,s4⟩:=Ci hi hg f2 f1
 have so:∀r∈kL i g (kK p.1) p.2,0<=r/\r<(g:Int):=fun r hr=>by
  obtain ⟨v,hv,rfl⟩:=ff.1 hr
  have:=s4 v (h.out v hv).1 (h.out v hv).2
  exact ⟨this.2.1,this.2.2⟩
 have sl:(kL i g (kK p.1) p.2).length=p.2.length:=by unfold kL; simp
 have hd:=vX (kL i g (kK p.1) p.2) (l8 i g (kK p.1))
 unfold ov
 split
 ·exact ⟨⟨q1,⟨by omega,q2.2⟩,h.may,h.out⟩,rfl⟩
 ·split
  ·exact ⟨⟨q1,⟨by dsimp only; omega,q2.2⟩,f2,h.out⟩,rfl⟩
  ·split
   ·exact ⟨⟨q1,⟨by dsimp only; omega,q2.2⟩,s2,so⟩,sl⟩
   ·refine ⟨⟨q1,⟨?_,q2.2⟩,fun e he=>s2 e (oH _ _ e he),so⟩,sl⟩
    unfold DC
    dsimp only
    omega
theorem NQ {i g m:Nat} {p q:List IE×List Int} (hm:m<16) (h:gH i g (16 - m) p=q) (sQ:¬DC i g p=p):gH i g (16 - (m+1)) (DC i g p)=q:=by
 rw [show 16 - m=(16 - (m+1))+1 by omega,gH,aQ sQ] at h
 exact h
theorem NR {i g m:Nat} {p q:List IE×List Int} (hm:m<16) (h:gH i g (16 - m) p=q) (he:DC i g p=p):DC i g p=q:=by
 rw [show 16 - m=(16 - (m+1))+1 by omega,gH,aR he] at h
 exact h
theorem G3 {i g n n0 n1:Nat} {G:List Rw} {p:List IE×List Int} {O:List Rw} (hi:G.length=i) (h:lp i g n G p.1 p.2 O) (hc:jc i g n0 n1 p.1 p.2) (hl:p.1.length=n0):
  jc i g (gH i g 16 p).1.length n1 (gH i g 16 p).1 (gH i g 16 p).2/\(gG (gH i g 16 p).2 (gH i g 16 p).1).1=List.replicate (gH i g 16 p).1.length true/\(gH i g 16 p).2.length=p.2.length:=by
 have q1:=hc.i1
 have q2:=hc.ln
 obtain ⟨a,b,c,d⟩:=xY hi (show i<=g by omega) 15 p h
 rw [show 15+1=16 from rfl] at a b c d
 exact ⟨⟨q1,⟨by omega,q2.2⟩,a.may,a.out⟩,d,c⟩
theorem L2 {i g n:Nat} {G:List Rw} {es:List IE} {os:List Int} {O:List Rw} (hi:G.length=i) (hg:i<=g) (h:lp i g n G es os O):(ig i g es os).length=(gH i g 16 (es,os)).1.length:=by
 obtain ⟨a,b,c,d⟩:=xY hi hg 15 (es,os) h
 obtain ⟨R',h1,h2⟩:=a.run
 obtain ⟨P',p1,p2,p3,p4,p5,p6,p7⟩:=FX hi hg a.may a.out d h1
 unfold ig
 exact p7
theorem JA {w0:World} {i g n0 c0 n1 c1:Nat} {A0 A1:Option Addr}:
  Calls Tryz.prog 49 #[.agg (u4 i g A0 n0 c0 A1 n1 c1)] w0 fun e w'=>∃gp,e=.returned (.func (.func 88) #[] #[bB gp])/\St w0 w' [bk gp (u4 i g A0 n0 c0 A1 n1 c1) 28] []:=by
 exact dp Tryz.func49 rfl Tryz.ntmps49 rfl fun σ=>eE rfl<|gN σ rfl fun _ bJ σ=>vE rfl (fun η=>cW η rfl rfl)<|o1 Tryz.results49 rfl<|⟨_,rfl,σ.pick [0] [] ai⟩
theorem NS {w0 w1:World} {i g nn l0 gp:Nat} {G:List Rw} {O:List Rw} {J:PQ->PF} {s0:PQ} {A0 A1:Option Addr} {n0 c0 n1 c1:Nat} {es0:List IE} {es1:List Int} (bH:jc (i:Nat) (g:Nat) n0 n1 es0 es1) (EL:G.length=i) (Eg:lp i g nn G es0 es1 O)
  (hY:∀(x:Value×PQ) s Y,St w0 Y [J s] [bP Y (J s)]->YieldAt (WF none) 7 Tryz.prog l0 #[x.1,.agg #[aq x.2.1,aq x.2.2.1,.slice x.2.2.2.1.1 x.2.2.2.1.2.1 x.2.2.2.1.2.2,.slice x.2.2.2.2.1 x.2.2.2.2.2.1 x.2.2.2.2.2.2]] Y fun e Z=>e=.returned (.bool true)/\St w0 Z [J x.2] [bP Y (J s)])
  (hS:St w0 w1 [J s0] [bP w1 (J s0),bk gp (u4 i g A0 n0 c0 A1 n1 c1) 28,jM A0 n0 c0 es0,bE A1 n1 c1 es1,my]):
  Calls Tryz.prog 88 #[.func (.yield l0) #[] #[],bB gp] w1 fun e w'=>(∃v,e=.returned v)/\∃s' new,(∃A n c B d,n<=n0/\(ig i g es0 es1).length=n/\s'=(((i:Nat):Int),((nt i g es0 es1:Nat):Int),(A,n,c),(B,n1,d))/\new=[aad A n c (ig i g es0 es1),aab B n1 d (ns i g es0 es1)])/\St w0 w' (J s'::new) [bP w1 (J s0)]:=by
 refine dp Tryz.func88 rfl Tryz.ntmps88 rfl fun σ=>?_
 have q1:=bH.i1
 have q2:=bH.ln
 replace σ:=hS
 have a8:=σ.cF.2.1
 have cY:=σ.eY.2.1
 refine cE rfl (fun η=>dX η aO rfl (kg σ.bC) rfl)<|eE rfl<|dx Tryz.call41 (iu σ.cF σ.eY bH) σ rfl fun _ σ=>ir rfl<|kB (b':=false) rfl<|iF rfl rfl<|cE rfl (fun η=>dX η aO rfl (kg σ.bC) rfl)<|eE rfl<|cS Tryz.call50 (nU σ.cF σ.eY ae ae) rfl ?_
 rintro _ _ ⟨Zm,Zn,B53,d54,rfl,Jg⟩
 refine ⟨_,rfl,?_⟩
 replace σ:=σ.more Jg
 refine eE rfl<|eL bf σ rfl fun _ z7 σ=>eE rfl<|cX 0 σ rfl fun _ σ=>vE rfl (fun η=>cK (c:=#[.string ⟨#[102,111,108,100]⟩,.func (.func 89) #[] #[]]) jR η rfl rfl)<|vE rfl (fun η=>cK (c:=#[.string ⟨#[115,104,97,114,101]⟩,.func (.func 90) #[] #[]]) jR η rfl rfl)<|vE rfl (fun η=>cK (c:=#[.string ⟨#[100,101,97,100]⟩,.func (.func 91) #[] #[]]) jR η rfl rfl)<|eE rfl<|lr (z:=2) #[.string ⟨#[102,111,108,100]⟩,.func (.func 89) #[] #[],.string ⟨#[115,104,97,114,101]⟩,.func (.func 90) #[] #[],.string ⟨#[100,101,97,100]⟩,.func (.func 91) #[] #[]] σ (dS.size) fZ rfl aK fun _ B4 σ=>?_
 replace σ:=σ.eH (k:=2) rfl a8
 replace σ:=σ.eH (k:=2) rfl cY
 refine fX (fun mz l w=>∃m:Nat,∃x5:PQ,∃ec:List IE,∃oc:List Int,∃nc:Nat,∃A5:Option Addr,∃c5:Nat,∃B5:Option Addr,∃d5:Nat,16 - m=mz/\l=[(23,ak m),(0,.func (.yield l0) #[] #[]),(5,bB z7),(6,.slice (bh B4) 3 3)]/\St w0 w [J x5,bk z7 (u4 i g A5 nc c5 B5 n1 d5) 28,bk B4 #[.string ⟨#[102,111,108,100]⟩,.func (.func 89) #[] #[],.string ⟨#[115,104,97,114,101]⟩,.func (.func 90) #[] #[],.string ⟨#[100,101,97,100]⟩,.func (.func 91) #[] #[]] 168] [jM A5 nc c5 ec,bE B5 n1 d5 oc,bP w1 (J s0),bk gp (u4 i g A0 n0 c0 A1 n1 c1) 28,jM A0 n0 c0 es0,bE A1 n1 c1 es1,my]/\m<=16/\gH i g (16 - m) (ec,oc)=gH i g 16 (es0,es1)/\lp i g nn G ec oc O/\jc (i:Nat) (g:Nat) nc n1 ec oc/\ec.length=nc/\oc.length=n1) ⟨0,s0,es0,es1,n0,Zm,Zn,B53,d54,rfl,rfl,σ.pick [2,1,0] [1,0,2,3,4,5,6] ai,(bm _),rfl,Eg,bH,a8,cY⟩ ay ?_
 rintro _ _ _ ⟨m,x5,ec,oc,nc,A5,c5,B5,d5,rfl,rfl,σ,hm,hR,hPr,hCh,Uu,W8⟩
 refine ei rfl<|wD (fun xg=>?_) fun xg=>?_
 ·refine iT rfl rfl<|gE 1 σ rfl<|eE rfl<|eL bf σ rfl fun _ GF σ=>eE rfl<|cX 0 σ rfl fun _ σ=>?_
  replace σ:St w0 _ [bk GF (u4 i g A5 nc c5 B5 n1 d5) 28,J x5,bk z7 (u4 i g A5 nc c5 B5 n1 d5) 28,bk B4 #[.string ⟨#[102,111,108,100]⟩,.func (.func 89) #[] #[],.string ⟨#[115,104,97,114,101]⟩,.func (.func 90) #[] #[],.string ⟨#[100,101,97,100]⟩,.func (.func 91) #[] #[]] 168] [jM A5 nc c5 ((ov i g (ec,oc) 0).1),bE B5 n1 d5 ((ov i g (ec,oc) 0).2),jM A5 nc c5 ec,bE B5 n1 d5 oc,bP w1 (J s0),bk gp (u4 i g A0 n0 c0 A1 n1 c1) 28,jM A0 n0 c0 es0,bE A1 n1 c1 es1,my]:=σ.pick [0,1,2,3] [0,1,0,1,2,3,4,5,6] ai
  refine fX (fun mz l w=>∃j:Nat,∃x6:PQ,∃nT:Nat,∃A6:Option Addr,∃c6:Nat,∃B6:Option Addr,∃d6:Nat,3 - j=mz/\l=[(28,ak j),(0,.func (.yield l0) #[] #[]),(5,bB z7),(6,.slice (bh B4) 3 3),(7,bB GF),(23,ak m),(26,.slice (bh B4) 3 3),(27,aq 3)]/\St w0 w [J x6,bk z7 (u4 i g A6 nT c6 B6 n1 d6) 28,bk GF (u4 i g A5 nc c5 B5 n1 d5) 28,bk B4 #[.string ⟨#[102,111,108,100]⟩,.func (.func 89) #[] #[],.string ⟨#[115,104,97,114,101]⟩,.func (.func 90) #[] #[],.string ⟨#[100,101,97,100]⟩,.func (.func 91) #[] #[]] 168] [jM A6 nT c6 ((ov i g (ec,oc) j).1),bE B6 n1 d6 ((ov i g (ec,oc) j).2),jM A5 nc c5 ec,bE B5 n1 d5 oc,bP w1 (J s0),bk gp (u4 i g A0 n0 c0 A1 n1 c1) 28,jM A0 n0 c0 es0,bE A1 n1 c1 es1,my]/\j<=3/\jc (i:Nat) (g:Nat) nT n1 (ov i g (ec,oc) j).1 (ov i g (ec,oc) j).2/\(ov i g (ec,oc) j).1.length=nT) ⟨0,x5,nc,A5,c5,B5,d5,rfl,rfl,σ.pick [1,2,0,3] [0,1,2,3,4,5,6,7,8] ai,(bm _),hCh,Uu⟩ ay ?_
  rintro _ _ _ ⟨j,x6,nT,A6,c6,B6,d6,rfl,rfl,σ,hj,hcT,hlT⟩
  rcases (show j=0∨j=1∨j=2∨j=3 by omega) with rfl|rfl|rfl|rfl
  ·refine ei rfl<|kB (b':=true) ai<|iT rfl rfl<|vE rfl (fun η=>kH (i:=0) (p:=0) η Tryz.underlying169 (dS.size) rfl rfl ae ae)<|cE rfl (fun η=>dH (cs:=[.string ⟨#[102,111,108,100]⟩,.func (.func 89) #[] #[]]) η dS rfl σ.Dg rfl rfl)<|eE rfl<|eL fZ σ rfl fun _ g62 σ=>eE rfl<|cX 0 σ rfl fun _ σ=>lE 0 σ rfl<|gE 2 σ rfl<|eE rfl<|sf Tryz.call89 rfl (W7 σ.aU σ.bC (σ.pat (k:=8) rfl) hcT) rfl ?_
   rintro _ _ ⟨W9,n64,c65,B66,d67,rfl,RJ,AA⟩
   refine ⟨_,rfl,?_⟩
   replace σ:=σ.more RJ
   have vR:=Ef (p:=(ec,oc)) EL hPr hCh Uu 1
   replace AA:(ov i g (ec,oc) 1).1.length=n64:=AA
   rw [AA] at vR
   have auE:=vR.1.ln
   replace σ:=σ.eH (k:=0) rfl AA
   replace σ:=σ.eH (k:=0) rfl (vR.2.trans W8)
   refine eE rfl<|cX 2 σ rfl fun _ σ=>drY 5 [] [0,4,9,13,18] (fun l w=>∃A9:Option Addr,∃c9:Nat,∃B9:Option Addr,∃d9:Nat,l=[(39,.func (.yield l0) #[] #[]),(41,.string ⟨#[102,111,108,100]⟩),(43,.agg (u4 i g A9 n64 c9 B9 n1 d9)),(0,.func (.yield l0) #[] #[]),(5,bB z7),(6,.slice (bh B4) 3 3),(7,bB GF),(23,ak m),(26,.slice (bh B4) 3 3),(27,aq 3),(28,ak 0)]/\St w0 w [aad A9 n64 c9 ((ov i g (ec,oc) 1).1),aab B9 n1 d9 ((ov i g (ec,oc) 1).2),bk g62 #[.string ⟨#[102,111,108,100]⟩,.func (.func 89) #[] #[]] 168,J x6,bk z7 (u4 i g W9 n64 c65 B66 n1 d67) 28,bk GF (u4 i g A5 nc c5 B5 n1 d5) 28,bk B4 #[.string ⟨#[102,111,108,100]⟩,.func (.func 89) #[] #[],.string ⟨#[115,104,97,114,101]⟩,.func (.func 90) #[] #[],.string ⟨#[100,101,97,100]⟩,.func (.func 91) #[] #[]] 168] [bE B66 n1 d67 ((ov i g (ec,oc) 1).2),jM W9 n64 c65 ((ov i g (ec,oc) 1).1),jM A6 nT c6 ((ov i g (ec,oc) 0).1),bE B6 n1 d6 ((ov i g (ec,oc) 0).2),jM A5 nc c5 ec,bE B5 n1 d5 oc,bP w1 (J s0),bk gp (u4 i g A0 n0 c0 A1 n1 c1) 28,jM A0 n0 c0 es0,bE A1 n1 c1 es1,my]) aK σ ?_ ?_
   ·intro _ σ
    refine lS 0 rfl<|gS 2 rfl<|eS rfl<|cS Tryz.call50 (nU σ.bC σ.aU ae ae) rfl ?_
    rintro _ _ ⟨A72,c73,B74,d75,rfl,ab7⟩
    refine ⟨_,rfl,?_⟩
    replace σ:=σ.more ab7
    exact sk (σ.kd 2 0)<|xf ⟨A72,c73,B74,d75,rfl,σ⟩ ay
   rintro _ _ ⟨A9,c9,B9,d9,rfl,σ⟩
   refine yE rfl rfl rfl (hY (.string ⟨#[102,111,108,100]⟩,(((i:Nat):Int),((g:Nat):Int),(A9,n64,c9),(B9,n1,d9))) _ _ (σ.bO (k:=3) rfl [])) ?_
   rintro _ w79 ⟨rfl,acx⟩
   refine ⟨_,rfl,?_⟩
   replace σ:=σ.j4 (k:=3) rfl acx
   replace σ:=σ.pick [2,3,4,5,6] [0,1,2,3,4,5,6,7,8,9,10] ai
   exact iF rfl rfl<|can (j:=1) rfl ae<|dF ⟨1,(((i:Nat):Int),((g:Nat):Int),(A9,n64,c9),(B9,n1,d9)),n64,W9,c65,B66,d67,rfl,rfl,σ.pick [1,2,3,4] [1,0,4,5,6,7,8,9,10] ai,ae,vR.1,AA⟩ ay ae
  ·refine ei rfl<|kB (b':=true) ai<|iT rfl rfl<|vE rfl (fun η=>kH (i:=1) (p:=2) η Tryz.underlying169 (dS.size) rfl rfl ae ae)<|cE rfl (fun η=>dH (cs:=[.string ⟨#[115,104,97,114,101]⟩,.func (.func 90) #[] #[]]) η dS rfl σ.Dg rfl rfl)<|eE rfl<|eL fZ σ rfl fun _ g81 σ=>eE rfl<|cX 0 σ rfl fun _ σ=>lE 0 σ rfl<|gE 2 σ rfl<|eE rfl<|sf Tryz.call90 rfl (WV σ.aU σ.bC hcT) rfl ?_
   rintro _ _ ⟨A82,Sv,c84,B85,d86,rfl,ab',DV⟩
   refine ⟨_,rfl,?_⟩
   replace σ:=σ.more ab'
   have BB:=Ef (p:=(ec,oc)) EL hPr hCh Uu 2
   replace DV:(ov i g (ec,oc) 2).1.length=Sv:=DV
   rw [DV] at BB
   have auH:=BB.1.ln
   replace σ:=σ.eH (k:=0) rfl DV
   replace σ:=σ.eH (k:=0) rfl (BB.2.trans W8)
   refine eE rfl<|cX 2 σ rfl fun _ σ=>drY 5 [] [0,4,9,13,18] (fun l w=>∃A9:Option Addr,∃c9:Nat,∃B9:Option Addr,∃d9:Nat,l=[(39,.func (.yield l0) #[] #[]),(41,.string ⟨#[115,104,97,114,101]⟩),(43,.agg (u4 i g A9 Sv c9 B9 n1 d9)),(0,.func (.yield l0) #[] #[]),(5,bB z7),(6,.slice (bh B4) 3 3),(7,bB GF),(23,ak m),(26,.slice (bh B4) 3 3),(27,aq 3),(28,ak 1)]/\St w0 w [aad A9 Sv c9 ((ov i g (ec,oc) 2).1),aab B9 n1 d9 ((ov i g (ec,oc) 2).2),bk g81 #[.string ⟨#[115,104,97,114,101]⟩,.func (.func 90) #[] #[]] 168,J x6,bk z7 (u4 i g A82 Sv c84 B85 n1 d86) 28,bk GF (u4 i g A5 nc c5 B5 n1 d5) 28,bk B4 #[.string ⟨#[102,111,108,100]⟩,.func (.func 89) #[] #[],.string ⟨#[115,104,97,114,101]⟩,.func (.func 90) #[] #[],.string ⟨#[100,101,97,100]⟩,.func (.func 91) #[] #[]] 168] [bE B85 n1 d86 ((ov i g (ec,oc) 2).2),jM A82 Sv c84 ((ov i g (ec,oc) 2).1),jM A6 nT c6 ((ov i g (ec,oc) 1).1),bE B6 n1 d6 ((ov i g (ec,oc) 1).2),jM A5 nc c5 ec,bE B5 n1 d5 oc,bP w1 (J s0),bk gp (u4 i g A0 n0 c0 A1 n1 c1) 28,jM A0 n0 c0 es0,bE A1 n1 c1 es1,my]) aK σ ?_ ?_
   ·intro _ σ
    refine lS 0 rfl<|gS 2 rfl<|eS rfl<|cS Tryz.call50 (nU σ.bC σ.aU ae ae) rfl ?_
    rintro _ _ ⟨A91,c92,B93,d94,rfl,ank⟩
    refine ⟨_,rfl,?_⟩
    replace σ:=σ.more ank
    exact sk (σ.kd 2 0)<|xf ⟨A91,c92,B93,d94,rfl,σ⟩ ay
   rintro _ _ ⟨A9,c9,B9,d9,rfl,σ⟩
   refine yE rfl rfl rfl (hY (.string ⟨#[115,104,97,114,101]⟩,(((i:Nat):Int),((g:Nat):Int),(A9,Sv,c9),(B9,n1,d9))) _ _ (σ.bO (k:=3) rfl [])) ?_
   rintro _ w98 ⟨rfl,anl⟩
   refine ⟨_,rfl,?_⟩
   replace σ:=σ.j4 (k:=3) rfl anl
   replace σ:=σ.pick [2,3,4,5,6] [0,1,2,3,4,5,6,7,8,9,10] ai
   exact iF rfl rfl<|can (j:=1) rfl ae<|dF ⟨2,(((i:Nat):Int),((g:Nat):Int),(A9,Sv,c9),(B9,n1,d9)),Sv,A82,c84,B85,d86,rfl,rfl,σ.pick [1,2,3,4] [1,0,4,5,6,7,8,9,10] ai,ae,BB.1,DV⟩ ay ae
  ·refine ei rfl<|kB (b':=true) ai<|iT rfl rfl<|vE rfl (fun η=>kH (i:=2) (p:=4) η Tryz.underlying169 (dS.size) rfl rfl ae ae)<|cE rfl (fun η=>dH (cs:=[.string ⟨#[100,101,97,100]⟩,.func (.func 91) #[] #[]]) η dS rfl σ.Dg rfl rfl)<|eE rfl<|eL fZ σ rfl fun _ anm σ=>eE rfl<|cX 0 σ rfl fun _ σ=>lE 0 σ rfl<|gE 2 σ rfl<|eE rfl<|sf Tryz.call91 rfl (WN σ.aU σ.bC hcT) rfl ?_
   rintro _ _ ⟨ac7,n102,Nu,ac8,d105,rfl,Gv,G4⟩
   refine ⟨_,rfl,?_⟩
   replace σ:=σ.more Gv
   have NT:=Ef (p:=(ec,oc)) EL hPr hCh Uu 3
   replace G4:(ov i g (ec,oc) 3).1.length=n102:=G4
   rw [G4] at NT
   have auL:=NT.1.ln
   replace σ:=σ.eH (k:=0) rfl G4
   replace σ:=σ.eH (k:=0) rfl (NT.2.trans W8)
   refine eE rfl<|cX 2 σ rfl fun _ σ=>drY 5 [] [0,4,9,13,18] (fun l w=>∃A9:Option Addr,∃c9:Nat,∃B9:Option Addr,∃d9:Nat,l=[(39,.func (.yield l0) #[] #[]),(41,.string ⟨#[100,101,97,100]⟩),(43,.agg (u4 i g A9 n102 c9 B9 n1 d9)),(0,.func (.yield l0) #[] #[]),(5,bB z7),(6,.slice (bh B4) 3 3),(7,bB GF),(23,ak m),(26,.slice (bh B4) 3 3),(27,aq 3),(28,ak 2)]/\St w0 w [aad A9 n102 c9 ((ov i g (ec,oc) 3).1),aab B9 n1 d9 ((ov i g (ec,oc) 3).2),bk anm #[.string ⟨#[100,101,97,100]⟩,.func (.func 91) #[] #[]] 168,J x6,bk z7 (u4 i g ac7 n102 Nu ac8 n1 d105) 28,bk GF (u4 i g A5 nc c5 B5 n1 d5) 28,bk B4 #[.string ⟨#[102,111,108,100]⟩,.func (.func 89) #[] #[],.string ⟨#[115,104,97,114,101]⟩,.func (.func 90) #[] #[],.string ⟨#[100,101,97,100]⟩,.func (.func 91) #[] #[]] 168] [bE ac8 n1 d105 ((ov i g (ec,oc) 3).2),jM ac7 n102 Nu ((ov i g (ec,oc) 3).1),jM A6 nT c6 ((ov i g (ec,oc) 2).1),bE B6 n1 d6 ((ov i g (ec,oc) 2).2),jM A5 nc c5 ec,bE B5 n1 d5 oc,bP w1 (J s0),bk gp (u4 i g A0 n0 c0 A1 n1 c1) 28,jM A0 n0 c0 es0,bE A1 n1 c1 es1,my]) aK σ ?_ ?_
   ·intro _ σ
    refine lS 0 rfl<|gS 2 rfl<|eS rfl<|cS Tryz.call50 (nU σ.bC σ.aU ae ae) rfl ?_
    rintro _ _ ⟨ann,ano,anp,d113,rfl,ahA⟩
    refine ⟨_,rfl,?_⟩
    replace σ:=σ.more ahA
    exact sk (σ.kd 2 0)<|xf ⟨ann,ano,anp,d113,rfl,σ⟩ ay
   rintro _ _ ⟨A9,c9,B9,d9,rfl,σ⟩
   refine yE rfl rfl rfl (hY (.string ⟨#[100,101,97,100]⟩,(((i:Nat):Int),((g:Nat):Int),(A9,n102,c9),(B9,n1,d9))) _ _ (σ.bO (k:=3) rfl [])) ?_
   rintro _ auM ⟨rfl,ahB⟩
   refine ⟨_,rfl,?_⟩
   replace σ:=σ.j4 (k:=3) rfl ahB
   replace σ:=σ.pick [2,3,4,5,6] [0,1,2,3,4,5,6,7,8,9,10] ai
   exact iF rfl rfl<|can (j:=1) rfl ae<|dF ⟨3,(((i:Nat):Int),((g:Nat):Int),(A9,n102,c9),(B9,n1,d9)),n102,ac7,Nu,ac8,d105,rfl,rfl,σ.pick [1,2,3,4] [1,0,4,5,6,7,8,9,10] ai,ae,NT.1,G4⟩ ay ae
  ·have NT:=Ef (p:=(ec,oc)) EL hPr hCh Uu 3
   have ahC:=hlT
   rw [hlT] at NT
   refine ei rfl<|kB (b':=false) ai<|iF rfl rfl<|gE 2 σ rfl<|gE 1 σ rfl<|eE rfl<|dx Tryz.call38 (WG σ.cF σ.eY σ.aU σ.bC) σ rfl fun _ σ=>wB (fun NU=>?_) fun NU=>?_
   ·simp only [fB,decide_eq_true_eq] at NU
    have hR9:(ov i g (ec,oc) 3)=gH i g 16 (es0,es1):=NR ae hR (Prod.ext NU.1.symm NU.2.symm)
    have iH:(ov i g (ec,oc) 3).1=(gH i g 16 (es0,es1)).1:=aM Prod.fst hR9
    have Cp:(ov i g (ec,oc) 3).2=(gH i g 16 (es0,es1)).2:=aM Prod.snd hR9
    replace σ:St w0 _ [J x6,bk z7 (u4 i g A6 nT c6 B6 n1 d6) 28,bk GF (u4 i g A5 nc c5 B5 n1 d5) 28,bk B4 #[.string ⟨#[102,111,108,100]⟩,.func (.func 89) #[] #[],.string ⟨#[115,104,97,114,101]⟩,.func (.func 90) #[] #[],.string ⟨#[100,101,97,100]⟩,.func (.func 91) #[] #[]] 168] [jM A6 nT c6 ((ov i g (ec,oc) 3).1),bE B6 n1 d6 ((ov i g (ec,oc) 3).2),bP w1 (J s0)]:=σ.pick [0,1,2,3] [0,1,4] ai
    rw [iH,Cp] at σ
    obtain ⟨SI,SJ,anq⟩:=G3 (p:=(es0,es1)) EL Eg bH a8
    have mC:(gH i g 16 (es0,es1)).1.length=nT:=by rw [<- iH]; exact ahC
    rw [mC] at SI SJ
    refine iT rfl rfl<|gE 1 σ rfl<|eE rfl<|cS Tryz.call92 (LY (i:=i) (g:=g) (es0:=(gH i g 16 (es0,es1)).1) (es1:=(gH i g 16 (es0,es1)).2) σ.aU σ.bC SI SJ) rfl ?_
    rintro _ _ ⟨anr,ans,ant,d123,rfl,ahD⟩
    refine ⟨_,rfl,?_⟩
    replace σ:=σ.more ahD
    refine eE rfl<|cX 3 σ rfl fun _ σ=>gE 3 σ rfl<|?_
    refine yE rfl rfl rfl (hY (.string ⟨#[112,97,99,107]⟩,(((i:Nat):Int),(((nt i g es0 es1):Nat):Int),(anr,nT,ans),(ant,n1,d123))) _ _ (σ.bO (k:=2) rfl [])) ?_
    rintro _ auN ⟨rfl,ahE⟩
    refine ⟨_,rfl,?_⟩
    replace σ:=σ.j4 (k:=2) rfl ahE
    refine Bu Tryz.results88<|?_
    have hlP:(ig i g es0 es1).length=nT:=(L2 EL ae Eg).trans mC
    have hlq:=(zH EL ae Eg).2.1
    exact ⟨⟨_,rfl⟩,_,_,⟨_,_,_,_,_,by omega,hlP,rfl,rfl⟩,σ.pick [2,0,1] [2] ai⟩
   ·simp only [Bool.and_eq_false_iff,decide_eq_false_iff_not] at NU
    have Xa:¬(ec=(ov i g (ec,oc) 3).1/\oc=(ov i g (ec,oc) 3).2):=fun q=>by rcases NU with h8|h8; exact h8 q.1; exact h8 q.2
    exact iF rfl rfl<|can (j:=1) rfl ae<|dF ⟨m+1,x6,(ov i g (ec,oc) 3).1,(ov i g (ec,oc) 3).2,nT,A6,c6,B6,d6,rfl,rfl,σ.pick [0,1,3] [0,1,4,5,6,7,8] ai,ae,(NQ ae hR (fun q=>Xa ⟨aM (·.1) q.symm,aM (·.2) q.symm⟩)),(IG EL ae hPr).1,NT.1,ahC,(NT.2.trans W8)⟩ ay ae
 ·obtain rfl:m=16:=ae
  replace hR:(ec,oc)=gH i g 16 (es0,es1):=hR
  have iH:ec=(gH i g 16 (es0,es1)).1:=aM Prod.fst hR
  have Cp:oc=(gH i g 16 (es0,es1)).2:=aM Prod.snd hR
  rw [iH,Cp] at σ
  obtain ⟨SI,SJ,anq⟩:=G3 (p:=(es0,es1)) EL Eg bH a8
  have mC:(gH i g 16 (es0,es1)).1.length=nc:=by rw [<- iH]; exact Uu
  rw [mC] at SI SJ
  refine iF rfl rfl<|gE 1 σ rfl<|eE rfl<|cS Tryz.call92 (LY (i:=i) (g:=g) (es0:=(gH i g 16 (es0,es1)).1) (es1:=(gH i g 16 (es0,es1)).2) σ.aU σ.bC SI SJ) rfl ?_
  rintro _ _ ⟨anv,anw,anx,d130,rfl,ahF⟩
  refine ⟨_,rfl,?_⟩
  replace σ:=σ.more ahF
  refine eE rfl<|cX 3 σ rfl fun _ σ=>gE 3 σ rfl<|?_
  refine yE rfl rfl rfl (hY (.string ⟨#[112,97,99,107]⟩,(((i:Nat):Int),(((nt i g es0 es1):Nat):Int),(anv,nc,anw),(anx,n1,d130))) _ _ (σ.bO (k:=2) rfl [])) ?_
  rintro _ auP ⟨rfl,ahG⟩
  refine ⟨_,rfl,?_⟩
  replace σ:=σ.j4 (k:=2) rfl ahG
  refine Bu Tryz.results88<|?_
  have hlP:(ig i g es0 es1).length=nc:=(L2 EL ae Eg).trans mC
  have hlq:=(zH EL ae Eg).2.1
  exact ⟨⟨_,rfl⟩,_,_,⟨_,_,_,_,_,by omega,hlP,rfl,rfl⟩,σ.pick [2,0,1] [2] ai⟩
theorem JB {w0:World} {i g nn:Nat} {G:List Rw} {O:List Rw} {A0 A1:Option Addr} {n0 c0 n1 c1:Nat} {es0:List IE} {es1:List Int} (h0:(jM A0 n0 c0 es0).P w0) (h1:(bE A1 n1 c1 es1).P w0) (hD:iG w0) (bH:jc (i:Nat) (g:Nat) n0 n1 es0 es1) (EL:G.length=i) (Eg:lp i g nn G es0 es1 O):
  Calls Tryz.prog 29 #[.agg (u4 i g A0 n0 c0 A1 n1 c1)] w0 fun e w'=>∃A n c B d,e=.returned (.tuple #[.agg #[ak i,ak (nt i g es0 es1),.slice A n c,.slice B n1 d],aq 0])/\St w0 w' [aad A n c (ig i g es0 es1),aab B n1 d (ns i g es0 es1)] []/\(ig i g es0 es1).length=n:=by
 refine enM tb mixed Tryz.func29 rfl Tryz.ntmps29 rfl fun nz=>?_
 replace nz:=nz.j1 hD
 have a8:=h0.2.1
 have ic:=h0.1.cap
 have bW:=h0.1.big
 unfold maxLen at bW
 have cY:=h1.2.1
 have kY:=h1.1.cap
 have eC:=h1.1.big
 unfold maxLen at eC
 replace nz:=nz.aE h0
 replace nz:=nz.aE h1
 refine eE rfl<|gN nz rfl fun _ bJ nz=>eE rfl<|eL bf nz rfl fun _ cJ nz=>gE 1 nz rfl<|eE rfl<|dx Tryz.call41 (iu nz.bC nz.aU bH) nz rfl fun _ nz=>ir rfl<|kB (b':=false) rfl<|iF rfl rfl<|eE rfl<|eL bf nz rfl fun _ fo nz=>gE 2 nz rfl<|eE rfl<|cS Tryz.call49 (JA (i:=i) (g:=g) (n0:=n0) (c0:=c0) (n1:=n1) (c1:=c1) (A0:=A0) (A1:=A1)) rfl ?_
 rintro _ _ ⟨auQ,rfl,Jg⟩
 refine ⟨_,rfl,?_⟩
 replace nz:=nz.more Jg
 replace nz:=nz.uK (k:=0) rfl
 refine rgS (k:=0) (α:=Value×PQ) (σ:=PQ) (encs:=fun x=>#[x.1,.agg #[aq x.2.1,aq x.2.2.1,.slice x.2.2.2.1.1 x.2.2.2.1.2.1 x.2.2.2.1.2.2,.slice x.2.2.2.2.1 x.2.2.2.2.2.1 x.2.2.2.2.2.2]]) (R:=fun q=>bk fo #[aq q.1,aq q.2.1,.slice q.2.2.1.1 q.2.2.1.2.1 q.2.2.1.2.2,.slice q.2.2.2.1 q.2.2.2.2.1 q.2.2.2.2.2] 28) (s0:=((0:Int),(0:Int),(none,0,0),(none,0,0))) (V:=fun _=>True) (G:=fun s' new=>∃A n c B d,n<=n0/\(ig i g es0 es1).length=n/\s'=(((i:Nat):Int),((nt i g es0 es1:Nat):Int),(A,n,c),(B,n1,d))/\new=[aad A n c (ig i g es0 es1),aab B n1 d (ns i g es0 es1)]) rfl Tryz.call88 (fun _=>rfl) (by exact ua rfl) (fun _ x=>x.2) nz rfl ?_ (fun x q jP l'=>∃g8,jP=[bk g8 #[aq x.2.1,aq x.2.2.1,.slice x.2.2.2.1.1 x.2.2.2.1.2.1 x.2.2.2.1.2.2,.slice x.2.2.2.2.1 x.2.2.2.2.2.1 x.2.2.2.2.2.2] 28,bk fo #[aq q.1,aq q.2.1,.slice q.2.2.1.1 q.2.2.1.2.1 q.2.2.1.2.2,.slice q.2.2.2.1 q.2.2.2.2.1 q.2.2.2.2.2] 28]/\l'=[(8,bB g8),(6,bB fo)]) ?_ ?_ ?_
 ·exact fun J l0 w1 hY hS=>NS bH EL Eg (fun x s Y h=>hY x s Y trivial h) (hS.pick [0] [0,1,3,2,4] ai)
 ·rintro i9 D r F x q W K _ nz hK
  exact eE rfl<|eL bf nz rfl fun _ yi nz=>eE rfl<|cX 0 nz rfl fun _ nz=>qaE fun a ea=>hK a [(8,bB yi),(6,bB fo)] _ _ (ea.sub ay) ⟨yi,rfl,rfl⟩ (nz.pick [1,0,2] [0] ai)
 ·rintro i9 D r F x q jP l' W _ ⟨g8,rfl,rfl⟩ nz
  exact gE 1 nz rfl<|eE rfl<|cX 2 nz rfl fun _ nz=>⟨fun _ _=>nz.pick [0,2] [0] ai⟩
 ·rintro D r s' new W ⟨A9,n9,c9,B9,d9,hn9,hl9,rfl,rfl⟩ hD nz
  refine gE 1 nz rfl<|eE rfl<|cX 4 nz rfl fun _ nz=>?_
  exact oMR nz fun w' nz=>⟨fun a e=>gC Tryz.results29 (RV.cell e aO rfl nz.Dg rfl) (RV.tmp e rfl),⟨_,_,_,_,_,rfl,nz.pick [1,2] [] ai,hl9⟩⟩
open Go.RowKit Anv
def p8 (P:List (List Int)) (m:Nat):List (List Int):=(List.range m).map fun t=>P.map fun x=>co x t
theorem ZC:∀(x y:List Int),x.length=y.length->dt x y=sg (fun j=>co x j*co y j) x.length
 | [],[],_=>rfl
 | a::x,b::y,h=>by
  rw [dt,ZC x y (by simpa using h),dy,zU]
  rfl
theorem ZD {n j:Nat} {f:Nat->Int} (h:j<n):co (rf n f) j=f j:=Q4 h
theorem Xk {P:List (List Int)} {f:List Int->Int} {j:Nat} (h:j<P.length):co (P.map f) j=f (P.getD j []):=by
 unfold co
 rw [aF,aF,bo,aw h]; rfl
theorem JF {P:List (List Int)} {m t k:Nat} {f:Nat->Int} (hP:P.length=k) (ht:t<m):co (qt (p8 P m) (rf k f)) t=sg (fun j=>f j*co (P.getD j []) t) k:=by
 unfold qt p8
 rw [ox]
 rw [show co ((List.range m).map (dt (rf k f) ∘ fun t=>P.map fun x=>co x t)) t=dt (rf k f) (P.map fun x=>co x t) from Q4 ht]
 rw [ZC _ _ (by rw [pO,aZ,hP]),pO]
 exact gJ fun j hj=>by rw [ZD hj,Xk ae]
theorem fk (P:List (List Int)) (m:Nat) (x:Rw):(qt (p8 P m) x).length=m:=by rw [Vv]; unfold p8; simp
theorem SX {P:List (List Int)} {m k j:Nat} (hP:P.length=k) (hj:j<k) (hl:(P.getD j []).length=m):qt (p8 P m) (rf k (Ba j))=P.getD j []:=
 DN (by rw [fk,hl]) fun t=>by
  by_cases ht:t<m
  ·rw [JF hP ht,IW hj (fun i _ sQ=>by unfold Ba; rw [aQ sQ,jI])]
   unfold Ba
   rw [aR rfl,p']
  ·rw [fx (by rw [fk]; omega),fx ae]
theorem JG (X:List (List Int)) (k:Nat):qt X (List.replicate k 0)=List.replicate X.length 0:=by
 unfold qt
 apply kV
 intro i
 rw [bo,iN]
 have hz:∀(k:Nat) (c:List Int),dt (List.replicate k 0) c=0:=fun k=>by
  induction k with
  | zero=>intro c; exact zp c
  | succ k ih=>
   intro c
   rw [qN]
   cases c with
   | nil=>rfl
   | cons b c=>rw [dt,ih c,jI]; rfl
 by_cases h:i<X.length
 ·rw [aw h,aR h,qQ,hz]
 ·rw [dz ae,aQ h]; rfl
theorem L6 {g k m:Nat} {P G:List (List Int)} (f:Nat->List Int) (hGP:G.map (qt (p8 P m))=(List.range G.length).map f):(ie g k G).map (qt (p8 P m))=ie g m ((List.range G.length).map f):=by
 unfold ie
 rw [je,hGP,mN,JG,aZ,mK]
 congr 3
 unfold p8
 simp
theorem L7 {i g n m:Nat} {G:List Rw} {es:List IE} {os:List Int} {O:List Rw} {P:List (List Int)} (h:lp i g n G es os O) (hg:G.length<=g) (hn:∀r∈G,r.length=n):∃R',kX ((ie g n G).map (qt (p8 P m))) es=some R'/\os.map (eQ R')=O.map (qt (p8 P m)):=by
 obtain ⟨R',h1,h2⟩:=h.run
 have hl:=xU es h1 h.may (iX hg) (FH hn)
 refine ⟨_,KL _ es h1 h.may (iX hg) (FH hn),?_⟩
 rw [<- h2,ox]
 exact jh fun r hr=>Iw hl.1 (h.out r hr).1 (h.out r hr).2
def mD (k:Nat) (l:List Pt) (m:Nat) (xs:List Int):List (List Int):=l.map fun p=>qt (p8 (ud xs m k) m) (rf k (ma k p))
theorem G7 {k g m:Nat} {l:List Pt} {es:List IE} {os:List Int} {xs:List Int} (h:lp k g k (wW k) es os (l.map fun q=>rf k (ma k q))) (hg:k<=g):∃R',kX (ie g m (ud xs m k)) es=some R'/\os.map (eQ R')=mD k l m xs:=by
 obtain ⟨R',h1,h2⟩:=L7 h (by rw [kN]; exact hg) (F4 k)
 refine ⟨R',?_,by rw [h2,ox]; rfl⟩
 rw [L6 (gz xs m) ?_] at h1
 ·rw [kN] at h1; exact h1
 ·rw [kN]
  unfold wW
  rw [ox]
  refine jh fun j hj=>?_
  have hj:=nZ.1 hj
  show qt (p8 (ud xs m k) m) (rf k (Ba j))=_
  rw [SX (yu xs m k) hj (by rw [JE hj,lx]),JE hj]
def blF (xs ys:List Int) (m k1 k2 s c:Nat):Int:=sg (fun i=>if i<=s/\s<i+k2 then cv (co (gz xs m i)) (co (gz ys m (s - i))) c else 0) k1
def yv (xs ys:List Int) (m k1 k2:Nat):List (List Int):=(List.range (k1+k2 - 1)).map fun s=>rf (2*m - 1) (blF xs ys m k1 k2 s)
theorem adf {xs ys:List Int} {m k1 k2 s c:Nat} (h:2*m - 1<=c):blF xs ys m k1 k2 s c=0:=jA fun i _=>by
 split
 ·exact IX (by rw [lx,lx]; omega)
 ·rfl
theorem ZE {xs ys:List Int} {m k1 k2 s c:Nat} (hs:s<k1+k2 - 1):co ((yv xs ys m k1 k2).getD s []) c=blF xs ys m k1 k2 s c:=by
 unfold yv
 rw [aF,bo,fQ hs]
 show co (rf _ _) c=_
 by_cases h:c<2*m - 1
 ·exact ZD h
 ·rw [adf ae,fx (by rw [pO]; omega)]
theorem Ek {xs ys:List Int} {m k1 k2:Nat}:(yv xs ys m k1 k2).length=k1+k2 - 1:=by unfold yv; simp
theorem Xl {xs ys:List Int} {m k1 k2 N:Nat} (hm:1<=m) (Bc:1<=k1) (QL:1<=k2) (hx:xs.length<=k1*m) (hy:ys.length<=k2*m) (hN:(iy xs ys).length=N):
  mx (Gd (yv xs ys m k1 k2) m (Ll (yv xs ys m k1 k2) m N (k1+k2 - 1)) (k1+k2 - 1))<=N/\(Gd (yv xs ys m k1 k2) m (Ll (yv xs ys m k1 k2) m N (k1+k2 - 1)) (k1+k2 - 1)).take N=iy xs ys:=by
 refine Xj (fun t=>?_) hN
 have e1:∀s,s<k1+k2 - 1->sh (s*m) (co ((yv xs ys m k1 k2).getD s [])) t=sg (fun i=>if i<=s/\s<i+k2 then sh (s*m) (cv (co (gz xs m i)) (co (gz ys m (s - i)))) t else 0) k1:=fun s hs=>by
  rw [Ei (fun c=>ZE hs) t]
  unfold blF
  rw [ahM]
  refine gJ fun i hi=>?_
  by_cases q:i<=s/\s<i+k2
  ·rw [aR q]
   exact Ei (fun c=>aR q) t
  ·rw [aQ q]
   unfold sh
   split
   ·simp only
   ·rfl
 rw [gJ e1,yr,zW]
 rw [Q5 (fun c=>(G6 hm hx c).symm) (fun c=>(G6 hm hy c).symm),SV]
 refine gJ fun i hi=>?_
 rw [CF ae,SW]
 refine gJ fun j hj=>?_
 rw [Zz,Ei (fun c=>adb (j*m) _ _ c) t,ahL,show i+j - i=j by omega,EV]
theorem adg {k1 k2 i j:Nat} (hi:i<k1) (hj:j<k2) (p:Pt):ma k1 p i*ma k2 p j=ma (k1+k2 - 1) p (i+j):=by
 unfold ma
 have e1:p.1 ^ (i+j)=p.1 ^ i*p.1 ^ j:=Int.pow_add ..
 have e2:p.2 ^ (k1+k2 - 1 - 1 - (i+j))=p.2 ^ (k1 - 1 - i)*p.2 ^ (k2 - 1 - j):=by rw [<- Int.pow_add]; congr 1; omega
 rw [e1,e2]
 ac_rfl
theorem SY (a:Int) (f g:Nat->Int) (k:Nat):cv (fun i=>a*f i) g k=a*cv f g k:=by
 unfold cv
 rw [<- vN]
 exact gJ fun i _=>fR ..
theorem Xm (a:Int) (f g:Nat->Int) (k:Nat):cv f (fun i=>a*g i) k=a*cv f g k:=by
 rw [sd,SY,sd]
theorem JH {k m t:Nat} {xs:List Int} (p:Pt):co (qt (p8 (ud xs m k) m) (rf k (ma k p))) t=sg (fun j=>ma k p j*co (gz xs m j) t) k:=by
 by_cases ht:t<m
 ·rw [JF (yu xs m k) ht]
  exact gJ fun j hj=>by rw [JE hj]
 ·rw [fx (by rw [fk]; omega),jA fun j _=>by rw [fx (by rw [lx]; omega),mL]]
theorem SZ {k1 k2 m:Nat} {xs ys:List Int} (p:Pt) (hm:1<=m):iy (qt (p8 (ud xs m k1) m) (rf k1 (ma k1 p))) (qt (p8 (ud ys m k2) m) (rf k2 (ma k2 p)))=qt (p8 (yv xs ys m k1 k2) (2*m - 1)) (rf (k1+k2 - 1) (ma (k1+k2 - 1) p)):=
 DN (by rw [fk,zV (by rw [fk]; omega) (by rw [fk]; omega),fk,fk]; omega) fun c=>by
  by_cases hc:c<2*m - 1
  ·rw [JF Ek hc,zW,Q5 (fun t=>JH p) (fun t=>JH p),SV]
   have e2:∀s,s<k1+k2 - 1->ma (k1+k2 - 1) p s*co ((yv xs ys m k1 k2).getD s []) c=sg (fun i=>if i<=s/\s<i+k2 then ma (k1+k2 - 1) p s*cv (co (gz xs m i)) (co (gz ys m (s - i))) c else 0) k1:=fun s hs=>by
    rw [ZE hs]
    unfold blF
    rw [<- vN]
    refine gJ fun i _=>?_
    split
    ·rfl
    ·exact mL _
   rw [gJ e2,yr]
   refine gJ fun i hi=>?_
   rw [CF ae,SW]
   refine gJ fun j hj=>?_
   rw [SY,Xm,<- fR,adg hi hj,show i+j - i=j by omega]
  ·rw [zW,IX (by rw [fk,fk]; omega),fx (by rw [fk]; omega)]
theorem S0 {k1 k2 g m:Nat} {l:List Pt} {es:List IE} {os:List Int} {xs ys:List Int} (hm:1<=m) (hl:l.length=k1+k2 - 1) (h:lp (k1+k2 - 1) g (k1+k2 - 1) (Bb l) es os (wW (k1+k2 - 1))) (hg:k1+k2 - 1<=g):
  ∃R',kX (ie g (2*m - 1) ((List.range (k1+k2 - 1)).map fun i=>iy ((mD k1 l m xs).getD i []) ((mD k2 l m ys).getD i []))) es=some R'/\os.map (eQ R')=yv xs ys m k1 k2:=by
 have EJ:(Bb l).length=k1+k2 - 1:=by unfold Bb; rw [aZ,hl]
 obtain ⟨R',h1,h2⟩:=L7 (P:=yv xs ys m k1 k2) h (by rw [EJ]; exact hg) (fun r hr=>by
  obtain ⟨p,_,rfl⟩:=ff.1 hr; rw [pO,hl])
 refine ⟨R',?_,?_⟩
 ·rw [L6 (fun i=>iy ((mD k1 l m xs).getD i []) ((mD k2 l m ys).getD i [])) ?_] at h1
  ·rw [EJ] at h1; exact h1
  ·unfold Bb
   rw [ox,aZ]
   apply kV
   intro i
   rw [bo,bo]
   by_cases c:i<l.length
   ·rw [aw c,fQ c]
    unfold mD
    simp only [qQ,aF,bo,aw c,Option.getD_some]
    rw [SZ _ hm,hl]
    rfl
   ·rw [dz ae,dz (by simpa using c)]; rfl
 ·rw [h2]
  unfold wW
  rw [ox]
  apply kV
  intro s
  rw [bo]
  by_cases c:s<k1+k2 - 1
  ·rw [fQ c]
   show some (qt (p8 (yv xs ys m k1 k2) (2*m - 1)) (rf (k1+k2 - 1) (Ba s)))=_
   have hs:(yv xs ys m k1 k2)[s]?=some (rf (2*m - 1) (blF xs ys m k1 k2 s)):=by unfold yv; rw [bo,fQ c]; rfl
   rw [SX Ek c (by rw [aF,hs]; exact pO _ _),aF,hs]; rfl
  ·rw [dz (by simpa using c),dz (by rw [Ek]; omega)]; rfl
abbrev Tl:=Nat×Nat×Nat×Nat
def JI (k1 k2 n st:Nat) (t:Int):Nat->Nat->Nat->Tl
 | 0,a,b=>(0,0,a*b,0)
 | f+1,a,b=>if EP a b k1 k2 t then
   (1+n*(JI k1 k2 n st t f (gI a b k1 k2) (gI a b k1 k2)).1,n+n*(JI k1 k2 n st t f (gI a b k1 k2) (gI a b k1 k2)).2.1,n*(JI k1 k2 n st t f (gI a b k1 k2) (gI a b k1 k2)).2.2.1,st+n*(JI k1 k2 n st t f (gI a b k1 k2) (gI a b k1 k2)).2.2.2)
  else (0,0,a*b,0)
theorem L8 {k1 k2 n st:Nat} {t:Int}:∀(f f' a b:Nat),max a b<=f->max a b<=f'->JI k1 k2 n st t f a b=JI k1 k2 n st t f' a b
 | 0,0,_,_,_,_=>rfl
 | 0,f'+1,a,b,h,_=>by
  rw [JI,JI,aQ]
  intro hE
  have:=hE.1
  omega
 | f+1,0,a,b,_,h=>by
  rw [JI,JI,aQ]
  intro hE
  have:=hE.1
  omega
 | f+1,f'+1,a,b,h,h'=>by
  rw [JI,JI]
  by_cases hE:EP a b k1 k2 t
  ·have:=hE.2
   rw [aR hE,aR hE,L8 f f' _ _ ae ae]
  ·rw [aQ hE,aQ hE]
def gq (k1 k2 n st:Nat) (t:Int) (a b:Nat):Tl:=JI k1 k2 n st t (max a b) a b
theorem CG {k1 k2 n st a b:Nat} {t:Int} (hE:EP a b k1 k2 t):gq k1 k2 n st t a b=(1+n*(gq k1 k2 n st t (gI a b k1 k2) (gI a b k1 k2)).1,n+n*(gq k1 k2 n st t (gI a b k1 k2) (gI a b k1 k2)).2.1,n*(gq k1 k2 n st t (gI a b k1 k2) (gI a b k1 k2)).2.2.1,st+n*(gq k1 k2 n st t (gI a b k1 k2) (gI a b k1 k2)).2.2.2):=by
 have h1:=hE.1
 have h2:=hE.2
 unfold gq
 obtain ⟨f,hf⟩:∃f,max a b=f+1:=⟨max a b - 1,by omega⟩
 rw [hf,JI,aR hE,L8 f (max (gI a b k1 k2) (gI a b k1 k2)) _ _ ae ae]
theorem AQ {k1 k2 n st a b:Nat} {t:Int} (hE:¬EP a b k1 k2 t):gq k1 k2 n st t a b=(0,0,a*b,0):=by
 unfold gq
 cases max a b with
 | zero=>rfl
 | succ f=>rw [JI,aQ hE]
def Uv (q:Nat) (x:Tl):Tl:=(q*x.1,q*x.2.1,q*x.2.2.1,q*x.2.2.2)
def Uw (x y:Tl):Tl:=(x.1+y.1,x.2.1+y.2.1,x.2.2.1+y.2.2.1,x.2.2.2+y.2.2.2)
def ue (b:Nat) (xs:List Int):Prop:=∀i,(co xs i).natAbs<2 ^ b
theorem ue.mono {b c:Nat} {xs:List Int} (h:ue b xs) (yY:b<=c):ue c xs:=fun i=>gw (h i) (fE ai yY)
theorem sj {b:Nat} {xs:List Int}:ue b xs↔∀x∈xs,x.natAbs<2 ^ b:=by
 constructor
 ·intro h x hx
  obtain ⟨i,hi⟩:=lV hx
  have:=h i
  unfold co at this
  rw [aF,hi] at this
  exact this
 ·intro h i
  unfold co
  rw [aF]
  cases hi:xs[i]? with
  | none=>exact nW ai
  | some x=>exact h x (aB hi)
theorem rE {b:Nat} {xs:List Int} (h:ue b xs) (m j:Nat):ue b (gz xs m j):=fun u=>by
 rw [Ej]
 split
 ·exact h _
 ·exact nW ai
theorem El {f:Nat->Int} {c:Nat} (hc:0<c):∀n,(∀i,i<n->(f i).natAbs<c)->(sg f n).natAbs<n*c+1
 | 0,_=>by simp [sg]
 | n+1,h=>by
  rw [sg]
  have h1:=El hc n fun i hi=>h i ae
  have h2:=h n ae
  rw [iM]
  omega
theorem S1 {k t:Nat} {p:Pt} (h:mv p) (ht:t<k) (hk:k<=8):(ma k p t).natAbs<=2 ^ 28:=by
 unfold ma mv at*
 rw [lH,OH,OH]
 have h1:p.1.natAbs ^ t<=16 ^ t:=CY ae t
 have h2:p.2.natAbs ^ (k - 1 - t)<=16 ^ (k - 1 - t):=CY ae _
 have h3:16 ^ t*16 ^ (k - 1 - t)<=16 ^ 7:=by rw [<- mM]; exact fE ai ae
 exact bq (fG h1 h2) h3
theorem Em {b k m:Nat} {xs:List Int} {p:Pt} (h:ue b xs) (hp:mv p) (hk:k<=8):ue (b+31) (qt (p8 (ud xs m k) m) (rf k (ma k p))):=fun t=>by
 rw [JH]
 have hb:0<2 ^ b:=nW ai
 have h1:(sg (fun j=>ma k p j*co (gz xs m j) t) k).natAbs<k*(2 ^ 28*2 ^ b)+1:=El (BH ai hb) k fun j hj=>by
  rw [lH]
  have a1:=S1 hp hj hk
  have a2:=rE h m j t
  exact qf (eh _ a1) (Nat.mul_lt_mul_of_pos_left a2 ai)
 have h2:k*(2 ^ 28*2 ^ b)<=8*(2 ^ 28*2 ^ b):=eh _ hk
 rcases ed k with q | q
 ·subst q; rw [sg]; exact nW ai
 have h3:(sg (fun j=>ma k p j*co (gz xs m j) t) k).natAbs<8*(2 ^ 28*2 ^ b):=by
  have:∀n,(∀i,i<n->(ma k p i*co (gz xs m i) t).natAbs<2 ^ 28*2 ^ b)->0<n->(sg (fun j=>ma k p j*co (gz xs m j) t) n).natAbs<n*(2 ^ 28*2 ^ b):=fun n=>by
   induction n with
   | zero=>intro _ h; omega
   | succ n ih=>
    intro hi _
    rw [sg,iM]
    have a2:=hi n ae
    rcases ed n with w | w
    ·subst w; rw [sg]; omega
    ·have a1:=ih (fun i h=>hi i ae) w
     omega
  have:=this k (fun j hj=>by
   rw [lH]
   have a1:=S1 hp hj hk
   have a2:=rE h m j t
   exact qf (eh _ a1) (Nat.mul_lt_mul_of_pos_left a2 ai)) q
  omega
 have h4:2 ^ (b+31)=8*(2 ^ 28*2 ^ b):=by rw [mM,<- iK,iO]
 omega
theorem L9 {b n:Nat} {xs ys:List Int} (hx:ue b xs) (hy:ue b ys) (hl:xs.length<=2 ^ n):ue (2*b+n+1) (iy xs ys):=fun k=>by
 rw [zW]
 unfold cv
 have hb:0<2 ^ b*2 ^ b:=BH (nW ai) (nW ai)
 have hcut:sg (fun i=>co xs i*co ys (k - i)) (k+1)=sg (fun i=>co xs i*co ys (k - i)) (min (k+1) xs.length):=by
  rcases Nat.le_total (k+1) xs.length with q | q
  ·rw [jS q]
  ·rw [Nat.min_eq_right q]
   exact x8 q fun i hi _=>by rw [fx hi,jI]
 rw [hcut]
 have h1:=El hb (min (k+1) xs.length) fun i _=>by
  rw [lH]
  exact Nat.mul_lt_mul'' (hx i) (hy (k - i))
 have h2:min (k+1) xs.length*(2 ^ b*2 ^ b)<=2 ^ n*(2 ^ b*2 ^ b):=eh _ ae
 have h3:2 ^ (2*b+n+1)=2*(2 ^ n*(2 ^ b*2 ^ b)):=by rw [iJ,mM,Nat.two_mul,mM]; ac_rfl
 have h4:0<2 ^ n*(2 ^ b*2 ^ b):=BH (nW ai) hb
 omega
theorem JJ {b k:Nat} {z:Int} (h:z.natAbs<2 ^ b) (hk:b<=32*k):zl z<=k:=by
 refine cQ ?_
 refine gw h ?_
 rw [show (4294967296:Nat)=2 ^ 32 from rfl,<- Nat.pow_mul]
 exact fE ai hk
theorem Tt (l:List Pt):(fl df l).all (·.oneCell')=true/\(fl df l).all ar=true:=by
 induction l with
 | nil=>exact ⟨rfl,rfl⟩
 | cons x l ih=>exact ⟨ih.1,ih.2⟩
def oq (k1 k2:Int) (l:List Pt):Prop:=(1<=k1/\k1<=8)/\(1<=k2/\k2<=8)/\∀p∈l,mv p
def He (l:List Pt):Prop:=∃p∈l,p.1=0/\p.2=0
theorem Tu {es:List Pt} {j:Nat} {p:Pt} (h:∀x,x<j->∀p,es[x]?=some p->¬(p.1=0/\p.2=0)) (he:es[j]?=some p) (hp:¬(p.1=0/\p.2=0)):∀x,x<j+1->∀p,es[x]?=some p->¬(p.1=0/\p.2=0):=fun x hx q hq=>by
 rcases dr x j with c | c
 ·exact h x c q hq
 ·obtain rfl:x=j:=ae
  rw [he] at hq
  cases hq
  exact hp
theorem Eu {w0:World} {c0:Nat} {es0:List Pt} (h0:(u3 none 0 c0 es0).P w0):
  Calls Tryz.prog 20 #[.slice none 0 c0] w0 fun e w'=>∃A c,e=.returned (.slice A 0 c)/\St w0 w' [aa1 A 0 c es0] []:=by
 refine dp Tryz.func20 rfl Tryz.ntmps20 rfl fun σ=>?_
 have a8:=h0.2.1
 replace σ:=σ.aE h0
 refine vE rfl (fun η=>lB η Tryz.underlying22 rfl)<|iT rfl rfl<|o1 Tryz.results20 rfl<|?_
 obtain rfl:es0=[]:=jE a8
 replace σ:=(σ.cl ar 61 2)
 exact ⟨_,_,rfl,σ.pick [0] [] ai⟩
theorem Ev {w0:World} {c0:Nat} {a0:Addr} {es0:List Pt} (h0:(u3 (some a0) 0 c0 es0).P w0):
  Calls Tryz.prog 20 #[.slice (some a0) 0 c0] w0 fun e w'=>∃A c,e=.returned (.slice A 0 c)/\St w0 w' [aa1 A 0 c es0] []:=by
 refine dp Tryz.func20 rfl Tryz.ntmps20 rfl fun σ=>?_
 have a8:=h0.2.1
 replace σ:=σ.aE h0
 refine vE rfl (fun η=>lB η Tryz.underlying22 rfl)<|iF rfl rfl<|eE rfl<|b0E 2 σ (aC.size) rfl fun _ bJ σ=>?_
 refine eE rfl<|aZE 0 σ (aC.size) rfl<|o1 Tryz.results20 rfl<|?_
 obtain rfl:es0=[]:=jE a8
 exact ⟨_,_,rfl,σ.pick [0] [] ai⟩
theorem Ew {w0:World} {c0:Nat} {a0:Addr} {n0:Nat} {es0:List Pt} (h0:(u3 (some a0) n0 c0 es0).P w0) (hp:0<n0) (hn:n0<=100000):
  Calls Tryz.prog 20 #[.slice (some a0) n0 c0] w0 fun e w'=>∃A c,e=.returned (.slice A n0 c)/\St w0 w' [aa1 A n0 c es0] []:=by
 refine dp Tryz.func20 rfl Tryz.ntmps20 rfl fun σ=>?_
 have a8:=h0.2.1
 replace σ:=σ.aE h0
 refine vE rfl (fun η=>lB η Tryz.underlying22 rfl)<|iF rfl rfl<|eE rfl<|b0E 2 σ (aC.size) rfl fun _ bJ σ=>?_
 replace σ:St w0 _ [aa1 (bh bJ) 0 0 ([]:List Pt)] [u3 (some a0) n0 c0 es0]:=σ
 refine eE rfl<|aRE 0 σ jN σ.aU.1 (Tt _).1 (Tt _).2 rfl ae (by unfold maxLen; omega) ae fun _ cJ wh σ=>o1 Tryz.results20 rfl<|?_
 rw [fz,iU] at σ
 exact by rw [fz]; exact ⟨_,_,rfl,σ.pick [0] [] ai⟩
theorem tV {w0:World} {A0:Option Addr} {n0 c0:Nat} {es0:List Pt} (h0:(u3 A0 n0 c0 es0).P w0) (hn:n0<=100000):
  Calls Tryz.prog 20 #[.slice A0 n0 c0] w0 fun e w'=>∃A c,e=.returned (.slice A n0 c)/\St w0 w' [aa1 A n0 c es0] []:=by
 cases A0 with
 | none=>
  obtain rfl:n0=0:=uM h0 rfl
  exact Eu h0
 | some a0=>
  rcases ed n0 with rfl | hp
  ·exact Ev h0
  ·exact Ew h0 hp hn
theorem Hf {w0:World} {k:Int}:
  Calls Tryz.prog 68 #[aq k] w0 fun e w'=>e=.returned (.bool (decide (1<=k/\k<=8)))/\Below w0.heap.size w0 w':=by
 refine dp Tryz.func68 rfl Tryz.ntmps68 rfl fun σ=>xd rfl<|wD (fun iz=>?_) fun iz=>?_
 ·exact IZ rfl<|o1 Tryz.results68 rfl<|⟨aM (fun b=>Ending.returned (Value.bool b)) (vC.2 (by simp; try omega)),σ.below⟩
 ·exact o1 Tryz.results68 rfl<|⟨aM (fun b=>Ending.returned (Value.bool b)) (vC.2 (by simp; try omega)),σ.below⟩
theorem Tv {w0:World} {A0:Option Addr} {n0 c0:Nat} {es0:List Pt} (h0:(u3 A0 n0 c0 es0).P w0):
  Calls Tryz.prog 110 #[.slice A0 n0 c0,.func (.func 71) #[] #[]] w0 fun e w'=>∃r:Int,e=.returned (aq r)/\(0<=r↔He es0)/\Below w0.heap.size w0 w':=by
 refine dp Tryz.func110 rfl Tryz.ntmps110 rfl fun σ=>?_
 have a8:=h0.2.1
 have ic:=h0.1.cap
 have bW:=h0.1.big
 unfold maxLen at bW
 replace σ:=σ.aE h0
 refine fX (fun mz l w=>∃j:Nat,n0 - j=mz/\l=[(8,ak j),(0,.slice A0 n0 c0),(1,.func (.func 71) #[] #[]),(7,ak n0)]/\St w0 w [] [u3 A0 n0 c0 es0]/\j<=n0/\(∀x,x<j->∀p,es0[x]?=some p->¬(p.1=0/\p.2=0))) ⟨0,rfl,rfl,σ,(bm _),(fun _ h=>absurd h (ks _))⟩ ay ?_
 rintro _ _ _ ⟨j,rfl,rfl,σ,hj,sY⟩
 refine ei rfl<|wD (fun iz=>?_) fun iz=>?_
 ·have cD:j<n0:=ae
  obtain ⟨⟨pa,pb⟩,b5⟩:∃e,es0[j]?=some e:=⟨_,aw ae⟩
  refine iT rfl rfl<|vE rfl (fun η=>az (i:=j) η Tryz.underlying22 (aC.size) rfl rfl ae rfl σ.aU.1)<|cE rfl (fun η=>bF (v:=#[aq pa,aq pb]) (i:=j) (e:=(pa,pb)) η aC rfl rfl ft σ.aU.1 ae b5 rfl)<|eE rfl<|sf Tryz.call71 rfl (Lw (pa:=pa) (pb:=pb)) rfl ?_
  rintro _ _ ⟨rfl,hb⟩
  refine ⟨_,rfl,?_⟩
  replace σ:=σ.call hb
  refine wD (fun jG=>?_) fun jG=>?_
  ·exact iT rfl rfl<|o1 Tryz.results110 rfl<|⟨_,rfl,⟨fun _=>⟨_,aB b5,by simpa using jG⟩,fun _=>ae⟩,σ.below⟩
  ·exact iF rfl rfl<|can (j:=1) rfl ae<|dF ⟨j+1,rfl,rfl,σ,ae,(Tu sY b5 (by simpa using jG))⟩ ay ae
 ·exact iF rfl rfl<|o1 Tryz.results110 rfl<|⟨_,rfl,⟨fun q=>ae,fun ⟨p,hp,hz⟩=>by obtain ⟨x,hx⟩:=lV hp; exact absurd hz (sY x (by have:=(bU.1 hx).1; omega) p hx)⟩,σ.below⟩
theorem Hg {w0:World} {A0:Option Addr} {n0 c0:Nat} {es0:List Pt} (h0:(u3 A0 n0 c0 es0).P w0):
  Calls Tryz.prog 70 #[.slice A0 n0 c0,.func (.func 71) #[] #[]] w0 fun e w'=>∃b:Bool,e=.returned (.bool b)/\(b=true↔He es0)/\Below w0.heap.size w0 w':=by
 refine dp Tryz.func70 rfl Tryz.ntmps70 rfl fun σ=>?_
 have a8:=h0.2.1
 have ic:=h0.1.cap
 have bW:=h0.1.big
 unfold maxLen at bW
 replace σ:=σ.aE h0
 refine eE rfl<|cS Tryz.call110 (Tv σ.aU) rfl ?_
 rintro _ _ ⟨r9,rfl,hr9,hb⟩
 refine ⟨_,rfl,?_⟩
 replace σ:=σ.call hb
 exact xd rfl<|o1 Tryz.results70 rfl<|⟨_,rfl,by rw [<- hr9]; simp,σ.below⟩
theorem Tw {w0:World} {k1 k2:Int} {A0:Option Addr} {n0 c0:Nat} {es0:List Pt} (h0:(u3 A0 n0 c0 es0).P w0) (hn:n0<=9223372036854775807):
  Calls Tryz.prog 39 #[aq k1,aq k2,.slice A0 n0 c0] w0 fun e w'=>∃(v:Value) (er:Int),e=.returned (.tuple #[v,aq er])/\((er=70/\¬oq k1 k2 es0)∨(er=71/\oq k1 k2 es0/\(¬((n0:Nat):Int)=k1+k2 - 1∨He es0∨sZ es0))∨(er=0/\oq k1 k2 es0/\((n0:Nat):Int)=k1+k2 - 1/\iA es0))/\Below w0.heap.size w0 w':=by
 refine dp Tryz.func39 rfl Tryz.ntmps39 rfl fun σ=>?_
 have a8:=h0.2.1
 have ic:=h0.1.cap
 have bW:=h0.1.big
 unfold maxLen at bW
 replace σ:=σ.aE h0
 refine eE rfl<|dx Tryz.call68 (Hf (k:=k1)) σ rfl fun _ σ=>wD (fun iz=>?_) fun iz=>?_
 ·refine eE rfl<|dx Tryz.call68 (Hf (k:=k2)) σ rfl fun _ σ=>wD (fun jG=>?_) fun jG=>?_
  ·refine iF rfl rfl<|fX (fun mz l w=>∃j:Nat,n0 - j=mz/\l=[(23,ak j),(0,aq k1),(1,aq k2),(2,.slice A0 n0 c0),(21,.slice A0 n0 c0),(22,ak n0)]/\St w0 w [] [u3 A0 n0 c0 es0]/\j<=n0/\(∀(x:Nat) (p:Pt),x<j->es0[x]?=some p->mv p)) ⟨0,rfl,rfl,σ,(bm _),(fun _ _ h=>absurd h (ks _))⟩ ay ?_
   rintro _ _ _ ⟨j,rfl,rfl,σ,hj,n8⟩
   refine ei rfl<|wD (fun lU=>?_) fun lU=>?_
   ·have cD:j<n0:=ae
    obtain ⟨⟨pa,pb⟩,b5⟩:∃e,es0[j]?=some e:=⟨_,aw ae⟩
    refine iT rfl rfl<|vE rfl (fun η=>az (i:=j) η Tryz.underlying22 (aC.size) rfl rfl ae rfl σ.aU.1)<|cE rfl (fun η=>bF (v:=#[aq pa,aq pb]) (i:=j) (e:=(pa,pb)) η aC rfl rfl ft σ.aU.1 ae b5 rfl)<|eE rfl<|eL bp σ rfl fun _ eZ σ=>eE rfl<|cX 0 σ rfl fun _ σ=>gE 0 σ rfl<|eE rfl<|dx Tryz.call69 (uY (pa:=pa) (pb:=pb)) σ rfl fun _ σ=>wD (fun qx=>?_) fun qx=>?_
    ·exact iF rfl rfl<|can (j:=1) rfl ae<|dF ⟨j+1,rfl,rfl,σ.pick [] [0] ai,ae,(Gt n8 b5 qx)⟩ ay ae
    ·exact iT rfl rfl<|o2 Tryz.results39 rfl<|⟨_,_,rfl,.inl ⟨rfl,(fun q=>qx (q.2.2 _ (aB b5)))⟩,σ.below⟩
   ·have km:∀p∈es0,mv p:=fun p hp=>by obtain ⟨x,hx⟩:=lV hp; exact n8 x p (by have:=(bU.1 hx).1; omega) hx
    have hL:oq k1 k2 es0:=⟨by omega,by omega,km⟩
    refine iF rfl rfl<|Rf rfl ae<|yf rfl ae<|ir rfl<|wN (fun wa=>?_) fun wa=>?_
    ·exact iT rfl rfl<|o2 Tryz.results39 rfl<|⟨_,_,rfl,.inr (.inl ⟨rfl,hL,.inl ae⟩),σ.below⟩
    ·refine eE rfl<|cS Tryz.call70 (Hg σ.aU) rfl ?_
     rintro _ _ ⟨b9,rfl,hb9,hb⟩
     refine ⟨_,rfl,?_⟩
     replace σ:=σ.call hb
     cases b9
     ·refine iF rfl rfl<|eE rfl<|cS Tryz.call72 (Gs σ.aU km) rfl ?_
      rintro _ _ ⟨x9,y9,t9,rfl,ht9,hb⟩
      refine ⟨_,rfl,?_⟩
      replace σ:=σ.call hb
      cases t9
      ·refine iF rfl rfl<|eE rfl<|cS Tryz.call20 (tV σ.aU ae) rfl ?_
       rintro _ _ ⟨A57,I2,rfl,Jc⟩
       refine ⟨_,rfl,?_⟩
       replace σ:=σ.more Jc
       exact vE rfl (fun η=>cK (c:=#[aq k1,aq k2,.slice A57 n0 I2]) pU η rfl rfl)<|eE rfl<|gN σ rfl fun _ Bt σ=>o2 Tryz.results39 rfl<|⟨_,_,rfl,.inr (.inr ⟨rfl,hL,by omega,acq ⟨by omega,by omega⟩ (fun p hp=>⟨km p hp,fun q=>by have:=hb9.2 ⟨p,hp,q⟩; cases this⟩) (fun q=>by have:=ht9.2 q; cases this)⟩),σ.below⟩
      ·exact iT rfl rfl<|o2 Tryz.results39 rfl<|⟨_,_,rfl,.inr (.inl ⟨rfl,hL,.inr (.inr (ht9.1 rfl))⟩),σ.below⟩
     ·exact iT rfl rfl<|o2 Tryz.results39 rfl<|⟨_,_,rfl,.inr (.inl ⟨rfl,hL,.inr (.inl (hb9.1 rfl))⟩),σ.below⟩
  ·exact iT rfl rfl<|o2 Tryz.results39 rfl<|⟨_,_,rfl,.inl ⟨rfl,(fun q=>by have:=q.2.1; omega)⟩,σ.below⟩
 ·exact iT rfl rfl<|o2 Tryz.results39 rfl<|⟨_,_,rfl,.inl ⟨rfl,(fun q=>by have:=q.1; omega)⟩,σ.below⟩
theorem JV {A0 A1:Option Addr} {n0 n1 c0 c1:Nat} {w0:World} (h00:n0=0):
  Calls Tryz.prog 53 #[.slice A0 n0 c0,.slice A1 n1 c1] w0 fun e w'=>e=.returned (.tuple #[bA,aq 0])/\Below w0.heap.size w0 w':=by
 refine enter Tryz.func53 rfl Tryz.ntmps53 rfl ?_
 intro a η σ
 refine wp_seq (aj ?_)
 revert a
 refine aA rfl rfl ?_
 refine aA rfl rfl ?_
 intro a η
 refine wpList_nil (aT (wp_seq (wp_seq (aj ?_))))
 revert a
 refine mA rfl rfl ?_
 refine sA rfl (fun _ η=>eW η Tryz.underlying43 rfl) ?_
 refine sA rfl (fun _ η=>bg η rfl rfl rfl) ?_
 intro a η
 rw [show (((n0:Nat):Int)==(0:Int))=true from (uh.2 ae)] at η
 revert a
 refine mA rfl rfl ?_
 refine kA rfl rfl rfl rfl rfl ?_
 refine kA rfl rfl rfl rfl rfl ?_
 refine kA rfl rfl rfl rfl rfl ?_
 refine sA rfl (fun _ η=>ij η rfl rfl) ?_
 intro a η
 refine wpList_nil (aT ?_)
 refine Fc η rfl (rfl) ?_
 refine wp_seq (aj ?_)
 revert a
 refine aA rfl rfl ?_
 refine aA rfl rfl ?_
 intro a η
 refine wpList_nil (aT (wp_ret (j9 ?_)))
 refine leave η (gC Tryz.results53 (RV.tmp η rfl) (RV.tmp η rfl)) ?_
 exact ⟨rfl,σ.below⟩
theorem JW {A0 A1:Option Addr} {n0 n1 c0 c1:Nat} {w0:World} (h00:0<n0) (h01:n1=0):
  Calls Tryz.prog 53 #[.slice A0 n0 c0,.slice A1 n1 c1] w0 fun e w'=>e=.returned (.tuple #[bA,aq 0])/\Below w0.heap.size w0 w':=by
 refine enter Tryz.func53 rfl Tryz.ntmps53 rfl ?_
 intro a η σ
 refine wp_seq (aj ?_)
 revert a
 refine aA rfl rfl ?_
 refine aA rfl rfl ?_
 intro a η
 refine wpList_nil (aT (wp_seq (wp_seq (aj ?_))))
 revert a
 refine mA rfl rfl ?_
 refine sA rfl (fun _ η=>eW η Tryz.underlying43 rfl) ?_
 refine sA rfl (fun _ η=>bg η rfl rfl rfl) ?_
 intro a η
 rw [show (((n0:Nat):Int)==(0:Int))=false from (kv.2 ae)] at η
 revert a
 refine mA rfl rfl ?_
 refine gA rfl rfl rfl rfl (fun _ η=>b7 η rfl) ?_
 refine gA rfl rfl rfl rfl (fun _ η=>eW η Tryz.underlying43 rfl) ?_
 refine gA rfl rfl rfl rfl (fun _ η=>bg η rfl rfl rfl) ?_
 intro a η
 rw [show (((n1:Nat):Int)==(0:Int))=true from (uh.2 ae)] at η
 refine sv η rfl (ij η rfl rfl) ?_
 clear η a; intro a η
 refine wpList_nil (aT ?_)
 refine Fc η rfl (rfl) ?_
 refine wp_seq (aj ?_)
 revert a
 refine aA rfl rfl ?_
 refine aA rfl rfl ?_
 intro a η
 refine wpList_nil (aT (wp_ret (j9 ?_)))
 refine leave η (gC Tryz.results53 (RV.tmp η rfl) (RV.tmp η rfl)) ?_
 exact ⟨rfl,σ.below⟩
theorem N6 {B n:Nat} {w:World} {zs:List Int} (hn:n=0) (hz:zs=[]):qC B w bA n zs:=by
 subst hn hz
 exact ⟨none,0,[],rfl,⟨⟨World.ownsRow_nil w 0 _ 2,fun g hg=>by simp [Value.ownBlock] at hg⟩,Io FN w,fun a h=>by cases h⟩,rfl,rfl⟩
theorem ad2 {A0 A1:Option Addr} {n0 n1 c0 c1:Nat} {es0 es1:List NE} {xs ys:List Int} {w0:World} (h0:(ag fN FN 2 A0 n0 c0 es0).P w0) (jF:es0.map zz=xs) (h1:(ag fN FN 2 A1 n1 c1 es1).P w0) (ld:es1.map zz=ys) (Ii:Zk 1000 xs) (Bc:Zk 1000 ys) (vk:n0<=300) (DM:n1<=300):
  Calls Tryz.prog 53 #[.slice A0 n0 c0,.slice A1 n1 c1] w0 fun e w'=>∃v,e=.returned (.tuple #[v,ak (n0*n1)])/\qC w0.heap.size w' v (iy xs ys).length (iy xs ys)/\Below w0.heap.size w0 w':=by
 have UJ:xs.length=n0:=by rw [<- jF,aZ]; exact h0.2.1
 have UK:ys.length=n1:=by rw [<- ld,aZ]; exact h1.2.1
 by_cases h:n0=0∨n1=0
 ·have hc:Calls Tryz.prog 53 #[.slice A0 n0 c0,.slice A1 n1 c1] w0 fun e w'=>e=.returned (.tuple #[bA,aq 0])/\Below w0.heap.size w0 w':=by
   rcases ed n0 with q | q
   ·exact JV q
   ·exact JW q ae
  refine hc.mono fun e w' ⟨he,hb⟩=>⟨bA,?_,?_,hb⟩
  ·rw [he,show n0*n1=0 from Nat.mul_eq_zero.2 h]; rfl
  ·rw [show iy xs ys=[] by rw [iy,UJ,UK,aR h]]
   exact N6 rfl rfl
 ·refine (agd h0 jF h1 ld Ii Bc ae ae vk DM).mono fun e w' ⟨v,he,⟨A,c,es,hv,hr,hl,hz⟩,hb⟩=>⟨v,he,?_,hb⟩
  have heq:IU xs ys (n0+n1 - 1) n0=iy xs ys:=by rw [iy,UJ,UK,aQ h]
  have hle:n0+n1 - 1=(iy xs ys).length:=by rw [<- heq,lF]
  exact ⟨A,c,es,hle ▸ hv,hle ▸ hr,hl.trans hle,hz.trans heq⟩
theorem Hm {a k:Nat} (hk:2<=k):QQ a k<=(a+1) / 2:=by
 unfold QQ
 have h1:a<=2*((a+1) / 2):=ae
 have h2:2*((a+1) / 2)<=k*((a+1) / 2):=eh _ hk
 have h3:(a+k - 1) / k<(a+1) / 2+1:=by
  rw [ux ae,iM,iO]
  omega
 omega
theorem Hn {a k1 k2:Nat} {t:Int} (h1:1<=k1) (h2:1<=k2) (hE:EP a a k1 k2 t):gI a a k1 k2<=(a+1) / 2:=by
 have h:=hE.2
 unfold gI at*
 have a1:2<=k1:=by
  refine qP fun q=>?_
  obtain rfl:k1=1:=ae
  rw [Li] at h; omega
 have a2:2<=k2:=by
  refine qP fun q=>?_
  obtain rfl:k2=1:=ae
  rw [Li] at h; omega
 have b1:=Hm (a:=a) a1
 have b2:=Hm (a:=a) a2
 omega
theorem JY {a b k1 k2:Nat} {t:Int} (hE:EP a b k1 k2 t):2<=a/\2<=b:=by
 have:=hE.1
 omega
theorem X' {k1 k2 n st:Nat} {t:Int} (h1:1<=k1) (h2:1<=k2) (hn:n<=15):∀j a,a<=2 ^ j->(gq k1 k2 n st t a a).1<=16 ^ j/\(gq k1 k2 n st t a a).2.1+1<=16 ^ j/\(gq k1 k2 n st t a a).2.2.1<=16 ^ j/\(gq k1 k2 n st t a a).2.2.2<=st*16 ^ j:=by
 intro j
 have y7:∀j a,a<=2 ^ j->¬EP a a k1 k2 t->(gq k1 k2 n st t a a).1<=16 ^ j/\(gq k1 k2 n st t a a).2.1+1<=16 ^ j/\(gq k1 k2 n st t a a).2.2.1<=16 ^ j/\(gq k1 k2 n st t a a).2.2.2<=st*16 ^ j:=fun j a ha hE=>by
  rw [AQ hE]
  refine ⟨bm _,nW ai,?_,bm _⟩
  refine bq (fG ha ha) ?_
  rw [<- Nat.mul_pow]
  exact CY ai j
 induction j with
 | zero=>exact fun a ha=>y7 0 a ha fun hE=>by have:=(JY hE).1; omega
 | succ j ih=>
  intro a ha
  by_cases hE:EP a a k1 k2 t
  ·have hb:=Hn h1 h2 hE
   have hm:gI a a k1 k2<=2 ^ j:=by rw [iJ] at ha; omega
   obtain ⟨q1,q2,q3,q4⟩:=ih _ hm
   rw [CG hE]
   have hp:1<=16 ^ j:=nW ai
   have r1:=fG hn q1
   have r2:=fG hn q2
   have r3:=fG hn q3
   have r4:=fG hn q4
   rw [fw,tg] at r2
   have e4:15*(st*16 ^ j)+st<=st*16 ^ (j+1):=by
    have h8:=gl st hp
    have h9:=iK st (16 ^ j) 16
    rw [iJ]
    omega
   rw [iJ] at*
   dsimp only
   refine ⟨by omega,by omega,by omega,by omega⟩
  ·exact y7 _ a ha hE
theorem Ho {k1 k2 n st a b:Nat} {t:Int} (h1:1<=k1) (h2:1<=k2) (hn:n<=15) (hs:st<=65536) (ha:a<=64) (hb:b<=64):(gq k1 k2 n st t a b).1<=2 ^ 28/\(gq k1 k2 n st t a b).2.1<=2 ^ 28/\(gq k1 k2 n st t a b).2.2.1<=2 ^ 28/\(gq k1 k2 n st t a b).2.2.2<=2 ^ 44:=by
 by_cases hE:EP a b k1 k2 t
 ·have hm:gI a b k1 k2<=2 ^ 6:=by have:=hE.2; omega
  obtain ⟨q1,q2,q3,q4⟩:=X' (t:=t) h1 h2 hn 6 _ hm
  rw [CG hE]
  have r1:=fG hn q1
  have r2:=fG hn q2
  have r3:=fG hn q3
  have r4:=fG hn (bq q4 (eh _ hs))
  rw [fw,tg] at r2
  dsimp only
  refine ⟨by omega,by omega,by omega,by omega⟩
 ·rw [AQ hE]
  have:=fG ha hb
  dsimp only
  refine ⟨by omega,by omega,by omega,by omega⟩
def vt (k1 k2 n1 n2:Nat):Nat->Nat×Nat
 | 0=>(n1,n2)
 | i+1=>(gI (vt k1 k2 n1 n2 i).1 (vt k1 k2 n1 n2 i).2 k1 k2,gI (vt k1 k2 n1 n2 i).1 (vt k1 k2 n1 n2 i).2 k1 k2)
def N7 (k1 k2 n1 n2:Nat) (t:Int) (i:Nat):Prop:=EP (vt k1 k2 n1 n2 i).1 (vt k1 k2 n1 n2 i).2 k1 k2 t
end Go.Proofs.YtgopcdagnicekaaGreatDoor.W
