/- Package eval: Program and its closures. Printed by pv/gen_u3.py. Of the table math/bits.deBruijn64tab its cells are asked. -/
import Derived.Test.YtgopcdagnicekaaGreatDoorM1
import Derived.Test.YtgopcdagnicekaaGreatDoorM12
import Derived.Test.YtgopcdagnicekaaGreatDoorM43
import Derived.Test.YtgopcdagnicekaaGreatDoorM31
import Derived.Test.YtgopcdagnicekaaGreatDoorM10
import Derived.Sort.OwnSortedInts

set_option linter.unusedVariables false
set_option linter.unusedSimpArgs false
set_option linter.all false
set_option maxRecDepth 100000
set_option maxHeartbeats 4000000
namespace Go.Proofs.YtgopcdagnicekaaGreatDoor.W
open Go.RowKit Anv Go.Lib
def Um (g:Nat) (i r:Int) (A:Option Addr) (n c:Nat) (B:Option Addr) (m d:Nat) (es:List IE):PF:=star [bk g #[aq i,aq r,.slice A n c,.slice B m d] 28,aad A n c es]
theorem abC {w0 w:World} {own ps:List PF} {A B:Option Addr} {n c m d i j:Nat} {es:List IE} {os:List Int} (h:St w0 w own ps) (hi:own[i]?=some (aad A n c es)) (hj:own[j]?=some (aab B m d os)) (hn:i≠j):aaK w0.heap.size w A n c es B m d os:=by
 refine ⟨⟨h.owns hi,fun _ _=>trivial,fun a ha=>h.new _ (aB hi) _ (by subst ha; rfl)⟩,⟨h.owns hj,fun _ _=>trivial,fun a ha=>h.new _ (aB hj) _ (by subst ha; rfl)⟩,fun a b ha hb e=>?_⟩
 subst ha hb
 exact h.one hi hj hn a.block rfl (by show (Value.ownBlock _)=_; rw [e]; rfl)
theorem uZ {k j:Nat} {t:Int} {es:List Pt} {e1 X T:List IE} {q:Pt} (he:es[j]?=some q) (hi:e1++iw k t j (es.drop j)=T) (hp:Bs k t ((k+j:Nat):Int) q=X):(e1++X)++iw k t (j+1) (es.drop (j+1))=T:=by
 obtain ⟨hj,rfl⟩:=bU.1 he
 rw [<- hi,gW hj,iw,hp,cG]
theorem agn {k:Nat} {t o:Int} {q:Pt} (h:k=1):Bs k t o q=[]:=by unfold Bs; rw [aR h]
theorem ago {k:Nat} {t o A B:Int} (h:k≠1) (ha:A=0) (hb:B=0):Bs k t o (A,B)=[(4,o,0,0,0)]:=by unfold Bs; rw [aQ h,aR ⟨ha,hb⟩]
theorem agp {k:Nat} {t o A B:Int} (h:k≠1) (ha:A=0) (hb:B≠0):Bs k t o (A,B)=wV o 0 B (k - 1):=by unfold Bs; rw [aQ h,aQ (fun q=>hb q.2),aR ha]
theorem agq {k:Nat} {t o A B:Int} (h:k≠1) (ha:A≠0) (hb:B=0):Bs k t o (A,B)=wV o ((k - 1:Nat):Int) A (k - 1):=by unfold Bs; rw [aQ h,aQ (fun q=>ha q.1),aQ ha,aR hb]
theorem alv {k:Nat} {t o A B:Int} (h:k≠1) (ha:A≠0) (hb:B≠0):Bs k t o (A,B)=Dl k o t A B ((k - 1:Nat):Int) (k - 1):=by unfold Bs; rw [aQ h,aQ (fun q=>ha q.1),aQ ha,aQ hb]
theorem agr {k j:Nat} {o t A B f:Int} (h:B=1∨(B=-1/\(k - 1 - j)%2=0)):K3 k o t A B f j=vp (oI o f A)++[(3,o,o,(j:Int),0)]:=by unfold K3; rw [aR h]
theorem alw {k j:Nat} {o t A B f:Int} (h:¬(B=1∨(B=-1/\(k - 1 - j)%2=0))) (hb:B=-1):K3 k o t A B f j=vp (oI o f A)++[(4,o,o,(j:Int),0)]:=by unfold K3; rw [aQ h,aR hb]
theorem alx {k j:Nat} {o t A B f:Int} (h:¬(B=1∨(B=-1/\(k - 1 - j)%2=0))) (hb:B≠-1):K3 k o t A B f j=vp (oI o f A)++(wV t (j:Nat) B (k - 1 - j)++[(3,o,o,t,0)]):=by unfold K3; rw [aQ h,aQ hb]
theorem yh {k m:Nat} {o t A B f:Int} {e2 X T:List IE} (hi:e2++Dl k o t A B f (m+1)=T) (hp:K3 k o t A B f m=X):(e2++X)++Dl k o t A B o m=T:=by
 rw [<- hi,Dl,hp,cG]
theorem ags {k j:Nat} {os:List Int} (h:os=jd k j) (hk:k=1):(os++[((k+j:Nat):Int)]).set j 0=jd k (j+1):=by
 subst h
 unfold jd
 rw [aR hk,aR hk,List.replicate_succ']
 rw [EX _ _ cT]
 simp
theorem LB {k j:Nat} {os:List Int} (h:os=jd k j) (hk:k≠1):os++[((k+j:Nat):Int)]=jd k (j+1):=by
 subst h
 unfold jd
 rw [aQ hk,aQ hk,vB,je]
 rfl
theorem Wm (k j:Nat):(jd k j).length=j:=by unfold jd; split<;>simp
theorem tN {w0 w1:World} {op tr ra rb cn i r:Int} {g n c m d:Nat} {A B:Option Addr} {es:List IE} (hS:St w0 w1 [Um g i r A n c B m d es] [bP w1 (Um g i r A n c B m d es)]) (hl:es.length=n) (hn:n<=100000):
  Calls Tryz.prog 83 #[.agg #[aq op,aq tr,aq ra,aq rb,aq cn],bB g] w1 fun e w'=>∃A' c' n',e=.returned (.tuple #[])/\St w0 w' [Um g i r A' n' c' B m d (es++vp (op,tr,ra,rb,cn))] [bP w1 (Um g i r A n c B m d es)]/\(es++vp (op,tr,ra,rb,cn)).length=n':=by
 refine dp Tryz.func83 rfl Tryz.ntmps83 rfl fun σ=>?_
 replace σ:=hS.unpack
 refine eE rfl<|gN σ rfl fun _ bJ σ=>lE 0 σ rfl<|ir rfl<|wN (fun jG=>?_) fun jG=>?_
 ·exact iT rfl rfl<|lE 1 σ rfl<|gE 0 σ rfl<|eE rfl<|lr (z:=5) #[aq op,aq tr,aq ra,aq rb,aq cn] σ (an.size) aI rfl aK fun _ fo σ=>eE rfl<|pT (new:=[(op,tr,ra,rb,cn)]) 3 0 σ bT rfl (by unfold maxLen; omega) ae fun _ eZ sF σ=>eE rfl<|j0 2 σ rfl fun _ σ=>Bu Tryz.results83<|by rw [pW ae]; exact ⟨_,_,_,rfl,(σ.pick [2,3] [0] ai).pack 2,by rw [aP,hl]; rfl⟩
 ·refine lE 0 σ rfl<|lE 0 σ rfl<|ir rfl<|wN (fun wa=>?_) fun wa=>?_
  ·exact iT rfl rfl<|lE 1 σ rfl<|gE 0 σ rfl<|eE rfl<|lr (z:=5) #[aq op,aq tr,aq ra,aq rb,aq cn] σ (an.size) aI rfl aK fun _ u5 σ=>eE rfl<|pT (new:=[(op,tr,ra,rb,cn)]) 3 0 σ bT rfl (by unfold maxLen; omega) ae fun _ z7 c59 σ=>eE rfl<|j0 2 σ rfl fun _ σ=>Bu Tryz.results83<|by rw [pW ae]; exact ⟨_,_,_,rfl,(σ.pick [2,3] [0] ai).pack 2,by rw [aP,hl]; rfl⟩
  ·exact iF rfl rfl<|Bu Tryz.results83<|by rw [abr ⟨by omega,by omega⟩,fv]; exact ⟨_,_,_,rfl,(σ.pick [1,2] [0] ai).pack 2,hl⟩
theorem wg {w0 w1:World} {tr ra cn i r:Int} {g g7 n c m d mm:Nat} {A B:Option Addr} {es:List IE} (hS:St w0 w1 [Um g i r A n c B m d es] [bP w1 (Um g i r A n c B m d es),bk g7 #[.func (.func 83) #[] #[bB g]] 161,my]) (hl:es.length=n) (hn:n+mm<=100000) (b1:-512<=cn) (b2:cn<=512):
  Calls Tryz.prog 84 #[aq tr,aq ra,aq cn,ak mm,bB g7] w1 fun e w'=>∃A' c' n',e=.returned (.tuple #[])/\St w0 w' [Um g i r A' n' c' B m d (es++wV tr ra cn mm)] [bP w1 (Um g i r A n c B m d es)]/\(es++wV tr ra cn mm).length=n':=by
 refine dp Tryz.func84 rfl Tryz.ntmps84 rfl fun σ=>?_
 replace σ:=hS
 refine fX (fun mz l w=>∃j:Nat,∃YL:Int,∃A1:Option Addr,∃c1:Nat,∃n1:Nat,∃es1:List IE,mm - j=mz/\l=[(1,aq YL),(10,ak j),(0,aq tr),(2,aq cn),(4,bB g7),(9,ak mm)]/\St w0 w [Um g i r A1 n1 c1 B m d es1] [bP w1 (Um g i r A n c B m d es),bk g7 #[.func (.func 83) #[] #[bB g]] 161,my]/\j<=mm/\es1++wV tr YL cn (mm - j)=es++wV tr ra cn mm/\es1.length=n1/\n1+(mm - j)<=100000) ⟨0,ra,A,c,n,es,rfl,rfl,σ,(bm _),rfl,hl,hn⟩ ay ?_
 rintro _ _ _ ⟨j,YL,A1,c1,n1,es1,rfl,rfl,σ,hj,hi,iQ,hb⟩
 refine ei rfl<|wD (fun iz=>?_) fun iz=>?_
 ·refine iT rfl rfl<|gY [5] [1,4,8,12,18,22] aK σ fun _ σ=>sE rfl (fun η hg=>aS η eu rfl (kg (hg.pt (j:=1) rfl)) rfl)<|eS rfl<|dx Tryz.call85 (Gu σ.cF ae ae) σ rfl fun _ σ=>sk σ.kn<|eS rfl<|sf Tryz.call83 rfl (tN (σ.bO (k:=0) rfl []) iQ ae) rfl ?_
  rintro _ _ ⟨z8,wh,n54,rfl,tO,xE⟩
  refine ⟨_,rfl,?_⟩
  replace σ:=σ.j4 (k:=0) rfl tO
  have Rt:=xZ (oI tr YL cn)
  have z':(es1++vp (oI tr YL cn)).length=n54:=xE
  rw [aP,iQ] at z'
  exact sz rfl<|can (j:=1) rfl ae<|dF ⟨j+1,tr,z8,wh,n54,(es1++vp (oI tr YL cn)),rfl,rfl,σ,ae,(by rw [<- hi,show mm - j=(mm - (j+1))+1 by omega,cG]; rfl),xE,ae⟩ ay ae
 ·exact iF rfl rfl<|Bu Tryz.results84<|by rw [show es++wV tr ra cn mm=es1 by rw [<- hi,show mm - j=0 by omega]; exact fv _]; exact ⟨_,_,_,rfl,σ.pick [0] [0] ai,iQ⟩
theorem JZ {w0:World} {kk:Nat} {A0:Option Addr} {n0 c0:Nat} {es0:List Pt} (h0:(u3 A0 n0 c0 es0).P w0) (hD:iG w0) (Bc:1<=kk) (hk8:kk<=8) (hP:zZ es0):
  Calls Tryz.prog 47 #[ak kk,.slice A0 n0 c0] w0 fun e w'=>∃A n c B d,e=.returned (.tuple #[.agg #[ak kk,ak (kk+n0+1),.slice A n c,.slice B n0 d],aq 0])/\aaK w0.heap.size w' A n c (iw kk ((kk+n0:Nat):Int) 0 es0) B n0 d (jd kk n0)/\(iw kk ((kk+n0:Nat):Int) 0 es0).length=n/\Below w0.heap.size w0 w':=by
 have hP1:=hP.1
 have hP2:=hP.2.1
 refine dp Tryz.func47 rfl Tryz.ntmps47 rfl fun σ=>?_
 replace σ:=σ.j1 hD
 have a8:=h0.2.1
 have ic:=h0.1.cap
 have bW:=h0.1.big
 unfold maxLen at bW
 replace σ:=σ.aE h0
 refine eE rfl<|eL bf σ rfl fun _ bJ σ=>We rfl<|ei rfl<|kB (b':=false) (bR ae)<|pd rfl<|kB (b':=false) (bR ae)<|eE rfl<|dx Tryz.call82 (Cv σ.aU) σ rfl fun _ σ=>kB (b':=true) (dU hP)<|iF rfl rfl<|can rfl ae<|can (j:=1) rfl ae<|vE rfl (fun η=>cK (c:=#[ak kk,ak ((kk+n0)+1),bA,bA]) eM η rfl rfl)<|eE rfl<|eL bf σ rfl fun _ cJ σ=>eE rfl<|cX 0 σ rfl fun _ σ=>vE rfl (fun η=>cW (us:=#[]) (vs:=#[bB cJ]) η rfl rfl)<|eE rfl<|eL qY σ rfl fun _ fo σ=>eE rfl<|j0 0 σ rfl fun _ σ=>?_
 replace σ:=σ.uK (k:=0) rfl
 refine can rfl ae<|vE rfl (fun η=>cW (us:=#[]) (vs:=#[bB fo]) η rfl rfl)<|?_
 replace σ:=(σ.cl ar 3 1)
 replace σ:=(σ.cl ar 116 5)
 refine fX (fun mz l w=>∃j:Nat,∃A1:Option Addr,∃c1:Nat,∃n1:Nat,∃es1:List IE,∃B1:Option Addr,∃d1:Nat,∃EE:List Int,n0 - j=mz/\l=[(43,ak j),(0,ak kk),(4,bB bJ),(6,bB cJ),(7,bB fo),(8,ak (kk+n0)),(9,.func (.func 84) #[] #[bB fo]),(41,.slice A0 n0 c0),(42,ak n0)]/\St w0 w [bk bJ #[aq 0,aq 0,bA,bA] 28,bk cJ #[ak kk,ak ((kk+n0)+1),.slice A1 n1 c1,.slice B1 j d1] 28,aad A1 n1 c1 es1,aab B1 j d1 EE] [bk fo #[.func (.func 83) #[] #[bB cJ]] 161,u3 A0 n0 c0 es0,my]/\j<=n0/\es1++iw kk ((kk+n0:Nat):Int) j (es0.drop j)=iw kk ((kk+n0:Nat):Int) 0 es0/\EE=jd kk j/\es1.length=n1/\n1<=64*j) ⟨0,none,0,0,([]:List IE),none,0,([]:List Int),rfl,rfl,σ.pick [3,2,0,1] [0,1,2] ai,(bm _),rfl,(by unfold jd; split<;>rfl),rfl,ai⟩ ay ?_
 rintro _ _ _ ⟨j,A1,c1,n1,es1,B1,d1,EE,rfl,rfl,σ,hj,hi,ho,iQ,hb⟩
 refine ei rfl<|wD (fun pV=>?_) fun pV=>?_
 ·have cD:j<n0:=ae
  obtain ⟨⟨pa,pb⟩,b5⟩:∃e,es0[j]?=some e:=⟨_,aw ae⟩
  obtain ⟨⟨b1,b2⟩,b3,b4⟩:=hP.2.2 _ (aB b5)
  dsimp only at b1 b2 b3 b4
  refine iT rfl rfl<|vE rfl (fun η=>az (i:=j) η Tryz.underlying22 (aC.size) rfl rfl ae rfl σ.bC.1)<|cE rfl (fun η=>bF (i:=j) (e:=(pa,pb)) η aC rfl rfl ft σ.bC.1 ae b5 rfl)<|eE rfl<|eL bp σ rfl fun _ oo σ=>eE rfl<|cX 0 σ rfl fun _ σ=>can rfl ae<|lE 2 σ rfl<|eE rfl<|lr (z:=1) #[ak (kk+j)] σ (aD.size) dc rfl aK fun _ yi σ=>eE rfl<|pT (new:=[((kk+j:Nat):Int)]) 5 0 σ du rfl (by unfold maxLen; omega) ae fun _ u5 I2 σ=>eE rfl<|j0 3 σ rfl fun _ σ=>cZ rfl<|wQ (fun u6=>?_) fun u6=>?_
  ·exact iT rfl rfl<|lE 3 σ rfl<|vE rfl (fun η=>az (i:=j) η Tryz.underlying26 (aD.size) rfl rfl ae rfl (ax σ.MN))<|eE rfl<|qI 5 j (e1:=(0:Int)) bn σ rfl rfl ae (by rw [aP,ho,Wm]; rfl) fun _ σ=>can (j:=1) rfl ae<|dF ⟨j+1,A1,c1,n1,es1,bh u5,I2,((EE++[((kk+j:Nat):Int)]).set j (0:Int)),rfl,rfl,σ.pick [2,3,4,5] [0,1,2] ai,ae,(by have:=uZ b5 hi (agn ae); rwa [fv] at this),(ags ho ae),iQ,ae⟩ ay ae
  ·refine iF rfl rfl<|lE 1 σ rfl<|cZ rfl<|wQ (fun xg=>?_) fun xg=>?_
   ·refine lE 1 σ rfl<|cZ rfl<|wQ (fun wj=>?_) fun wj=>?_
    ·refine iT rfl rfl<|cE rfl (fun η=>aS η eu rfl (kg σ.aU) rfl)<|vE rfl (fun η=>cK (c:=#[aq 4,ak (kk+j),aq 0,aq 0,aq 0]) bG η rfl rfl)<|?_
     replace σ:=(σ.pick [3,4,0,1,2,5] [0,1,2] ai).pack 2
     refine eE rfl<|sf Tryz.call83 rfl (tN (σ.bO (k:=0) rfl []) iQ ae) rfl ?_
     rintro _ _ ⟨A62,Wn,n64,rfl,agt,Ru⟩
     refine ⟨_,rfl,?_⟩
     rw [pW (op:=4) ae] at agt Ru
     replace σ:=σ.j4 (k:=0) rfl agt
     have abE:=Ru
     rw [aP,iQ,dG] at abE
     replace σ:=σ.unpack
     exact can (j:=1) rfl ae<|dF ⟨j+1,A62,Wn,n64,(es1++[((4:Int),((kk+j:Nat):Int),(0:Int),(0:Int),(0:Int))]),bh u5,I2,(EE++[((kk+j:Nat):Int)]),rfl,rfl,σ.pick [4,0,1,5] [0,1,2] ai,ae,(uZ b5 hi (ago ae xg wj)),(LB ho ae),Ru,ae⟩ ay ae
    ·refine iF rfl rfl<|lE 1 σ rfl<|cZ rfl<|kB (b':=true) (uh.2 xg)<|iT rfl rfl<|lE 1 σ rfl<|xD (j:=1) rfl ae<|?_
     replace σ:=(σ.pick [3,4,0,1,2,5] [0,1,2] ai).pack 2
     refine eE rfl<|sf Tryz.call84 rfl (wg (mm:=kk - 1) (σ.bO (k:=0) rfl [0,2]) iQ ae ae ae) rfl ?_
     rintro _ _ ⟨A67,c68,n69,rfl,alA,Rv⟩
     refine ⟨_,rfl,?_⟩
     replace σ:=σ.j4 (k:=0) rfl alA
     have abF:=pP ((kk+j:Nat):Int) pb (kk - 1) (0:Int)
     have abG:(es1++(wV ((kk+j:Nat):Int) (0:Int) pb (kk - 1))).length=n69:=Rv
     rw [aP,iQ] at abG
     replace σ:=σ.unpack
     exact can (j:=1) rfl ae<|dF ⟨j+1,A67,c68,n69,(es1++(wV ((kk+j:Nat):Int) (0:Int) pb (kk - 1))),bh u5,I2,(EE++[((kk+j:Nat):Int)]),rfl,rfl,σ.pick [4,0,1,5] [0,1,2] ai,ae,(uZ b5 hi (agp ae xg wj)),(LB ho ae),Rv,ae⟩ ay ae
   ·refine iF rfl rfl<|lE 1 σ rfl<|cZ rfl<|kB (b':=false) (kv.2 xg)<|iF rfl rfl<|lE 1 σ rfl<|cZ rfl<|wQ (fun h72=>?_) fun h72=>?_
    ·refine iT rfl rfl<|xD (j:=1) rfl ae<|lE 1 σ rfl<|xD (j:=1) rfl ae<|?_
     replace σ:=(σ.pick [3,4,0,1,2,5] [0,1,2] ai).pack 2
     refine eE rfl<|sf Tryz.call84 rfl (wg (mm:=kk - 1) (σ.bO (k:=0) rfl [0,2]) iQ ae ae ae) rfl ?_
     rintro _ _ ⟨A73,c74,n75,rfl,alC,agu⟩
     refine ⟨_,rfl,?_⟩
     replace σ:=σ.j4 (k:=0) rfl alC
     have alD:=pP ((kk+j:Nat):Int) pa (kk - 1) ((kk - 1:Nat):Int)
     have abI:(es1++(wV ((kk+j:Nat):Int) ((kk - 1:Nat):Int) pa (kk - 1))).length=n75:=agu
     rw [aP,iQ] at abI
     replace σ:=σ.unpack
     exact can (j:=1) rfl ae<|dF ⟨j+1,A73,c74,n75,(es1++(wV ((kk+j:Nat):Int) ((kk - 1:Nat):Int) pa (kk - 1))),bh u5,I2,(EE++[((kk+j:Nat):Int)]),rfl,rfl,σ.pick [4,0,1,5] [0,1,2] ai,ae,(uZ b5 hi (agq ae xg h72)),(LB ho ae),agu,ae⟩ ay ae
    ·refine iF rfl rfl<|xD (j:=1) rfl ae<|xD (j:=2) rfl ae<|fX (fun mz l w=>∃m:Nat,∃z:Int,∃fr:Int,∃A2:Option Addr,∃c2:Nat,∃n2:Nat,∃dL:List IE,m=mz/\l=[(13,aq fr),(14,aq z),(0,ak kk),(4,bB bJ),(6,bB cJ),(7,bB fo),(8,ak (kk+n0)),(9,.func (.func 84) #[] #[bB fo]),(11,bB oo),(12,ak (kk+j)),(41,.slice A0 n0 c0),(42,ak n0),(43,ak j)]/\St w0 w [bk oo #[aq pa,aq pb] 61,bk bJ #[aq 0,aq 0,bA,bA] 28,aab (bh u5) (j+1) I2 (EE++[((kk+j:Nat):Int)]),bk cJ #[ak kk,ak ((kk+n0)+1),.slice A2 n2 c2,.slice (bh u5) (j+1) I2] 28,aad A2 n2 c2 dL] [bk fo #[.func (.func 83) #[] #[bB cJ]] 161,u3 A0 n0 c0 es0,my]/\z=((m:Nat):Int) - 1/\m+1<=kk/\dL++Dl kk ((kk+j:Nat):Int) ((kk+n0:Nat):Int) pa pb fr m=es1++Dl kk ((kk+j:Nat):Int) ((kk+n0:Nat):Int) pa pb ((kk - 1:Nat):Int) (kk - 1)/\dL.length=n2/\n2+9*m<=64*j+63) ⟨(kk - 1),((kk - 2:Nat):Int),((kk - 1:Nat):Int),A1,c1,n1,es1,rfl,rfl,σ.pick [1,2,5,3,4] [0,1,2] ai,ae,ae,rfl,iQ,ae⟩ ay ?_
     rintro _ _ _ ⟨m,z,fr,A2,c2,n2,dL,rfl,rfl,σ,hz,hmk,vI,jb,gx⟩
     refine xd rfl<|wD (fun h78=>?_) fun h78=>?_
     ·obtain ⟨m2,rfl⟩:∃m2,m=m2+1:=⟨m-1,by omega⟩
      obtain rfl:z=((m2:Nat):Int):=ae
      refine iT rfl rfl<|gY [6] [1,4,8,12,17,22,26] aK σ fun _ σ=>sE rfl (fun η hg=>aS η eu rfl (kg (hg.pt (j:=0) rfl)) rfl)<|lS 0 rfl<|eS rfl<|dx Tryz.call85 (Gu σ.cF ae ae) σ rfl fun _ σ=>sk σ.kn<|?_
      replace σ:=(σ.pick [3,4,0,1,2] [0,1,2] ai).pack 2
      refine eS rfl<|sf Tryz.call83 rfl (tN (σ.bO (k:=0) rfl []) jb ae) rfl ?_
      rintro _ _ ⟨A79,c80,n81,rfl,abJ,tP⟩
      refine ⟨_,rfl,?_⟩
      replace σ:=σ.j4 (k:=0) rfl abJ
      have abK:=xZ (oI ((kk+j:Nat):Int) fr pa)
      have I3:(dL++vp (oI ((kk+j:Nat):Int) fr pa)).length=n81:=tP
      rw [aP,jb] at I3
      replace σ:=σ.unpack
      refine sz rfl<|xD (j:=1) rfl ae<|xD rfl ae<|lE 2 σ rfl<|cZ rfl<|wQ (fun h84=>?_) fun h84=>?_
      ·refine iT rfl rfl<|iT rfl rfl<|cE rfl (fun η=>aS η eu rfl (kg σ.aU) rfl)<|vE rfl (fun η=>cK (c:=#[aq 3,ak (kk+j),ak (kk+j),ak m2,aq 0]) bG η rfl rfl)<|?_
       replace σ:=σ.pack 2
       refine eE rfl<|sf Tryz.call83 rfl (tN (σ.bO (k:=0) rfl []) tP ae) rfl ?_
       rintro _ _ ⟨A85,c86,n87,rfl,agw,DV⟩
       refine ⟨_,rfl,?_⟩
       rw [pW (op:=3) ae] at agw DV
       replace σ:=σ.j4 (k:=0) rfl agw
       have abL:=DV
       rw [aP,tP,dG] at abL
       replace σ:=σ.unpack
       exact yf rfl ae<|dF ⟨m2,(((m2:Nat):Int) - (1:Int)),((kk+j:Nat):Int),A85,c86,n87,((dL++vp (oI ((kk+j:Nat):Int) fr pa))++[((3:Int),((kk+j:Nat):Int),((kk+j:Nat):Int),((m2:Nat):Int),(0:Int))]),rfl,rfl,σ.pick [2,3,4,0,1] [0,1,2] ai,rfl,ae,(by have:=yh vI (agr (.inl h84)); simpa only [cG] using this),DV,ae⟩ ay ae
      ·refine iF rfl rfl<|lE 2 σ rfl<|cZ rfl<|wQ (fun h90=>?_) fun h90=>?_
       ·refine vE rfl (fun η=>tu η rfl rfl ai (Ff ((kk - 1) - m2) 2))<|cZ rfl<|wQ (fun h91=>?_) fun h91=>?_
        ·refine iT rfl rfl<|cE rfl (fun η=>aS η eu rfl (kg σ.aU) rfl)<|vE rfl (fun η=>cK (c:=#[aq 3,ak (kk+j),ak (kk+j),ak m2,aq 0]) bG η rfl rfl)<|?_
         replace σ:=σ.pack 2
         refine eE rfl<|sf Tryz.call83 rfl (tN (σ.bO (k:=0) rfl []) tP ae) rfl ?_
         rintro _ _ ⟨A92,c93,n94,rfl,agx,abM⟩
         refine ⟨_,rfl,?_⟩
         rw [pW (op:=3) ae] at agx abM
         replace σ:=σ.j4 (k:=0) rfl agx
         have abN:=abM
         rw [aP,tP,dG] at abN
         replace σ:=σ.unpack
         exact yf rfl ae<|dF ⟨m2,(((m2:Nat):Int) - (1:Int)),((kk+j:Nat):Int),A92,c93,n94,((dL++vp (oI ((kk+j:Nat):Int) fr pa))++[((3:Int),((kk+j:Nat):Int),((kk+j:Nat):Int),((m2:Nat):Int),(0:Int))]),rfl,rfl,σ.pick [2,3,4,0,1] [0,1,2] ai,rfl,ae,(by have:=yh vI (agr (.inr ⟨h90,by omega⟩)); simpa only [cG] using this),abM,ae⟩ ay ae
        ·refine iF rfl rfl<|lE 2 σ rfl<|cZ rfl<|kB (b':=true) (uh.2 h90)<|iT rfl rfl<|cE rfl (fun η=>aS η eu rfl (kg σ.aU) rfl)<|vE rfl (fun η=>cK (c:=#[aq 4,ak (kk+j),ak (kk+j),ak m2,aq 0]) bG η rfl rfl)<|?_
         replace σ:=σ.pack 2
         refine eE rfl<|sf Tryz.call83 rfl (tN (σ.bO (k:=0) rfl []) tP ae) rfl ?_
         rintro _ _ ⟨A97,c98,n99,rfl,LC,Rx⟩
         refine ⟨_,rfl,?_⟩
         rw [pW (op:=4) ae] at LC Rx
         replace σ:=σ.j4 (k:=0) rfl LC
         have Wo:=Rx
         rw [aP,tP,dG] at Wo
         replace σ:=σ.unpack
         exact yf rfl ae<|dF ⟨m2,(((m2:Nat):Int) - (1:Int)),((kk+j:Nat):Int),A97,c98,n99,((dL++vp (oI ((kk+j:Nat):Int) fr pa))++[((4:Int),((kk+j:Nat):Int),((kk+j:Nat):Int),((m2:Nat):Int),(0:Int))]),rfl,rfl,σ.pick [2,3,4,0,1] [0,1,2] ai,rfl,ae,(by have:=yh vI (alw (fun q=>ae) h90); simpa only [cG] using this),Rx,ae⟩ ay ae
       ·refine iF rfl rfl<|lE 2 σ rfl<|cZ rfl<|kB (b':=false) (kv.2 h90)<|iF rfl rfl<|lE 2 σ rfl<|?_
        replace σ:=σ.pack 2
        refine eE rfl<|sf Tryz.call84 rfl (wg (mm:=(kk - 1) - m2) (σ.bO (k:=0) rfl [0,2]) tP ae ae ae) rfl ?_
        rintro _ _ ⟨agy,Nu,n104,rfl,Gv,Cw⟩
        refine ⟨_,rfl,?_⟩
        replace σ:=σ.j4 (k:=0) rfl Gv
        have Wp:=pP ((kk+n0:Nat):Int) pb ((kk - 1) - m2) ((m2:Nat):Int)
        have DW:((dL++vp (oI ((kk+j:Nat):Int) fr pa))++(wV ((kk+n0:Nat):Int) ((m2:Nat):Int) pb ((kk - 1) - m2))).length=n104:=Cw
        rw [aP,tP] at DW
        replace σ:=σ.unpack
        refine cE rfl (fun η=>aS η eu rfl (kg σ.aU) rfl)<|vE rfl (fun η=>cK (c:=#[aq 3,ak (kk+j),ak (kk+j),ak (kk+n0),aq 0]) bG η rfl rfl)<|?_
        replace σ:=σ.pack 2
        refine eE rfl<|sf Tryz.call83 rfl (tN (σ.bO (k:=0) rfl []) Cw ae) rfl ?_
        rintro _ _ ⟨agz,Wq,n109,rfl,LD,Cy⟩
        refine ⟨_,rfl,?_⟩
        rw [pW (op:=3) ae] at LD Cy
        replace σ:=σ.j4 (k:=0) rfl LD
        have DX:=Cy
        rw [aP,Cw,dG] at DX
        replace σ:=σ.unpack
        exact yf rfl ae<|dF ⟨m2,(((m2:Nat):Int) - (1:Int)),((kk+j:Nat):Int),agz,Wq,n109,(((dL++vp (oI ((kk+j:Nat):Int) fr pa))++(wV ((kk+n0:Nat):Int) ((m2:Nat):Int) pb ((kk - 1) - m2)))++[((3:Int),((kk+j:Nat):Int),((kk+j:Nat):Int),((kk+n0:Nat):Int),(0:Int))]),rfl,rfl,σ.pick [2,3,4,0,1] [0,1,2] ai,rfl,ae,(by have:=yh vI (alx (fun q=>ae) h90); simpa only [cG] using this),Cy,ae⟩ ay ae
     ·obtain rfl:m=0:=ae
      have iI:dL=es1++Dl kk ((kk+j:Nat):Int) ((kk+n0:Nat):Int) pa pb ((kk - 1:Nat):Int) (kk - 1):=by rw [<- vI]; exact (fv _).symm
      exact iF rfl rfl<|can (j:=1) rfl ae<|dF ⟨j+1,A2,c2,n2,dL,bh u5,I2,(EE++[((kk+j:Nat):Int)]),rfl,rfl,σ.pick [1,3,4,2] [0,1,2] ai,ae,(by rw [iI]; exact uZ b5 hi (alv ae xg h72)),(LB ho ae),jb,ae⟩ ay ae
 ·obtain rfl:j=n0:=ae
  refine iF rfl rfl<|gE 1 σ rfl<|eE rfl<|cX 0 σ rfl fun _ σ=>oR (fun e=>gC Tryz.results47 (RV.cell e aO rfl σ.dj rfl) (RV.tmp e rfl))<|?_
  have hi9:es1=iw kk ((kk+j:Nat):Int) 0 es0:=by rw [<- hi,dM ae]; exact (fv _).symm
  exact by rw [<- hi9,<- ho]; exact ⟨_,_,_,_,_,rfl,abC σ (i:=2) (j:=3) rfl rfl ai,iQ,σ.below⟩
def pX (g n:Nat) (A:Option Addr) (nI c:Nat) (B:Option Addr) (m d:Nat) (es:List IE):PF:=star [bk g #[ak n,.slice A nI c,.slice B m d] 264,aad A nI c es]
theorem alK {t a c:Int} (h:c=0):gy t a c=[(4,t,a,a,0)]:=by unfold gy; rw [aR h]
theorem agA {t a c:Int} (h:c=1) (ht:t=a):gy t a c=[]:=by unfold gy; rw [aQ ae,aR h,aR ht]
theorem alL {t a c:Int} (h:c=1) (ht:t≠a):gy t a c=[(1,t,a,0,0)]:=by unfold gy; rw [aQ ae,aR h,aQ ht]
theorem alM {t a c:Int} (h:c=-1):gy t a c=[(2,t,a,0,0)]:=by unfold gy; rw [aQ ae,aQ ae,aR h]
theorem alN {t a c:Int} (h0:c≠0) (h1:c≠1) (h2:c≠-1):gy t a c=[(5,t,a,0,c)]:=by unfold gy; rw [aQ h0,aQ h1,aQ h2]
theorem ef (t a c:Int):(gy t a c).length<=1:=by unfold gy; split; simp; split; split<;>simp; split<;>simp
theorem yj (t c:Int):(tY t c).length<=1:=by unfold tY; split; simp; split<;>simp
theorem Af (t c:Int):∀(n:Nat) (a k:Int),(zP t c a k n).length<=n+1
 | 0,a,k=>ef t a k
 | n+1,a,k=>by
  unfold zP
  split
  ·rw [aP]
   have:=ef t a k
   have:=Af t c n t c
   omega
  ·have:=Af t c n a (k*c)
   omega
theorem Gw (t a c:Int) (e:Nat):(tZ t a c e).length<=e+1:=by
 unfold tZ
 split
 ·have:=ef t a (if c=-1/\e%2=0 then 1 else c)
  omega
 ·exact Af t c e a 1
theorem alO {t a c:Int} {e:Nat} (h:(c=0/\0<e)∨c=1∨c=-1) (h2:c=-1/\e%2=0):tZ t a c e=gy t a 1:=by unfold tZ; rw [aR h,aR h2]
theorem abO {t a c:Int} {e:Nat} (h:(c=0/\0<e)∨c=1∨c=-1) (h2:¬(c=-1/\e%2=0)):tZ t a c e=gy t a c:=by unfold tZ; rw [aR h,aQ h2]
theorem Ry {k c:Int} (h1:-512<=k/\k<=512) (h2:-512<=c/\c<=512):-262144<=k*c/\k*c<=262144:=by
 have h3:(k*c).natAbs<=512*512:=by
  rw [lH]
  exact fG ae ae
 omega
theorem nu {w0 w1:World} {op tr ra rb cn:Int} {g n nI c m d:Nat} {A B:Option Addr} {es:List IE} (hS:St w0 w1 [pX g n A nI c B m d es] [bP w1 (pX g n A nI c B m d es)]) (hl:es.length=nI) (hn:nI<=100000):
  Calls Tryz.prog 204 #[bB g,aq op,aq tr,aq ra,aq rb,aq cn] w1 fun e w'=>∃A' c' n',e=.returned (.tuple #[])/\St w0 w' [pX g n A' n' c' B m d (es++[(op,tr,ra,rb,cn)])] [bP w1 (pX g n A nI c B m d es)]/\(es++[(op,tr,ra,rb,cn)]).length=n':=by
 refine dp Tryz.func204 rfl Tryz.ntmps204 rfl fun σ=>?_
 replace σ:=hS
 replace σ:=σ.unpack
 exact lE 0 σ rfl<|vE rfl (fun η=>cK bG η rfl rfl)<|eE rfl<|lr #[aq op,aq tr,aq ra,aq rb,aq cn] σ (an.size) aI rfl aK fun _ bJ σ=>eE rfl<|pT 2 0 σ bT rfl (by unfold maxLen; omega) ae fun _ cJ wh σ=>eE rfl<|j0 1 σ rfl fun _ σ=>Bu Tryz.results204<|⟨_,_,_,rfl,(σ.pick [1,2] [0] ai).pack 2,by rw [aP,hl]; rfl⟩
theorem dZ {w0 w1:World} {tr ra cn:Int} {g n nI c m d:Nat} {A B:Option Addr} {es:List IE} (hS:St w0 w1 [pX g n A nI c B m d es] [bP w1 (pX g n A nI c B m d es)]) (hl:es.length=nI) (hn:nI<=100000):
  Calls Tryz.prog 177 #[bB g,aq tr,aq ra,aq cn] w1 fun e w'=>∃A' c' n',e=.returned (.tuple #[])/\St w0 w' [pX g n A' n' c' B m d (es++gy tr ra cn)] [bP w1 (pX g n A nI c B m d es)]/\(es++gy tr ra cn).length=n':=by
 refine dp Tryz.func177 rfl Tryz.ntmps177 rfl fun σ=>?_
 replace σ:=hS
 refine cZ rfl<|wQ (fun iz=>?_) fun iz=>?_
 ·refine iT rfl rfl<|eE rfl<|cS Tryz.call204 (nu (σ.bO (k:=0) rfl []) hl ae) rfl ?_
  rintro _ _ ⟨z8,wh,n54,rfl,tO,xE⟩
  refine ⟨_,rfl,?_⟩
  replace σ:=σ.j4 (k:=0) rfl tO
  have Rt:=dG (a:=((4:Int),tr,ra,ra,(0:Int)))
  have z':(es++[((4:Int),tr,ra,ra,(0:Int))]).length=n54:=xE
  rw [aP,hl] at z'
  exact Bu Tryz.results177<|by rw [alK ae]; exact ⟨_,_,_,rfl,σ,xE⟩
 ·refine iF rfl rfl<|cZ rfl<|wQ (fun Ah=>?_) fun Ah=>?_
  ·refine cZ rfl<|wQ (fun rB=>?_) fun rB=>?_
   ·exact iT rfl rfl<|Bu Tryz.results177<|by rw [agA ae ae,fv]; exact ⟨_,_,_,rfl,σ,hl⟩
   ·refine iF rfl rfl<|cZ rfl<|kB (b':=true) (uh.2 Ah)<|iT rfl rfl<|eE rfl<|cS Tryz.call204 (nu (σ.bO (k:=0) rfl []) hl ae) rfl ?_
    rintro _ _ ⟨LF,HJ,n61,rfl,I4,agB⟩
    refine ⟨_,rfl,?_⟩
    replace σ:=σ.j4 (k:=0) rfl I4
    have alP:=dG (a:=((1:Int),tr,ra,(0:Int),(0:Int)))
    have abP:(es++[((1:Int),tr,ra,(0:Int),(0:Int))]).length=n61:=agB
    rw [aP,hl] at abP
    exact Bu Tryz.results177<|by rw [alL ae ae]; exact ⟨_,_,_,rfl,σ,agB⟩
  ·refine iF rfl rfl<|cZ rfl<|kB (b':=false) (kv.2 Ah)<|iF rfl rfl<|cZ rfl<|wQ (fun HN=>?_) fun HN=>?_
   ·refine iT rfl rfl<|eE rfl<|cS Tryz.call204 (nu (σ.bO (k:=0) rfl []) hl ae) rfl ?_
    rintro _ _ ⟨V1,V2,n67,rfl,DY,DZ⟩
    refine ⟨_,rfl,?_⟩
    replace σ:=σ.j4 (k:=0) rfl DY
    have RA:=dG (a:=((2:Int),tr,ra,(0:Int),(0:Int)))
    have Ai:(es++[((2:Int),tr,ra,(0:Int),(0:Int))]).length=n67:=DZ
    rw [aP,hl] at Ai
    exact Bu Tryz.results177<|by rw [alM ae]; exact ⟨_,_,_,rfl,σ,DZ⟩
   ·refine iF rfl rfl<|eE rfl<|cS Tryz.call204 (nu (σ.bO (k:=0) rfl []) hl ae) rfl ?_
    rintro _ _ ⟨Uh,Ui,n72,rfl,RC,Gx⟩
    refine ⟨_,rfl,?_⟩
    replace σ:=σ.j4 (k:=0) rfl RC
    have RD:=dG (a:=((5:Int),tr,ra,(0:Int),cn))
    have Al:(es++[((5:Int),tr,ra,(0:Int),cn)]).length=n72:=Gx
    rw [aP,hl] at Al
    exact Bu Tryz.results177<|by rw [alN ae ae ae]; exact ⟨_,_,_,rfl,σ,Gx⟩
theorem yk {w0 w1:World} {tr cn:Int} {g n nI c m d:Nat} {A B:Option Addr} {es:List IE} (hS:St w0 w1 [pX g n A nI c B m d es] [bP w1 (pX g n A nI c B m d es)]) (hl:es.length=nI) (hn:nI<=100000):
  Calls Tryz.prog 175 #[bB g,aq tr,aq cn] w1 fun e w'=>∃A' c' n',e=.returned (.tuple #[])/\St w0 w' [pX g n A' n' c' B m d (es++tY tr cn)] [bP w1 (pX g n A nI c B m d es)]/\(es++tY tr cn).length=n':=by
 refine dp Tryz.func175 rfl Tryz.ntmps175 rfl fun σ=>?_
 replace σ:=hS
 refine cZ rfl<|wQ (fun iz=>?_) fun iz=>?_
 ·exact iT rfl rfl<|Bu Tryz.results175<|by rw [show tY tr cn=[] by unfold tY; rw [aR ae],fv]; exact ⟨_,_,_,rfl,σ,hl⟩
 ·refine iF rfl rfl<|cZ rfl<|wQ (fun jG=>?_) fun jG=>?_
  ·refine iT rfl rfl<|eE rfl<|cS Tryz.call204 (nu (σ.bO (k:=0) rfl []) hl ae) rfl ?_
   rintro _ _ ⟨oK,nv,n55,rfl,wk,Am⟩
   refine ⟨_,rfl,?_⟩
   replace σ:=σ.j4 (k:=0) rfl wk
   have abR:=dG (a:=((2:Int),tr,tr,(0:Int),(0:Int)))
   have I5:(es++[((2:Int),tr,tr,(0:Int),(0:Int))]).length=n55:=Am
   rw [aP,hl] at I5
   exact Bu Tryz.results175<|by rw [show tY tr cn=[(2,tr,tr,0,0)] by unfold tY; rw [aQ ae,aR ae]]; exact ⟨_,_,_,rfl,σ,Am⟩
  ·refine iF rfl rfl<|eE rfl<|cS Tryz.call204 (nu (σ.bO (k:=0) rfl []) hl ae) rfl ?_
   rintro _ _ ⟨A58,c59,n60,rfl,wm,Ws⟩
   refine ⟨_,rfl,?_⟩
   replace σ:=σ.j4 (k:=0) rfl wm
   have alQ:=dG (a:=((6:Int),tr,tr,(0:Int),cn))
   have abS:(es++[((6:Int),tr,tr,(0:Int),cn)]).length=n60:=Ws
   rw [aP,hl] at abS
   exact Bu Tryz.results175<|by rw [show tY tr cn=[(6,tr,tr,0,cn)] by unfold tY; rw [aQ ae,aQ ae]]; exact ⟨_,_,_,rfl,σ,Ws⟩
theorem Gy {w0 w1:World} {tr ra cn:Int} {q:Nat} {g n nI c m d:Nat} {A B:Option Addr} {es:List IE} (hS:St w0 w1 [pX g n A nI c B m d es] [bP w1 (pX g n A nI c B m d es)]) (hl:es.length=nI) (hn:nI+q<=99000) (hcn:-512<=cn/\cn<=512):
  Calls Tryz.prog 206 #[bB g,aq tr,aq ra,aq cn,ak q] w1 fun e w'=>∃A' c' n',e=.returned (.tuple #[])/\St w0 w' [pX g n A' n' c' B m d (es++tZ tr ra cn q)] [bP w1 (pX g n A nI c B m d es)]/\(es++tZ tr ra cn q).length=n':=by
 refine dp Tryz.func206 rfl Tryz.ntmps206 rfl fun σ=>?_
 replace σ:=hS
 refine cZ rfl<|wQ (fun iz=>?_) fun iz=>?_
 ·refine pd rfl<|wD (fun jG=>?_) fun jG=>?_
  ·refine iT rfl rfl<|cZ rfl<|kB (b':=false) (by rw [iz]; rfl)<|iF rfl rfl<|eE rfl<|cS Tryz.call177 (dZ (σ.bO (k:=0) rfl []) hl ae) rfl ?_
   rintro _ _ ⟨oK,nv,n55,rfl,wk,Am⟩
   refine ⟨_,rfl,?_⟩
   replace σ:=σ.j4 (k:=0) rfl wk
   have abR:=ef tr ra cn
   have I5:(es++gy tr ra cn).length=n55:=Am
   rw [aP,hl] at I5
   exact o0 Tryz.results206<|by rw [abO ae ae]; exact ⟨_,_,_,rfl,σ,Am⟩
  ·refine cZ rfl<|kB (b':=false) (by rw [iz]; rfl)<|cZ rfl<|kB (b':=false) (by rw [iz]; rfl)<|iF rfl rfl<|fX (fun mz l w=>∃j:Nat,∃fr:Int,∃k:Int,∃A1:Option Addr,∃c1:Nat,∃n1:Nat,∃es1:List IE,q - j=mz/\l=[(10,aq fr),(11,aq k),(40,ak j),(0,bB g),(1,aq tr),(3,aq cn),(39,ak q)]/\St w0 w [pX g n A1 n1 c1 B m d es1] [bP w1 (pX g n A nI c B m d es)]/\j<=q/\es1++zP tr cn fr k (q - j)=es++zP tr cn ra 1 q/\es1.length=n1/\n1+(q - j)<=100000/\(-512<=k/\k<=512)) ⟨0,ra,1,A,c,nI,es,rfl,rfl,σ,(bm _),rfl,hl,ae,ai⟩ ay ?_
   rintro _ _ _ ⟨j,fr,k,A1,c1,n1,es1,rfl,rfl,σ,hj,hi,iQ,hb,hk⟩
   have hkc:=Ry hk hcn
   refine ei rfl<|wD (fun rB=>?_) fun rB=>?_
   ·refine iT rfl rfl<|xC rfl ae<|pd rfl<|wD (fun u6=>?_) fun u6=>?_
    ·refine iT rfl rfl<|eE rfl<|cS Tryz.call177 (dZ (σ.bO (k:=0) rfl []) iQ ae) rfl ?_
     rintro _ _ ⟨As,uc,n62,rfl,TT,tQ⟩
     refine ⟨_,rfl,?_⟩
     replace σ:=σ.j4 (k:=0) rfl TT
     have J1:=ef tr fr k
     have J0:(es1++gy tr fr k).length=n62:=tQ
     rw [aP,iQ] at J0
     exact xC rfl ae<|can (j:=1) rfl ae<|dF ⟨j+1,tr,(1*cn),As,uc,n62,(es1++gy tr fr k),rfl,rfl,σ,ae,(by have h9:=hi; rw [show q - j=(q - (j+1))+1 by omega,zP,aR ae] at h9; rw [<- h9,p',cG]),tQ,ae,ae⟩ ay ae
    ·refine xC rfl ae<|ei rfl<|wD (fun Gz=>?_) fun Gz=>?_
     ·refine iT rfl rfl<|eE rfl<|cS Tryz.call177 (dZ (σ.bO (k:=0) rfl []) iQ ae) rfl ?_
      rintro _ _ ⟨Wt,RE,n68,rfl,I6,AA⟩
      refine ⟨_,rfl,?_⟩
      replace σ:=σ.j4 (k:=0) rfl I6
      have abT:=ef tr fr k
      have I7:(es1++gy tr fr k).length=n68:=AA
      rw [aP,iQ] at I7
      exact xC rfl ae<|can (j:=1) rfl ae<|dF ⟨j+1,tr,(1*cn),Wt,RE,n68,(es1++gy tr fr k),rfl,rfl,σ,ae,(by have h9:=hi; rw [show q - j=(q - (j+1))+1 by omega,zP,aR ae] at h9; rw [<- h9,p',cG]),AA,ae,ae⟩ ay ae
     ·exact iF rfl rfl<|xC rfl ae<|can (j:=1) rfl ae<|dF ⟨j+1,fr,(k*cn),A1,c1,n1,es1,rfl,rfl,σ,ae,(by have h9:=hi; rw [show q - j=(q - (j+1))+1 by omega,zP,aQ ae] at h9; exact h9),iQ,ae,ae⟩ ay ae
   ·have h8:=hi
    rw [show q - j=0 by omega] at h8
    refine iF rfl rfl<|eE rfl<|cS Tryz.call177 (dZ (σ.bO (k:=0) rfl []) iQ ae) rfl ?_
    rintro _ _ ⟨A71,c72,n73,rfl,abU,agC⟩
    refine ⟨_,rfl,?_⟩
    replace σ:=σ.j4 (k:=0) rfl abU
    have alR:=ef tr fr k
    have abV:(es1++gy tr fr k).length=n73:=agC
    rw [aP,iQ] at abV
    exact Bu Tryz.results206<|by rw [show tZ tr ra cn q=zP tr cn ra 1 q by unfold tZ; rw [aQ ae],<- h8]; exact ⟨_,_,_,rfl,σ,agC⟩
 ·refine cZ rfl<|wQ (fun h76=>?_) fun h76=>?_
  ·refine iT rfl rfl<|cZ rfl<|kB (b':=false) (by rw [h76]; rfl)<|iF rfl rfl<|eE rfl<|cS Tryz.call177 (dZ (σ.bO (k:=0) rfl []) hl ae) rfl ?_
   rintro _ _ ⟨A77,c78,n79,rfl,abX,I8⟩
   refine ⟨_,rfl,?_⟩
   replace σ:=σ.j4 (k:=0) rfl abX
   have abY:=ef tr ra cn
   have I9:(es++gy tr ra cn).length=n79:=I8
   rw [aP,hl] at I9
   exact o0 Tryz.results206<|by rw [abO ae ae]; exact ⟨_,_,_,rfl,σ,I8⟩
  ·refine cZ rfl<|wQ (fun Wu=>?_) fun Wu=>?_
   ·refine iT rfl rfl<|cZ rfl<|kB (b':=true) (uh.2 Wu)<|vE rfl (fun η=>tu η rfl rfl ai (Ff q 2))<|cZ rfl<|wQ (fun h83=>?_) fun h83=>?_
    ·refine iT rfl rfl<|eE rfl<|cS Tryz.call177 (dZ (σ.bO (k:=0) rfl []) hl ae) rfl ?_
     rintro _ _ ⟨A84,c85,n86,rfl,abZ,Nv⟩
     refine ⟨_,rfl,?_⟩
     replace σ:=σ.j4 (k:=0) rfl abZ
     have ab0:=ef tr ra (1:Int)
     have I':(es++gy tr ra (1:Int)).length=n86:=Nv
     rw [aP,hl] at I'
     exact o0 Tryz.results206<|by rw [alO ae ae]; exact ⟨_,_,_,rfl,σ,Nv⟩
    ·refine iF rfl rfl<|eE rfl<|cS Tryz.call177 (dZ (σ.bO (k:=0) rfl []) hl ae) rfl ?_
     rintro _ _ ⟨A89,Wv,Nw,rfl,Ja,wq⟩
     refine ⟨_,rfl,?_⟩
     replace σ:=σ.j4 (k:=0) rfl Ja
     have Jb:=ef tr ra cn
     have tR:(es++gy tr ra cn).length=Nw:=wq
     rw [aP,hl] at tR
     exact o0 Tryz.results206<|by rw [abO ae ae]; exact ⟨_,_,_,rfl,σ,wq⟩
   ·refine iF rfl rfl<|fX (fun mz l w=>∃j:Nat,∃fr:Int,∃k:Int,∃A1:Option Addr,∃c1:Nat,∃n1:Nat,∃es1:List IE,q - j=mz/\l=[(10,aq fr),(11,aq k),(40,ak j),(0,bB g),(1,aq tr),(3,aq cn),(39,ak q)]/\St w0 w [pX g n A1 n1 c1 B m d es1] [bP w1 (pX g n A nI c B m d es)]/\j<=q/\es1++zP tr cn fr k (q - j)=es++zP tr cn ra 1 q/\es1.length=n1/\n1+(q - j)<=100000/\(-512<=k/\k<=512)) ⟨0,ra,1,A,c,nI,es,rfl,rfl,σ,(bm _),rfl,hl,ae,ai⟩ ay ?_
    rintro _ _ _ ⟨j,fr,k,A1,c1,n1,es1,rfl,rfl,σ,hj,hi,iQ,hb,hk⟩
    have hkc:=Ry hk hcn
    refine ei rfl<|wD (fun h94=>?_) fun h94=>?_
    ·refine iT rfl rfl<|xC rfl ae<|pd rfl<|wD (fun h95=>?_) fun h95=>?_
     ·refine iT rfl rfl<|eE rfl<|cS Tryz.call177 (dZ (σ.bO (k:=0) rfl []) iQ ae) rfl ?_
      rintro _ _ ⟨A96,c97,n98,rfl,agE,agF⟩
      refine ⟨_,rfl,?_⟩
      replace σ:=σ.j4 (k:=0) rfl agE
      have alV:=ef tr fr k
      have ab2:(es1++gy tr fr k).length=n98:=agF
      rw [aP,iQ] at ab2
      exact xC rfl ae<|can (j:=1) rfl ae<|dF ⟨j+1,tr,(1*cn),A96,c97,n98,(es1++gy tr fr k),rfl,rfl,σ,ae,(by have h9:=hi; rw [show q - j=(q - (j+1))+1 by omega,zP,aR ae] at h9; rw [<- h9,p',cG]),agF,ae,ae⟩ ay ae
     ·refine xC rfl ae<|ei rfl<|wD (fun alW=>?_) fun alW=>?_
      ·refine iT rfl rfl<|eE rfl<|cS Tryz.call177 (dZ (σ.bO (k:=0) rfl []) iQ ae) rfl ?_
       rintro _ _ ⟨agy,Nu,n104,rfl,Gv,Cw⟩
       refine ⟨_,rfl,?_⟩
       replace σ:=σ.j4 (k:=0) rfl Gv
       have Wp:=ef tr fr k
       have DW:(es1++gy tr fr k).length=n104:=Cw
       rw [aP,iQ] at DW
       exact xC rfl ae<|can (j:=1) rfl ae<|dF ⟨j+1,tr,(1*cn),agy,Nu,n104,(es1++gy tr fr k),rfl,rfl,σ,ae,(by have h9:=hi; rw [show q - j=(q - (j+1))+1 by omega,zP,aR ae] at h9; rw [<- h9,p',cG]),Cw,ae,ae⟩ ay ae
      ·exact iF rfl rfl<|xC rfl ae<|can (j:=1) rfl ae<|dF ⟨j+1,fr,(k*cn),A1,c1,n1,es1,rfl,rfl,σ,ae,(by have h9:=hi; rw [show q - j=(q - (j+1))+1 by omega,zP,aQ ae] at h9; exact h9),iQ,ae,ae⟩ ay ae
    ·have h8:=hi
     rw [show q - j=0 by omega] at h8
     refine iF rfl rfl<|eE rfl<|cS Tryz.call177 (dZ (σ.bO (k:=0) rfl []) iQ ae) rfl ?_
     rintro _ _ ⟨agz,Wq,n109,rfl,LD,Cy⟩
     refine ⟨_,rfl,?_⟩
     replace σ:=σ.j4 (k:=0) rfl LD
     have ajG:=ef tr fr k
     have DX:(es1++gy tr fr k).length=n109:=Cy
     rw [aP,iQ] at DX
     exact Bu Tryz.results206<|by rw [show tZ tr ra cn q=zP tr cn ra 1 q by unfold tZ; rw [aQ ae],<- h8]; exact ⟨_,_,_,rfl,σ,Cy⟩
theorem jC {w0:World} {g n nI c m d j:Nat} {A B:Option Addr} (hg:(bk g #[ak n,.slice A nI c,.slice B m d] 264).P w0) (hb:n+j<=100000):
  Calls Tryz.prog 178 #[bB g,ak j] w0 fun e w'=>e=.returned (aq (pl n j))/\Below w0.heap.size w0 w':=by
 refine dp Tryz.func178 rfl Tryz.ntmps178 rfl fun σ=>?_
 replace σ:=σ.iq _ hg
 exact cE rfl (fun η=>aS η aD rfl (kg σ.aU) rfl)<|can rfl ae<|o1 Tryz.results178 rfl<|⟨rfl,σ.below⟩
theorem kR {w0:World} {g n nI c m d j:Nat} {A B:Option Addr} (hg:(bk g #[ak n,.slice A nI c,.slice B m d] 264).P w0) (hb:n+j<=100000):
  Calls Tryz.prog 209 #[bB g,ak j] w0 fun e w'=>e=.returned (aq (fm n j))/\Below w0.heap.size w0 w':=by
 refine dp Tryz.func209 rfl Tryz.ntmps209 rfl fun σ=>?_
 replace σ:=σ.iq _ hg
 exact cE rfl (fun η=>aS η aD rfl (kg σ.aU) rfl)<|Nl (i:=2) rfl ae<|can rfl ae<|o1 Tryz.results209 rfl<|⟨rfl,σ.below⟩
theorem lG {w0:World} {g n nI c m d:Nat} {A B:Option Addr} (hg:(bk g #[ak n,.slice A nI c,.slice B m d] 264).P w0) (hb:n<=100000):
  Calls Tryz.prog 207 #[bB g] w0 fun e w'=>e=.returned (aq (pz n))/\Below w0.heap.size w0 w':=by
 refine dp Tryz.func207 rfl Tryz.ntmps207 rfl fun σ=>?_
 replace σ:=σ.iq _ hg
 exact cE rfl (fun η=>aS η aD rfl (kg σ.aU) rfl)<|Nl (i:=3) rfl ae<|o1 Tryz.results207 rfl<|⟨rfl,σ.below⟩
theorem wu {n i:Nat} {p q:Pt} {k:Int} {e:Nat} {ws:List Pt} (h:ws[i]?=some q):Cn n p k e i (ws.drop i)=Oq n p q k (i:Nat) e++Cn n p k e (i+1) (ws.drop (i+1)):=by
 obtain ⟨hi,rfl⟩:=bU.1 h
 rw [gW hi]
 rfl
theorem D2 {n:Nat} {p q:Pt} {k i:Int} {e:Nat} (h:(bz p).2.1*q.1+(bz p).2.2*q.2≠0∨e=0):Oq n p q k i e=(tZ (pz n) k ((bz p).2.1*q.1+(bz p).2.2*q.2) e++[(4,i,i,pz n,0)])++tY i (p.1*q.2 - q.1*p.2):=by unfold Oq; rw [aR h]
theorem Y7 {n:Nat} {p q:Pt} {k i:Int} {e:Nat} (h:¬((bz p).2.1*q.1+(bz p).2.2*q.2≠0∨e=0)):Oq n p q k i e=tY i (p.1*q.2 - q.1*p.2):=by unfold Oq; rw [aQ h,iU]
theorem ab3 {t c:Int} (h:c=1):tY t c=[]:=by unfold tY; rw [aR h]
theorem RG {p:Pt} (h:K8 p):¬(p.1=0/\p.2=0):=fun q=>by have:=h.one; rw [q.1,q.2] at this; omega
theorem RH {th:List Bool} {j:Nat} (h:j<th.length):th[j]?=some (gb th j):=by
 unfold gb
 rw [aF,aw h]
 rfl
def rsM (n:Nat) (u v:Int):Nat->List Bool->List IE×List Bool
 | 0,th=>([],th)
 | j+1,th=>x7 n u v j th
theorem lP (n:Nat) (u v:Int) (j:Nat) (th:List Bool):rsM n u v (j+1) th=(F5 n u v j th++(rsM n u v j (sa u v j th)).1,(rsM n u v j (sa u v j th)).2):=by
 cases j with
 | zero=>simp [rsM,x7]
 | succ j=>rfl
theorem agG {n j:Nat} {u v:Int} {th:List Bool} (h1:i' u j th=true) (h2:kp v j th=true):F5 n u v j th=gy (pz n) (fm n (j - 1)) u++(gy (fm n j) (fm n j) v++[(3,fm n j,fm n j,pz n,0)]):=by unfold F5; rw [h1,h2]; rfl
theorem agH {n j:Nat} {u v:Int} {th:List Bool} (h1:i' u j th=true) (h2:kp v j th=false):F5 n u v j th=gy (pz n) (fm n (j - 1)) u++gy (fm n j) (pz n) 1:=by unfold F5; rw [h1,h2]; rfl
theorem agI {n j:Nat} {u v:Int} {th:List Bool} (h1:i' u j th=false) (h2:kp v j th=true):F5 n u v j th=gy (fm n j) (fm n j) v:=by unfold F5; rw [h1,h2]; rfl
theorem agJ {n j:Nat} {u v:Int} {th:List Bool} (h1:i' u j th=false) (h2:kp v j th=false):F5 n u v j th=[]:=by unfold F5; rw [h1,h2]; rfl
theorem St.alX {w0 w w1:World} {own ps:List PF} {x p q:PF} {i a b r:Nat} (h:St w0 w own ps) (hi:own[i]?=some x) (ha:own[a]?=some p) (hb:own[b]?=some q) (hia:i≠a) (hib:i≠b) (hr:ps[r]?=some (bP w1 (star [p,q]))):∀c,x.di c->w1.heap.size<=c:=fun c hx=>by
 rcases dr c w1.heap.size with hc | hc
 ·refine absurd ⟨hc,fun ⟨e,he,hf⟩=>?_⟩ (h.apart _ (aB hr) x (aB hi) c hx)
  rcases dW.1 he with rfl | he
  ·exact h.one hi ha hia c hx hf
  ·rw [cC.1 he] at hf
   exact h.one hi hb hib c hx hf
 ·exact hc
theorem St.alY {w0 w w':World} {own ps:List PF} {k:Nat} {o o' x:PF} (h:St w0 w own ps) (hk:own[k]?=some o) (h':St w0 w' [o',x] [bP w o]) (hx:∀b,x.di b->w.heap.size<=b):St w0 w' (x::own.set k o') ps:=by
 have h1:=h.j4 hk (h'.pick [0] [0] ai)
 refine ⟨h1.below,fun e he=>?_,fun e he b hb=>?_,qe.2 ⟨fun f hf b ou gx=>?_,h1.nd⟩,h1.pers,fun p hp e he b ou gx=>?_⟩
 ·rcases dW.1 he with rfl | he
  ·exact h'.owns (k:=1) rfl
  ·exact h1.mine e he
 ·rcases dW.1 he with rfl | he
  ·exact h'.new _ (aB (i:=1) rfl) b hb
  ·exact h1.new e he b hb
 ·obtain ⟨j,hj⟩:=lV hf
  rw [td] at hj
  split at hj
  ·split at hj
   ·cases hj
    exact h'.one (k:=1) (j:=0) rfl rfl ai b ou gx
   ·cases hj
  ·have:=f.lt (h.owns hj) gx
   have:=hx b ou
   omega
 ·rcases dW.1 he with rfl | he
  ·have:=p.lt (h.pers p hp) gx
   have:=hx b ou
   omega
  ·exact h1.apart p hp e he b ou gx
theorem Cz {u:Int} {j:Nat} {th:List Bool} (h:i' u j th=true):0<j:=by
 unfold i' at h
 simp only [fB] at h
 exact bX h.1.1
def bkM (n:Nat) (A B:Int) (e:Nat):Nat->List IE
 | 0=>[]
 | j+1=>QH n A B e j
theorem AB (n:Nat) (A B:Int) (e j:Nat):bkM n A B e (j+1)=IJ n A B e j++bkM n A B e j:=by
 cases j with
 | zero=>simp [bkM,QH]
 | succ j=>rfl
theorem alZ {n e j:Nat} {A B:Int} (h:j=e):IJ n A B e j=gy (pl n j) (pl n (j - 1)) (-B):=by subst h; unfold IJ; rw [aR rfl]
theorem al0 {n e j:Nat} {A B:Int} (h:j≠e) (h0:0<j):IJ n A B e j=gy (pz n) (pl n (j - 1)) B++(gy (pl n j) (pl n j) A++[(4,pl n j,pl n j,pz n,0)]):=by unfold IJ; rw [aQ h,aR h0,aR h0,cG]
theorem al1 {n e j:Nat} {A B:Int} (h:j≠e) (h0:¬0<j):IJ n A B e j=gy (pl n j) (pl n j) A:=by unfold IJ; rw [aQ h,aQ h0,aQ h0,iU,fv]
theorem LG {n j:Nat} {th:List Bool} (h:j<th.length):xz n j (th.drop j)=(if gb th j then [(3,pl n j,pl n j,fm n j,0)] else [])++xz n (j+1) (th.drop (j+1)):=by
 rw [gW h,xz]
 congr 2
 unfold gb
 rw [aF,aw h]
 rfl
theorem RI {n:Nat} {p:Pt} {k:Int} {e:Nat} (he:e<=14):(zQ n p k e).1.length<=1+45*e:=by
 unfold zQ
 dsimp only
 rw [aP]
 have h1:=ef (fm n 0) k 1
 have h2:=zS n (bz p).2.1 (bz p).2.2 e 1 (Uc e)
 have h3:3*(1+e)*e<=45*e:=eh _ ae
 omega
theorem Ww {w0 w1:World} {pa pb:Int} {k q i0 n2 c2:Nat} {A2:Option Addr} {ls:List Int} {ws:List Pt} {g n nI c m d:Nat} {A B:Option Addr} {es:List IE} (hS:St w0 w1 [pX g n A nI c B m d es] [bP w1 (pX g n A nI c B m d es),u3 B m d ws,bE A2 n2 c2 ls]) (hl:es.length=nI) (hn:nI+(q+4)*n2<=99000) (rO:ws.length=m) (hwn:m=n) (Uo:∀p∈ws,K8 p) (hls:∀x,x<n2->ls[x]?=some ((i0+x:Nat):Int)) (hi0:i0+n2=n) (ab4:n<=15) (H4:ws[k]?=some (pa,pb)):
  Calls Tryz.prog 176 #[bB g,ak k,.slice A2 n2 c2,ak q] w1 fun e w'=>∃A' c' n',e=.returned (.tuple #[])/\St w0 w' [pX g n A' n' c' B m d (es++Cn n (pa,pb) ((k:Nat):Int) q i0 (ws.drop i0))] [bP w1 (pX g n A nI c B m d es)]/\(es++Cn n (pa,pb) ((k:Nat):Int) q i0 (ws.drop i0)).length=n':=by
 refine dp Tryz.func176 rfl Tryz.ntmps176 rfl fun σ=>?_
 replace σ:=hS
 have hkn:k<m:=by have:=(bU.1 H4).1; omega
 have Hx:=Uo _ (aB H4)
 replace σ:=σ.unpack
 refine We rfl<|lE 0 σ rfl<|vE rfl (fun η=>az (i:=k) η Tryz.underlying22 (aC.size) rfl rfl ae rfl σ.bC.1)<|cE rfl (fun η=>bF (v:=#[aq pa,aq pb]) (i:=k) (e:=(pa,pb)) η aC rfl rfl ft σ.bC.1 ae H4 rfl)<|eE rfl<|eL bp σ rfl fun _ bJ σ=>eE rfl<|cX 0 σ rfl fun _ σ=>gE 0 σ rfl<|eE rfl<|dx Tryz.call174 (wb Hx.qH (RG Hx)) σ rfl fun _ σ=>fX (fun mz l w=>∃j:Nat,∃A1:Option Addr,∃c1:Nat,∃n1:Nat,∃es1:List IE,n2 - j=mz/\l=[(35,ak j),(0,bB g),(1,ak k),(3,ak q),(8,bB bJ),(10,aq ((bz (pa,pb)).2.1)),(11,aq ((bz (pa,pb)).2.2)),(33,.slice A2 n2 c2),(34,ak n2)]/\St w0 w [bk g #[ak n,.slice A1 n1 c1,.slice B m d] 264,aad A1 n1 c1 es1,bk bJ #[aq pa,aq pb] 61] [bP w1 (pX g n A nI c B m d es),u3 B m d ws,bE A2 n2 c2 ls]/\j<=n2/\es1++Cn n (pa,pb) ((k:Nat):Int) q (i0+j) (ws.drop (i0+j))=es++Cn n (pa,pb) ((k:Nat):Int) q i0 (ws.drop i0)/\es1.length=n1/\n1+(q+4)*(n2 - j)<=99000) ⟨0,A,c,nI,es,rfl,rfl,σ.pick [1,2,0] [0,1,2] ai,(bm _),rfl,hl,hn⟩ ay ?_
 rintro _ _ _ ⟨j,A1,c1,n1,es1,rfl,rfl,σ,hj,hi,iQ,hb⟩
 refine ei rfl<|wD (fun jG=>?_) fun jG=>?_
 ·have cD:j<n2:=ae
  have b5:=hls j cD
  obtain ⟨⟨qa,qb⟩,iH⟩:∃e,ws[(i0+j)]?=some e:=⟨_,aw ae⟩
  have hwq:=Uo _ (aB iH)
  obtain ⟨⟨y1,y2⟩,y3,y4⟩:=hwq.qH
  dsimp only at y1 y2 y3 y4
  have wM:=pQ Hx.u ⟨y1,y2⟩
  have Ov:=pQ Hx.v ⟨y3,y4⟩
  have atK:(q+4)*(n2 - j)=(q+4)*(n2 - (j+1))+(q+4):=by rw [show n2 - j=(n2 - (j+1))+1 by omega,sL]
  refine iT rfl rfl<|vE rfl (fun η=>az (i:=j) η Tryz.underlying26 (aD.size) rfl rfl ae rfl σ.cF.1)<|cE rfl (fun η=>aJ (i:=j) (j:=0) (e:=((i0+j:Nat):Int)) η aD rfl rfl bn ai σ.cF.1 ae b5 rfl)<|lE 0 σ rfl<|vE rfl (fun η=>az (i:=i0+j) η Tryz.underlying22 (aC.size) rfl rfl ae rfl σ.bC.1)<|cE rfl (fun η=>bF (v:=#[aq qa,aq qb]) (i:=i0+j) (e:=(qa,qb)) η aC rfl rfl ft σ.bC.1 ae iH rfl)<|eE rfl<|eL bp σ rfl fun _ fo σ=>eE rfl<|cX 0 σ rfl fun _ σ=>gE 3 σ rfl<|gE 0 σ rfl<|eE rfl<|dx Tryz.call205 (abp Hx.qH hwq.qH) σ rfl fun _ σ=>lE 0 σ rfl<|xC rfl ae<|lE 0 σ rfl<|xC rfl ae<|Rf rfl ae<|ir rfl<|wN (fun pV=>?_) fun pV=>?_
  ·refine iT rfl rfl<|eE rfl<|dx Tryz.call207 (lG σ.fK ae) σ rfl fun _ σ=>?_
   replace σ:=(σ.pick [1,2,0,3] [0,1,2] ai).pack 2
   refine eE rfl<|cS Tryz.call206 (Gy (σ.bO (k:=0) rfl []) iQ ae ae) rfl ?_
   rintro _ _ ⟨A55,c56,n57,rfl,Jc,Bv⟩
   refine ⟨_,rfl,?_⟩
   replace σ:=σ.j4 (k:=0) rfl Jc
   have ab5:=Gw (pz n) ((k:Nat):Int) ((((bz (pa,pb)).2.1)*qa)+(((bz (pa,pb)).2.2)*qb)) q
   have ab6:(es1++tZ (pz n) ((k:Nat):Int) ((((bz (pa,pb)).2.1)*qa)+(((bz (pa,pb)).2.2)*qb)) q).length=n57:=Bv
   rw [aP,iQ] at ab6
   replace σ:=σ.unpack
   refine eE rfl<|dx Tryz.call207 (lG σ.dm ae) σ rfl fun _ σ=>?_
   replace σ:=σ.pack 2
   refine eE rfl<|cS Tryz.call204 (nu (σ.bO (k:=0) rfl []) Bv ae) rfl ?_
   rintro _ _ ⟨As,uc,n62,rfl,TT,tQ⟩
   refine ⟨_,rfl,?_⟩
   replace σ:=σ.j4 (k:=0) rfl TT
   have J1:=dG (a:=((4:Int),((i0+j:Nat):Int),((i0+j:Nat):Int),(pz n),(0:Int)))
   have J0:((es1++tZ (pz n) ((k:Nat):Int) ((((bz (pa,pb)).2.1)*qa)+(((bz (pa,pb)).2.2)*qb)) q)++[((4:Int),((i0+j:Nat):Int),((i0+j:Nat):Int),(pz n),(0:Int))]).length=n62:=tQ
   rw [aP,Bv] at J0
   replace σ:=σ.unpack
   refine cZ rfl<|wQ (fun Gz=>?_) fun Gz=>?_
   ·exact iT rfl rfl<|can (j:=1) rfl ae<|dF ⟨j+1,As,uc,n62,((es1++tZ (pz n) ((k:Nat):Int) ((((bz (pa,pb)).2.1)*qa)+(((bz (pa,pb)).2.2)*qb)) q)++[((4:Int),((i0+j:Nat):Int),((i0+j:Nat):Int),(pz n),(0:Int))]),rfl,rfl,σ.pick [0,1,3] [0,1,2] ai,ae,(by have h9:=hi; rw [wu iH,D2 (.inl pV),ab3 Gz] at h9; simpa only [cG,iU,fv,mc] using h9),tQ,ae⟩ ay ae
   ·refine iF rfl rfl<|?_
    replace σ:=σ.pack 2
    refine eE rfl<|cS Tryz.call175 (yk (σ.bO (k:=0) rfl []) tQ ae) rfl ?_
    rintro _ _ ⟨Wt,RE,n68,rfl,I6,AA⟩
    refine ⟨_,rfl,?_⟩
    replace σ:=σ.j4 (k:=0) rfl I6
    have abT:=yj ((i0+j:Nat):Int) (pa*qb - qa*pb)
    have I7:(((es1++tZ (pz n) ((k:Nat):Int) ((((bz (pa,pb)).2.1)*qa)+(((bz (pa,pb)).2.2)*qb)) q)++[((4:Int),((i0+j:Nat):Int),((i0+j:Nat):Int),(pz n),(0:Int))])++tY ((i0+j:Nat):Int) (pa*qb - qa*pb)).length=n68:=AA
    rw [aP,tQ] at I7
    replace σ:=σ.unpack
    exact can (j:=1) rfl ae<|dF ⟨j+1,Wt,RE,n68,(((es1++tZ (pz n) ((k:Nat):Int) ((((bz (pa,pb)).2.1)*qa)+(((bz (pa,pb)).2.2)*qb)) q)++[((4:Int),((i0+j:Nat):Int),((i0+j:Nat):Int),(pz n),(0:Int))])++tY ((i0+j:Nat):Int) (pa*qb - qa*pb)),rfl,rfl,σ.pick [0,1,3] [0,1,2] ai,ae,(by have h9:=hi; rw [wu iH,D2 (.inl pV)] at h9; simpa only [cG,iU,fv,mc] using h9),AA,ae⟩ ay ae
  ·refine cZ rfl<|wQ (fun h71=>?_) fun h71=>?_
   ·refine iT rfl rfl<|eE rfl<|dx Tryz.call207 (lG σ.fK ae) σ rfl fun _ σ=>?_
    replace σ:=(σ.pick [1,2,0,3] [0,1,2] ai).pack 2
    refine eE rfl<|cS Tryz.call206 (Gy (σ.bO (k:=0) rfl []) iQ ae ae) rfl ?_
    rintro _ _ ⟨A72,c73,n74,rfl,ab7,ab8⟩
    refine ⟨_,rfl,?_⟩
    replace σ:=σ.j4 (k:=0) rfl ab7
    have al4:=Gw (pz n) ((k:Nat):Int) ((((bz (pa,pb)).2.1)*qa)+(((bz (pa,pb)).2.2)*qb)) q
    have ab9:(es1++tZ (pz n) ((k:Nat):Int) ((((bz (pa,pb)).2.1)*qa)+(((bz (pa,pb)).2.2)*qb)) q).length=n74:=ab8
    rw [aP,iQ] at ab9
    replace σ:=σ.unpack
    refine eE rfl<|dx Tryz.call207 (lG σ.dm ae) σ rfl fun _ σ=>?_
    replace σ:=σ.pack 2
    refine eE rfl<|cS Tryz.call204 (nu (σ.bO (k:=0) rfl []) ab8 ae) rfl ?_
    rintro _ _ ⟨A77,c78,n79,rfl,abX,I8⟩
    refine ⟨_,rfl,?_⟩
    replace σ:=σ.j4 (k:=0) rfl abX
    have abY:=dG (a:=((4:Int),((i0+j:Nat):Int),((i0+j:Nat):Int),(pz n),(0:Int)))
    have I9:((es1++tZ (pz n) ((k:Nat):Int) ((((bz (pa,pb)).2.1)*qa)+(((bz (pa,pb)).2.2)*qb)) q)++[((4:Int),((i0+j:Nat):Int),((i0+j:Nat):Int),(pz n),(0:Int))]).length=n79:=I8
    rw [aP,ab8] at I9
    replace σ:=σ.unpack
    refine cZ rfl<|wQ (fun Wu=>?_) fun Wu=>?_
    ·exact iT rfl rfl<|can (j:=1) rfl ae<|dF ⟨j+1,A77,c78,n79,((es1++tZ (pz n) ((k:Nat):Int) ((((bz (pa,pb)).2.1)*qa)+(((bz (pa,pb)).2.2)*qb)) q)++[((4:Int),((i0+j:Nat):Int),((i0+j:Nat):Int),(pz n),(0:Int))]),rfl,rfl,σ.pick [0,1,3] [0,1,2] ai,ae,(by have h9:=hi; rw [wu iH,D2 (.inr ae),ab3 Wu] at h9; simpa only [cG,iU,fv,mc] using h9),I8,ae⟩ ay ae
    ·refine iF rfl rfl<|?_
     replace σ:=σ.pack 2
     refine eE rfl<|cS Tryz.call175 (yk (σ.bO (k:=0) rfl []) I8 ae) rfl ?_
     rintro _ _ ⟨A83,c84,n85,rfl,ab',agL⟩
     refine ⟨_,rfl,?_⟩
     replace σ:=σ.j4 (k:=0) rfl ab'
     have al5:=yj ((i0+j:Nat):Int) (pa*qb - qa*pb)
     have aca:(((es1++tZ (pz n) ((k:Nat):Int) ((((bz (pa,pb)).2.1)*qa)+(((bz (pa,pb)).2.2)*qb)) q)++[((4:Int),((i0+j:Nat):Int),((i0+j:Nat):Int),(pz n),(0:Int))])++tY ((i0+j:Nat):Int) (pa*qb - qa*pb)).length=n85:=agL
     rw [aP,I8] at aca
     replace σ:=σ.unpack
     exact can (j:=1) rfl ae<|dF ⟨j+1,A83,c84,n85,(((es1++tZ (pz n) ((k:Nat):Int) ((((bz (pa,pb)).2.1)*qa)+(((bz (pa,pb)).2.2)*qb)) q)++[((4:Int),((i0+j:Nat):Int),((i0+j:Nat):Int),(pz n),(0:Int))])++tY ((i0+j:Nat):Int) (pa*qb - qa*pb)),rfl,rfl,σ.pick [0,1,3] [0,1,2] ai,ae,(by have h9:=hi; rw [wu iH,D2 (.inr ae)] at h9; simpa only [cG,iU,fv,mc] using h9),agL,ae⟩ ay ae
   ·refine iF rfl rfl<|cZ rfl<|wQ (fun h88=>?_) fun h88=>?_
    ·exact iT rfl rfl<|can (j:=1) rfl ae<|dF ⟨j+1,A1,c1,n1,es1,rfl,rfl,σ.pick [1,2,3] [0,1,2] ai,ae,(by have h9:=hi; rw [wu iH,Y7 (fun q9=>q9.elim (fun x=>x pV) fun x=>ae),ab3 h88] at h9; simpa only [cG,iU,fv,mc] using h9),iQ,ae⟩ ay ae
    ·refine iF rfl rfl<|?_
     replace σ:=(σ.pick [1,2,0,3] [0,1,2] ai).pack 2
     refine eE rfl<|cS Tryz.call175 (yk (σ.bO (k:=0) rfl []) iQ ae) rfl ?_
     rintro _ _ ⟨A89,Wv,Nw,rfl,Ja,wq⟩
     refine ⟨_,rfl,?_⟩
     replace σ:=σ.j4 (k:=0) rfl Ja
     have Jb:=yj ((i0+j:Nat):Int) (pa*qb - qa*pb)
     have tR:(es1++tY ((i0+j:Nat):Int) (pa*qb - qa*pb)).length=Nw:=wq
     rw [aP,iQ] at tR
     replace σ:=σ.unpack
     exact can (j:=1) rfl ae<|dF ⟨j+1,A89,Wv,Nw,(es1++tY ((i0+j:Nat):Int) (pa*qb - qa*pb)),rfl,rfl,σ.pick [0,1,3] [0,1,2] ai,ae,(by have h9:=hi; rw [wu iH,Y7 (fun q9=>q9.elim (fun x=>x pV) fun x=>ae)] at h9; simpa only [cG,iU,fv,mc] using h9),wq,ae⟩ ay ae
 ·obtain rfl:j=n2:=ae
  refine iF rfl rfl<|Bu Tryz.results176<|?_
  have h9:=hi
  rw [dM ae] at h9
  exact by rw [<- h9,show Cn n (pa,pb) ((k:Nat):Int) q (i0+j) []=[] from rfl,fv]; exact ⟨_,_,_,rfl,(σ.pick [0,1] [0] ai).pack 2,iQ⟩
theorem Nx {w0 w1:World} {pa pb:Int} {k q:Nat} {ws:List Pt} {g n nI c m d:Nat} {A B:Option Addr} {es:List IE} (hS:St w0 w1 [pX g n A nI c B m d es] [bP w1 (pX g n A nI c B m d es),u3 B m d ws]) (hl:es.length=nI) (hn:nI+45*q+46<=99000) (rO:ws.length=m) (hwn:m=n) (Uo:∀p∈ws,K8 p) (acb:q<=14) (ab4:n<=15) (H4:ws[k]?=some (pa,pb)):
  Calls Tryz.prog 208 #[bB g,ak k,ak q] w1 fun e w'=>∃A' c' n' gD,e=.returned (.slice (bh gD) (q+1) (q+1))/\St w0 w' [pX g n A' n' c' B m d (es++(zQ n (pa,pb) ((k:Nat):Int) q).1),av ar 4 1 (bh gD) (q+1) (q+1) (fl fO (zQ n (pa,pb) ((k:Nat):Int) q).2)] [bP w1 (pX g n A nI c B m d es)]/\(es++(zQ n (pa,pb) ((k:Nat):Int) q).1).length=n'/\w1.heap.size<=gD:=by
 refine dp Tryz.func208 rfl Tryz.ntmps208 rfl fun σ=>?_
 replace σ:=hS
 have hkn:k<m:=by have:=(bU.1 H4).1; omega
 have Hx:=Uo _ (aB H4)
 replace σ:=σ.unpack
 refine lE 0 σ rfl<|vE rfl (fun η=>az (i:=k) η Tryz.underlying22 (aC.size) rfl rfl ae rfl σ.bC.1)<|cE rfl (fun η=>bF (v:=#[aq pa,aq pb]) (i:=k) (e:=(pa,pb)) η aC rfl rfl ft σ.bC.1 ae H4 rfl)<|eE rfl<|dx Tryz.call174 (wb Hx.qH (RG Hx)) σ rfl fun _ σ=>can (j:=1) rfl ae<|eE rfl<|yg fO false ar σ ni rfl ae (by unfold maxLen; omega) fun _ bJ σ=>?_
 have hgD:=σ.alX (i:=0) (a:=1) (b:=2) (r:=0) rfl rfl rfl ai ai rfl bJ rfl
 refine vE rfl (fun η=>az (i:=0) η Tryz.underlying219 (bQ.size) rfl rfl ae rfl (ax σ.dm))<|eE rfl<|qI 0 0 (e1:=true) fi σ rfl rfl ae cT fun _ σ=>eE rfl<|dx Tryz.call209 (kR (j:=0) σ.fK ae) σ rfl fun _ σ=>?_
 replace σ:=(σ.pick [1,2,0] [0,1] ai).pack 2
 refine eE rfl<|cS Tryz.call177 (dZ (σ.bO (k:=0) rfl []) hl ae) rfl ?_
 rintro _ _ ⟨z8,wh,n54,rfl,tO,xE⟩
 refine ⟨_,rfl,?_⟩
 replace σ:=σ.j4 (k:=0) rfl tO
 have Rt:=ef (fm n 0) ((k:Nat):Int) (1:Int)
 have z':(es++gy (fm n 0) ((k:Nat):Int) (1:Int)).length=n54:=xE
 rw [aP,hl] at z'
 replace σ:=σ.unpack
 refine fX (fun mz l w=>∃dd:Nat,∃mm:Nat,∃Ow:List Bool,∃A1:Option Addr,∃c1:Nat,∃n1:Nat,∃es1:List IE,mm=mz/\l=[(12,ak dd),(0,bB g),(2,ak q),(8,aq ((bz (pa,pb)).2.1)),(9,aq ((bz (pa,pb)).2.2)),(11,.slice (bh bJ) (q+1) (q+1))]/\St w0 w [bk g #[ak n,.slice A1 n1 c1,.slice B m d] 264,aad A1 n1 c1 es1,aal (bh bJ) (q+1) (q+1) Ow] [bP w1 (pX g n A nI c B m d es),u3 B m d ws]/\dd+mm=q+1/\es1++(IK n (bz (pa,pb)).2.1 (bz (pa,pb)).2.2 dd mm Ow).1=es++(zQ n (pa,pb) ((k:Nat):Int) q).1/\(IK n (bz (pa,pb)).2.1 (bz (pa,pb)).2.2 dd mm Ow).2=(zQ n (pa,pb) ((k:Nat):Int) q).2/\es1.length=n1/\Ow.length=q+1/\n1+45*mm<=99000) ⟨1,q,((List.replicate (q+1) false).set 0 true),z8,wh,n54,(es++gy (fm n 0) ((k:Nat):Int) (1:Int)),rfl,rfl,σ,ae,(by rw [cG]; rfl),rfl,xE,cT,ae⟩ ay ?_
 rintro _ _ _ ⟨dd,mm,Ow,A1,c1,n1,es1,rfl,rfl,σ,hd,J7,vI,iQ,al6,hb⟩
 refine IZ rfl<|wD (fun Ah=>?_) fun Ah=>?_
 ·obtain ⟨m9,rfl⟩:∃m9,mm=m9+1:=⟨mm-1,by omega⟩
  refine iT rfl rfl<|fX (fun mz l w=>∃mj:Nat,∃z:Int,∃sG:List Bool,∃A2:Option Addr,∃c2:Nat,∃n2:Nat,∃dL:List IE,mj=mz/\l=[(13,aq z),(0,bB g),(2,ak q),(8,aq ((bz (pa,pb)).2.1)),(9,aq ((bz (pa,pb)).2.2)),(11,.slice (bh bJ) (q+1) (q+1)),(12,ak dd)]/\St w0 w [bk g #[ak n,.slice A2 n2 c2,.slice B m d] 264,aad A2 n2 c2 dL,aal (bh bJ) (q+1) (q+1) sG] [bP w1 (pX g n A nI c B m d es),u3 B m d ws]/\z=((mj:Nat):Int) - 1/\mj<=dd+1/\dL++(rsM n (bz (pa,pb)).2.1 (bz (pa,pb)).2.2 mj sG).1=es1++(x7 n (bz (pa,pb)).2.1 (bz (pa,pb)).2.2 dd Ow).1/\(rsM n (bz (pa,pb)).2.1 (bz (pa,pb)).2.2 mj sG).2=(x7 n (bz (pa,pb)).2.1 (bz (pa,pb)).2.2 dd Ow).2/\dL.length=n2/\sG.length=q+1/\n2+3*mj+45*m9<=99000) ⟨(dd+1),((dd:Nat):Int),Ow,A1,c1,n1,es1,rfl,rfl,σ,ae,(aY _),rfl,rfl,iQ,al6,ae⟩ ay ?_
  rintro _ _ _ ⟨mj,z,sG,A2,c2,n2,dL,rfl,rfl,σ,hz,hm,vi,OQ,jb,D3,gx⟩
  refine xd rfl<|wD (fun rB=>?_) fun rB=>?_
  ·obtain ⟨j2,rfl⟩:∃j2,mj=j2+1:=⟨mj-1,by omega⟩
   obtain rfl:z=((j2:Nat):Int):=ae
   refine iT rfl rfl<|Wc 0 (fun l w=>∃lo:Bool,l=[(14,.bool lo),(0,bB g),(2,ak q),(8,aq ((bz (pa,pb)).2.1)),(9,aq ((bz (pa,pb)).2.2)),(11,.slice (bh bJ) (q+1) (q+1)),(12,ak dd),(13,ak j2)]/\St w0 w [bk g #[ak n,.slice A2 n2 c2,.slice B m d] 264,aad A2 n2 c2 dL,aal (bh bJ) (q+1) (q+1) sG] [bP w1 (pX g n A nI c B m d es),u3 B m d ws]/\i' (bz (pa,pb)).2.1 j2 sG=lo) rfl ?_ ?_
   ·refine pd rfl<|wD (fun u6=>?_) fun u6=>?_
    ·refine xD (j:=1) rfl ae<|vE rfl (fun η=>az (i:=j2 - 1) η Tryz.underlying219 (bQ.size) rfl rfl ae rfl (ax σ.lY))<|cE rfl (fun η=>aJ (i:=j2 - 1) (j:=0) (e:=(gb sG (j2 - 1))) η bQ rfl rfl fi ai (ax σ.lY) ae (RH ae) rfl)<|wB (fun xg=>?_) fun xg=>?_
     ·refine ir rfl<|wN (fun wj=>?_) fun wj=>?_
      ·exact xf ⟨true,rfl,σ,(by unfold i'; rw [dU (show 0<j2 by omega),xg,dU wj]; rfl)⟩ ay
      ·exact xf ⟨false,rfl,σ,(by unfold i'; rw [bR (show ¬(bz (pa,pb)).2.1≠0 from fun x=>x wj),Bool.and_false])⟩ ay
     ·exact xf ⟨false,rfl,σ,(by unfold i'; rw [xg,Bool.and_false]; rfl)⟩ ay
    ·exact xf ⟨false,rfl,σ,(by unfold i'; rw [bR (show ¬0<j2 by omega)]; rfl)⟩ ay
   rintro _ _ ⟨lo,rfl,σ,Dh⟩
   refine Wc 0 (fun l w=>∃ow:Bool,l=[(15,.bool ow),(0,bB g),(2,ak q),(8,aq ((bz (pa,pb)).2.1)),(9,aq ((bz (pa,pb)).2.2)),(11,.slice (bh bJ) (q+1) (q+1)),(12,ak dd),(13,ak j2),(14,.bool lo)]/\St w0 w [bk g #[ak n,.slice A2 n2 c2,.slice B m d] 264,aad A2 n2 c2 dL,aal (bh bJ) (q+1) (q+1) sG] [bP w1 (pX g n A nI c B m d es),u3 B m d ws]/\kp (bz (pa,pb)).2.2 j2 sG=ow) rfl ?_ ?_
   ·refine vE rfl (fun η=>az (i:=j2) η Tryz.underlying219 (bQ.size) rfl rfl ae rfl (ax σ.lY))<|cE rfl (fun η=>aJ (i:=j2) (j:=0) (e:=(gb sG j2)) η bQ rfl rfl fi ai (ax σ.lY) ae (RH ae) rfl)<|wB (fun Jd=>?_) fun Jd=>?_
    ·refine ir rfl<|wN (fun C9=>?_) fun C9=>?_
     ·exact xf ⟨true,rfl,σ,(by unfold kp; rw [Jd,dU C9]; rfl)⟩ ay
     ·exact xf ⟨false,rfl,σ,(by unfold kp; rw [bR (show ¬(bz (pa,pb)).2.2≠0 from fun x=>x C9),Bool.and_false])⟩ ay
    ·exact xf ⟨false,rfl,σ,(by unfold kp; rw [Jd]; rfl)⟩ ay
   rintro _ _ ⟨ow,rfl,σ,how⟩
   cases lo<;>cases ow
   ·exact iF rfl rfl<|iF rfl rfl<|iF rfl rfl<|iF rfl rfl<|vE rfl (fun η=>az (i:=j2) η Tryz.underlying219 (bQ.size) rfl rfl ae rfl (ax σ.lY))<|eE rfl<|qI 2 j2 (e1:=false) fi σ rfl rfl ae D3 fun _ σ=>yf rfl ae<|dF ⟨j2,(((j2:Nat):Int) - (1:Int)),(sG.set j2 false),A2,c2,n2,dL,rfl,rfl,σ,rfl,ae,(by have h9:=vi; rw [lP,agJ Dh how] at h9; rw [show (sG.set j2 false)=sa (bz (pa,pb)).2.1 (bz (pa,pb)).2.2 j2 sG by unfold sa; rw [Dh,how]; rfl]; simpa only [cG,iU,fv] using h9),(by have h9:=OQ; rw [lP] at h9; rw [show (sG.set j2 false)=sa (bz (pa,pb)).2.1 (bz (pa,pb)).2.2 j2 sG by unfold sa; rw [Dh,how]; rfl]; exact h9),jb,(by rw [cH]; exact D3),ae⟩ ay ae
   ·refine iF rfl rfl<|iF rfl rfl<|iT rfl rfl<|eE rfl<|dx Tryz.call209 (kR (j:=j2) σ.dm ae) σ rfl fun _ σ=>eE rfl<|dx Tryz.call209 (kR (j:=j2) σ.dm ae) σ rfl fun _ σ=>?_
    replace σ:=σ.pack 2
    refine eE rfl<|cS Tryz.call177 (dZ (σ.bO (k:=0) rfl []) jb ae) rfl ?_
    rintro _ _ ⟨A64,c65,n66,rfl,RJ,agM⟩
    refine ⟨_,rfl,?_⟩
    replace σ:=σ.j4 (k:=0) rfl RJ
    have al7:=ef (fm n j2) (fm n j2) ((bz (pa,pb)).2.2)
    have ace:(dL++gy (fm n j2) (fm n j2) ((bz (pa,pb)).2.2)).length=n66:=agM
    rw [aP,jb] at ace
    replace σ:=σ.unpack
    exact vE rfl (fun η=>az (i:=j2) η Tryz.underlying219 (bQ.size) rfl rfl ae rfl (ax σ.lY))<|eE rfl<|qI 2 j2 (e1:=true) fi σ rfl rfl ae D3 fun _ σ=>yf rfl ae<|dF ⟨j2,(((j2:Nat):Int) - (1:Int)),(sG.set j2 true),A64,c65,n66,(dL++gy (fm n j2) (fm n j2) ((bz (pa,pb)).2.2)),rfl,rfl,σ,rfl,ae,(by have h9:=vi; rw [lP,agI Dh how] at h9; rw [show (sG.set j2 true)=sa (bz (pa,pb)).2.1 (bz (pa,pb)).2.2 j2 sG by unfold sa; rw [Dh,how]; rfl]; simpa only [cG,iU,fv] using h9),(by have h9:=OQ; rw [lP] at h9; rw [show (sG.set j2 true)=sa (bz (pa,pb)).2.1 (bz (pa,pb)).2.2 j2 sG by unfold sa; rw [Dh,how]; rfl]; exact h9),agM,(by rw [cH]; exact D3),ae⟩ ay ae
   ·have hj0:=Cz Dh
    refine iT rfl rfl<|eE rfl<|dx Tryz.call207 (lG σ.dm ae) σ rfl fun _ σ=>xD (j:=1) rfl ae<|eE rfl<|dx Tryz.call209 (kR (j:=j2 - 1) σ.dm ae) σ rfl fun _ σ=>?_
    replace σ:=σ.pack 2
    refine eE rfl<|cS Tryz.call177 (dZ (σ.bO (k:=0) rfl []) jb ae) rfl ?_
    rintro _ _ ⟨A69,c70,n71,rfl,acf,RK⟩
    refine ⟨_,rfl,?_⟩
    replace σ:=σ.j4 (k:=0) rfl acf
    have al8:=ef (pz n) (fm n (j2 - 1)) ((bz (pa,pb)).2.1)
    have acg:(dL++gy (pz n) (fm n (j2 - 1)) ((bz (pa,pb)).2.1)).length=n71:=RK
    rw [aP,jb] at acg
    replace σ:=σ.unpack
    refine iF rfl rfl<|iF rfl rfl<|iT rfl rfl<|eE rfl<|dx Tryz.call209 (kR (j:=j2) σ.dm ae) σ rfl fun _ σ=>eE rfl<|dx Tryz.call207 (lG σ.dm ae) σ rfl fun _ σ=>?_
    replace σ:=σ.pack 2
    refine eE rfl<|cS Tryz.call177 (dZ (σ.bO (k:=0) rfl []) RK ae) rfl ?_
    rintro _ _ ⟨A74,c75,n76,rfl,Je,agO⟩
    refine ⟨_,rfl,?_⟩
    replace σ:=σ.j4 (k:=0) rfl Je
    have al':=ef (fm n j2) (pz n) (1:Int)
    have ach:((dL++gy (pz n) (fm n (j2 - 1)) ((bz (pa,pb)).2.1))++gy (fm n j2) (pz n) (1:Int)).length=n76:=agO
    rw [aP,RK] at ach
    replace σ:=σ.unpack
    exact vE rfl (fun η=>az (i:=j2) η Tryz.underlying219 (bQ.size) rfl rfl ae rfl (ax σ.lY))<|eE rfl<|qI 2 j2 (e1:=true) fi σ rfl rfl ae D3 fun _ σ=>yf rfl ae<|dF ⟨j2,(((j2:Nat):Int) - (1:Int)),(sG.set j2 true),A74,c75,n76,((dL++gy (pz n) (fm n (j2 - 1)) ((bz (pa,pb)).2.1))++gy (fm n j2) (pz n) (1:Int)),rfl,rfl,σ,rfl,ae,(by have h9:=vi; rw [lP,agH Dh how] at h9; rw [show (sG.set j2 true)=sa (bz (pa,pb)).2.1 (bz (pa,pb)).2.2 j2 sG by unfold sa; rw [Dh,how]; rfl]; simpa only [cG,iU,fv] using h9),(by have h9:=OQ; rw [lP] at h9; rw [show (sG.set j2 true)=sa (bz (pa,pb)).2.1 (bz (pa,pb)).2.2 j2 sG by unfold sa; rw [Dh,how]; rfl]; exact h9),agO,(by rw [cH]; exact D3),ae⟩ ay ae
   ·have hj0:=Cz Dh
    refine iT rfl rfl<|eE rfl<|dx Tryz.call207 (lG σ.dm ae) σ rfl fun _ σ=>xD (j:=1) rfl ae<|eE rfl<|dx Tryz.call209 (kR (j:=j2 - 1) σ.dm ae) σ rfl fun _ σ=>?_
    replace σ:=σ.pack 2
    refine eE rfl<|cS Tryz.call177 (dZ (σ.bO (k:=0) rfl []) jb ae) rfl ?_
    rintro _ _ ⟨A79,c80,n81,rfl,abJ,tP⟩
    refine ⟨_,rfl,?_⟩
    replace σ:=σ.j4 (k:=0) rfl abJ
    have abK:=ef (pz n) (fm n (j2 - 1)) ((bz (pa,pb)).2.1)
    have I3:(dL++gy (pz n) (fm n (j2 - 1)) ((bz (pa,pb)).2.1)).length=n81:=tP
    rw [aP,jb] at I3
    replace σ:=σ.unpack
    refine iT rfl rfl<|eE rfl<|dx Tryz.call209 (kR (j:=j2) σ.dm ae) σ rfl fun _ σ=>eE rfl<|dx Tryz.call209 (kR (j:=j2) σ.dm ae) σ rfl fun _ σ=>?_
    replace σ:=σ.pack 2
    refine eE rfl<|cS Tryz.call177 (dZ (σ.bO (k:=0) rfl []) tP ae) rfl ?_
    rintro _ _ ⟨A84,c85,n86,rfl,abZ,Nv⟩
    refine ⟨_,rfl,?_⟩
    replace σ:=σ.j4 (k:=0) rfl abZ
    have ab0:=ef (fm n j2) (fm n j2) ((bz (pa,pb)).2.2)
    have I':((dL++gy (pz n) (fm n (j2 - 1)) ((bz (pa,pb)).2.1))++gy (fm n j2) (fm n j2) ((bz (pa,pb)).2.2)).length=n86:=Nv
    rw [aP,tP] at I'
    replace σ:=σ.unpack
    refine eE rfl<|dx Tryz.call209 (kR (j:=j2) σ.dm ae) σ rfl fun _ σ=>eE rfl<|dx Tryz.call209 (kR (j:=j2) σ.dm ae) σ rfl fun _ σ=>eE rfl<|dx Tryz.call207 (lG σ.dm ae) σ rfl fun _ σ=>?_
    replace σ:=σ.pack 2
    refine eE rfl<|cS Tryz.call204 (nu (σ.bO (k:=0) rfl []) Nv ae) rfl ?_
    rintro _ _ ⟨A89,Wv,Nw,rfl,Ja,wq⟩
    refine ⟨_,rfl,?_⟩
    replace σ:=σ.j4 (k:=0) rfl Ja
    have Jb:=dG (a:=((3:Int),(fm n j2),(fm n j2),(pz n),(0:Int)))
    have tR:(((dL++gy (pz n) (fm n (j2 - 1)) ((bz (pa,pb)).2.1))++gy (fm n j2) (fm n j2) ((bz (pa,pb)).2.2))++[((3:Int),(fm n j2),(fm n j2),(pz n),(0:Int))]).length=Nw:=wq
    rw [aP,Nv] at tR
    replace σ:=σ.unpack
    exact vE rfl (fun η=>az (i:=j2) η Tryz.underlying219 (bQ.size) rfl rfl ae rfl (ax σ.lY))<|eE rfl<|qI 2 j2 (e1:=true) fi σ rfl rfl ae D3 fun _ σ=>yf rfl ae<|dF ⟨j2,(((j2:Nat):Int) - (1:Int)),(sG.set j2 true),A89,Wv,Nw,(((dL++gy (pz n) (fm n (j2 - 1)) ((bz (pa,pb)).2.1))++gy (fm n j2) (fm n j2) ((bz (pa,pb)).2.2))++[((3:Int),(fm n j2),(fm n j2),(pz n),(0:Int))]),rfl,rfl,σ,rfl,ae,(by have h9:=vi; rw [lP,agG Dh how] at h9; rw [show (sG.set j2 true)=sa (bz (pa,pb)).2.1 (bz (pa,pb)).2.2 j2 sG by unfold sa; rw [Dh,how]; rfl]; simpa only [cG,iU,fv] using h9),(by have h9:=OQ; rw [lP] at h9; rw [show (sG.set j2 true)=sa (bz (pa,pb)).2.1 (bz (pa,pb)).2.2 j2 sG by unfold sa; rw [Dh,how]; rfl]; exact h9),wq,(by rw [cH]; exact D3),ae⟩ ay ae
  ·obtain rfl:mj=0:=ae
   replace OQ:sG=(x7 n (bz (pa,pb)).2.1 (bz (pa,pb)).2.2 dd Ow).2:=OQ
   have aci:dL=es1++(x7 n (bz (pa,pb)).2.1 (bz (pa,pb)).2.2 dd Ow).1:=by rw [<- vi]; exact (fv _).symm
   exact iF rfl rfl<|can (j:=1) rfl ae<|dF ⟨dd+1,m9,sG,A2,c2,n2,dL,rfl,rfl,σ,ae,(by rw [OQ,aci,cG]; exact J7),(by rw [OQ]; exact vI),jb,D3,ae⟩ ay ae
 ·obtain rfl:mm=0:=ae
  exact iF rfl rfl<|o1 Tryz.results208 rfl<|by rw [<- J7,<- vI,show IK n (bz (pa,pb)).2.1 (bz (pa,pb)).2.2 dd 0 Ow=([],Ow) from rfl,fv]; exact ⟨_,_,_,_,rfl,(σ.pick [0,1,2] [0] ai).pack 2,iQ,hgD⟩
theorem Wx {w0 w1:World} {pa pb:Int} {k q:Nat} {ws:List Pt} {g n nI c m d:Nat} {A B:Option Addr} {es:List IE} (hS:St w0 w1 [pX g n A nI c B m d es] [bP w1 (pX g n A nI c B m d es),u3 B m d ws]) (hl:es.length=nI) (hn:nI+70*q+200<=99000) (rO:ws.length=m) (hwn:m=n) (Uo:∀p∈ws,K8 p) (Om:1<=q) (acb:q<=14) (ab4:n<=15) (H4:ws[k]?=some (pa,pb)):
  Calls Tryz.prog 179 #[bB g,ak k,ak q] w1 fun e w'=>∃A' c' n',e=.returned (.tuple #[])/\St w0 w' [pX g n A' n' c' B m d (es++IL n (pa,pb) ((k:Nat):Int) q)] [bP w1 (pX g n A nI c B m d es)]/\(es++IL n (pa,pb) ((k:Nat):Int) q).length=n':=by
 refine dp Tryz.func179 rfl Tryz.ntmps179 rfl fun σ=>?_
 replace σ:=hS
 have hkn:k<m:=by have:=(bU.1 H4).1; omega
 have Hx:=Uo _ (aB H4)
 obtain ⟨⟨b1,b2⟩,b3,b4⟩:=Hx.qH
 dsimp only at b1 b2 b3 b4
 have Y8:=DL n (pa,pb) ((k:Nat):Int) q
 replace σ:=σ.unpack
 refine lE 0 σ rfl<|vE rfl (fun η=>az (i:=k) η Tryz.underlying22 (aC.size) rfl rfl ae rfl σ.bC.1)<|cE rfl (fun η=>bF (v:=#[aq pa,aq pb]) (i:=k) (e:=(pa,pb)) η aC rfl rfl ft σ.bC.1 ae H4 rfl)<|eE rfl<|eL bp σ rfl fun _ bJ σ=>eE rfl<|cX 0 σ rfl fun _ σ=>fX (fun mz l w=>∃mj:Nat,∃z:Int,∃A2:Option Addr,∃c2:Nat,∃n2:Nat,∃dL:List IE,mj=mz/\l=[(7,aq z),(0,bB g),(1,ak k),(2,ak q),(6,bB bJ)]/\St w0 w [bk g #[ak n,.slice A2 n2 c2,.slice B m d] 264,aad A2 n2 c2 dL,bk bJ #[aq pa,aq pb] 61] [bP w1 (pX g n A nI c B m d es),u3 B m d ws]/\z=((mj:Nat):Int) - 1/\mj<=q+1/\dL++bkM n pa pb q mj=es++QH n pa pb q q/\dL.length=n2/\n2+3*mj+60*q+100<=99000) ⟨(q+1),((q:Nat):Int),A,c,nI,es,rfl,rfl,σ.pick [1,2,0] [0,1] ai,ae,(aY _),rfl,hl,ae⟩ ay ?_
 rintro _ _ _ ⟨mj,z,A2,c2,n2,dL,rfl,rfl,σ,hz,hm,hi,jb,gx⟩
 refine xd rfl<|wD (fun jG=>?_) fun jG=>?_
 ·obtain ⟨j2,rfl⟩:∃j2,mj=j2+1:=⟨mj-1,by omega⟩
  obtain rfl:z=((j2:Nat):Int):=ae
  refine iT rfl rfl<|cZ rfl<|wQ (fun lU=>?_) fun lU=>?_
  ·refine iT rfl rfl<|gY [11] [0,4,8,16,20,24,32,37,40,14,30,46] aK σ fun _ σ=>xD (j:=1) rfl ae<|lS 2 rfl<|Wa rfl ae<|eS rfl<|dx Tryz.call178 (jC (j:=j2) σ.dm ae) σ rfl fun _ σ=>sk σ.kn<|eS rfl<|dx Tryz.call178 (jC (j:=j2 - 1) σ.dm ae) σ rfl fun _ σ=>sk σ.kn<|?_
   replace σ:=σ.pack 2
   refine eS rfl<|cS Tryz.call177 (dZ (σ.bO (k:=0) rfl []) jb ae) rfl ?_
   rintro _ _ ⟨tS,sF,n56,rfl,acj,xF⟩
   refine ⟨_,rfl,?_⟩
   replace σ:=σ.j4 (k:=0) rfl acj
   have RL:=ef (pl n j2) (pl n (j2 - 1)) (-pb)
   have ack:(dL++gy (pl n j2) (pl n (j2 - 1)) (-pb)).length=n56:=xF
   rw [aP,jb] at ack
   replace σ:=σ.unpack
   exact sz rfl<|yf rfl ae<|dF ⟨j2,(((j2:Nat):Int) - (1:Int)),tS,sF,n56,(dL++gy (pl n j2) (pl n (j2 - 1)) (-pb)),rfl,rfl,σ,rfl,ae,(by have h9:=hi; rw [AB,alZ ae] at h9; simpa only [cG] using h9),xF,ae⟩ ay ae
  ·refine iF rfl rfl<|pd rfl<|wD (fun u6=>?_) fun u6=>?_
   ·refine iT rfl rfl<|gY [9] [0,4,12,16,20,28,33,10,26,38] aK σ fun _ σ=>xD (j:=1) rfl ae<|lS 2 rfl<|eS rfl<|dx Tryz.call207 (lG σ.dm ae) σ rfl fun _ σ=>sk σ.kn<|eS rfl<|dx Tryz.call178 (jC (j:=j2 - 1) σ.dm ae) σ rfl fun _ σ=>sk σ.kn<|?_
    replace σ:=σ.pack 2
    refine eS rfl<|cS Tryz.call177 (dZ (σ.bO (k:=0) rfl []) jb ae) rfl ?_
    rintro _ _ ⟨As,uc,n62,rfl,TT,tQ⟩
    refine ⟨_,rfl,?_⟩
    replace σ:=σ.j4 (k:=0) rfl TT
    have J1:=ef (pz n) (pl n (j2 - 1)) pb
    have J0:(dL++gy (pz n) (pl n (j2 - 1)) pb).length=n62:=tQ
    rw [aP,jb] at J0
    replace σ:=σ.unpack
    refine sz rfl<|gY [9] [0,4,8,16,20,28,33,14,26,38] aK σ fun _ σ=>lS 2 rfl<|eS rfl<|dx Tryz.call178 (jC (j:=j2) σ.dm ae) σ rfl fun _ σ=>sk σ.kn<|eS rfl<|dx Tryz.call178 (jC (j:=j2) σ.dm ae) σ rfl fun _ σ=>sk σ.kn<|?_
    replace σ:=σ.pack 2
    refine eS rfl<|cS Tryz.call177 (dZ (σ.bO (k:=0) rfl []) tQ ae) rfl ?_
    rintro _ _ ⟨V1,V2,n67,rfl,DY,DZ⟩
    refine ⟨_,rfl,?_⟩
    replace σ:=σ.j4 (k:=0) rfl DY
    have RA:=ef (pl n j2) (pl n j2) pa
    have Ai:((dL++gy (pz n) (pl n (j2 - 1)) pb)++gy (pl n j2) (pl n j2) pa).length=n67:=DZ
    rw [aP,tQ] at Ai
    replace σ:=σ.unpack
    refine sz rfl<|pd rfl<|kB (b':=true) (dU u6)<|iT rfl rfl<|eE rfl<|dx Tryz.call178 (jC (j:=j2) σ.dm ae) σ rfl fun _ σ=>eE rfl<|dx Tryz.call178 (jC (j:=j2) σ.dm ae) σ rfl fun _ σ=>eE rfl<|dx Tryz.call207 (lG σ.dm ae) σ rfl fun _ σ=>?_
    replace σ:=σ.pack 2
    refine eE rfl<|cS Tryz.call204 (nu (σ.bO (k:=0) rfl []) DZ ae) rfl ?_
    rintro _ _ ⟨Uh,Ui,n72,rfl,RC,Gx⟩
    refine ⟨_,rfl,?_⟩
    replace σ:=σ.j4 (k:=0) rfl RC
    have RD:=dG (a:=((4:Int),(pl n j2),(pl n j2),(pz n),(0:Int)))
    have Al:(((dL++gy (pz n) (pl n (j2 - 1)) pb)++gy (pl n j2) (pl n j2) pa)++[((4:Int),(pl n j2),(pl n j2),(pz n),(0:Int))]).length=n72:=Gx
    rw [aP,DZ] at Al
    replace σ:=σ.unpack
    exact yf rfl ae<|dF ⟨j2,(((j2:Nat):Int) - (1:Int)),Uh,Ui,n72,(((dL++gy (pz n) (pl n (j2 - 1)) pb)++gy (pl n j2) (pl n j2) pa)++[((4:Int),(pl n j2),(pl n j2),(pz n),(0:Int))]),rfl,rfl,σ,rfl,ae,(by have h9:=hi; rw [AB,al0 ae ae] at h9; simpa only [cG] using h9),Gx,ae⟩ ay ae
   ·refine iF rfl rfl<|gY [9] [0,4,8,16,20,28,33,14,26,38] aK σ fun _ σ=>lS 2 rfl<|eS rfl<|dx Tryz.call178 (jC (j:=j2) σ.dm ae) σ rfl fun _ σ=>sk σ.kn<|eS rfl<|dx Tryz.call178 (jC (j:=j2) σ.dm ae) σ rfl fun _ σ=>sk σ.kn<|?_
    replace σ:=σ.pack 2
    refine eS rfl<|cS Tryz.call177 (dZ (σ.bO (k:=0) rfl []) jb ae) rfl ?_
    rintro _ _ ⟨A75,c76,n77,rfl,amb,agQ⟩
    refine ⟨_,rfl,?_⟩
    replace σ:=σ.j4 (k:=0) rfl amb
    have amc:=ef (pl n j2) (pl n j2) pa
    have acm:(dL++gy (pl n j2) (pl n j2) pa).length=n77:=agQ
    rw [aP,jb] at acm
    replace σ:=σ.unpack
    exact sz rfl<|pd rfl<|kB (b':=false) (bR u6)<|iF rfl rfl<|yf rfl ae<|dF ⟨j2,(((j2:Nat):Int) - (1:Int)),A75,c76,n77,(dL++gy (pl n j2) (pl n j2) pa),rfl,rfl,σ,rfl,ae,(by have h9:=hi; rw [AB,al1 ae ae] at h9; simpa only [cG] using h9),agQ,ae⟩ ay ae
 ·obtain rfl:mj=0:=ae
  have aci:dL=es++QH n pa pb q q:=by rw [<- hi]; exact (fv _).symm
  refine iF rfl rfl<|?_
  replace σ:=σ.pack 2
  refine eE rfl<|cS Tryz.call208 (Nx (σ.bO (k:=0) rfl [1]) jb ae rO hwn Uo acb ab4 H4) rfl ?_
  rintro _ _ ⟨A80,c81,n82,acn,rfl,amd,agS,atU⟩
  refine ⟨_,rfl,?_⟩
  replace σ:=σ.alY (k:=0) rfl amd (fun b hb=>by have h8:acn=b:=dw hb; omega)
  have ame:=RI (n:=n) (p:=(pa,pb)) (k:=((k:Nat):Int)) acb
  have aco:(dL++(zQ n (pa,pb) ((k:Nat):Int) q).1).length=n82:=agS
  rw [aP,jb] at aco
  replace σ:=(σ.pick [1,0,2] [0,1] ai).unpack
  refine fX (fun mz l w=>∃j:Nat,∃A3:Option Addr,∃c3:Nat,∃n3:Nat,∃zk:List IE,q+1 - j=mz/\l=[(76,ak j),(0,bB g),(74,.slice (bh acn) (q+1) (q+1)),(75,ak (q+1))]/\St w0 w [bk g #[ak n,.slice A3 n3 c3,.slice B m d] 264,aad A3 n3 c3 zk,aal (bh acn) (q+1) (q+1) ((zQ n (pa,pb) ((k:Nat):Int) q).2)] [bP w1 (pX g n A nI c B m d es),u3 B m d ws]/\j<=q+1/\zk++xz n j ((zQ n (pa,pb) ((k:Nat):Int) q).2.drop j)=es++IL n (pa,pb) ((k:Nat):Int) q/\zk.length=n3/\n3+(q+1 - j)<=99000) ⟨0,A80,c81,n82,(dL++(zQ n (pa,pb) ((k:Nat):Int) q).1),rfl,rfl,σ.pick [0,1,2] [0,1] ai,(bm _),(by unfold IL; rw [<- cG,<- cG,<- aci]; rfl),agS,ae⟩ ay ?_
  rintro _ _ _ ⟨j,A3,c3,n3,zk,rfl,rfl,σ,hj,hi3,sH,tW⟩
  refine ei rfl<|wD (fun h87=>?_) fun h87=>?_
  ·have cD:j<q+1:=ae
   refine iT rfl rfl<|vE rfl (fun η=>az (i:=j) η Tryz.underlying219 (bQ.size) rfl rfl ae rfl (ax σ.lY))<|cE rfl (fun η=>aJ (i:=j) (j:=0) (e:=(gb (zQ n (pa,pb) ((k:Nat):Int) q).2 j)) η bQ rfl rfl fi ai (ax σ.lY) ae (RH ae) rfl)<|wB (fun h88=>?_) fun h88=>?_
   ·refine iT rfl rfl<|eE rfl<|dx Tryz.call178 (jC (j:=j) σ.dm ae) σ rfl fun _ σ=>eE rfl<|dx Tryz.call178 (jC (j:=j) σ.dm ae) σ rfl fun _ σ=>eE rfl<|dx Tryz.call209 (kR (j:=j) σ.dm ae) σ rfl fun _ σ=>?_
    replace σ:=σ.pack 2
    refine eE rfl<|cS Tryz.call204 (nu (σ.bO (k:=0) rfl []) sH ae) rfl ?_
    rintro _ _ ⟨A89,Wv,Nw,rfl,Ja,wq⟩
    refine ⟨_,rfl,?_⟩
    replace σ:=σ.j4 (k:=0) rfl Ja
    have Jb:=dG (a:=((3:Int),(pl n j),(pl n j),(fm n j),(0:Int)))
    have tR:(zk++[((3:Int),(pl n j),(pl n j),(fm n j),(0:Int))]).length=Nw:=wq
    rw [aP,sH] at tR
    replace σ:=σ.unpack
    exact can (j:=1) rfl ae<|dF ⟨j+1,A89,Wv,Nw,(zk++[((3:Int),(pl n j),(pl n j),(fm n j),(0:Int))]),rfl,rfl,σ,ae,(by have h9:=hi3; rw [LG ae,aR h88] at h9; simpa only [cG,iU] using h9),wq,ae⟩ ay ae
   ·exact iF rfl rfl<|can (j:=1) rfl ae<|dF ⟨j+1,A3,c3,n3,zk,rfl,rfl,σ,ae,(by have h9:=hi3; rw [LG ae,aQ (by rw [h88]; decide)] at h9; simpa only [cG,iU] using h9),sH,ae⟩ ay ae
  ·obtain rfl:j=q+1:=ae
   exact iF rfl rfl<|Bu Tryz.results179<|by rw [<- hi3,dM ae,show ∀x,xz n x []=[] from fun _=>rfl,fv]; exact ⟨_,_,_,rfl,(σ.pick [0,1] [0] ai).pack 2,sH⟩
theorem St.more {w0 w w':World} {own ps new:List PF} (h:St w0 w own ps) (h':St w w' new []):St w0 w' (new++own) ps:=by
 have h1:=h.call h'.below
 refine ⟨h1.below,fun e he=>?_,fun e he b hb=>?_,List.pairwise_append.2 ⟨h'.nd,h1.nd,fun e he f hf b hb h2=>?_⟩,h1.pers,fun p hp e he b hb h2=>?_⟩
 ·rcases b6.1 he with he | he
  ·exact h'.mine e he
  ·exact h1.mine e he
 ·rcases b6.1 he with he | he
  ·exact bq h.below.size (h'.new e he b hb)
  ·exact h1.new e he b hb
 ·have:=f.lt (h.mine f hf) h2
  have:=h'.new e he b hb
  omega
 ·rcases b6.1 he with he | he
  ·have:=p.lt (h.pers p hp) h2
   have:=h'.new e he b hb
   omega
  ·exact h1.apart p hp e he b hb h2
theorem St.eH {α:Type} {f:α->List Value} {w0 w:World} {own ps:List PF} {es:List α} {q:Value->Bool} {E z n c k:Nat} {A:Option Addr} (h:St w0 w own ps) (hk:own[k]?=some (av q E z A n c (fl f es))) (hl:es.length=n):St w0 w (own.eraseIdx k) (ag f (fun _=>jY) z A n c es::ps):=
 h.UW hk (ag f (fun _=>jY) z A n c es) ⟨ax (h.owns hk),hl,fun _ _=>trivial⟩ fun b hb=>by
  rcases hb with ⟨_,off,rfl⟩ | ⟨e,_,he⟩
  ·rfl
  ·exact he.elim
def amf (p:Pt):Bool:=decide ((0<(mb p).2∨((mb p).2=0/\0<(mb p).1))/\p.1=(mb p).1*I1 p/\p.2=(mb p).2*I1 p/\I1 p≠0/\((bz p).2.1*(mb p).1+(bz p).2.2*(mb p).2=1∨-((bz p).2.1)*(mb p).1+-((bz p).2.2)*(mb p).2=1))
theorem acp:∀a:Fin 33,∀b:Fin 33,(a.1=16/\b.1=16)∨amf ((a.1:Int) - 16,(b.1:Int) - 16)=true:=by decide+kernel
theorem Y9 {p:Pt} (h:mv p) (h0:¬(p.1=0/\p.2=0)):(0<(mb p).2∨((mb p).2=0/\0<(mb p).1))/\p.1=(mb p).1*I1 p/\p.2=(mb p).2*I1 p/\I1 p≠0/\∃u v:Int,u*(mb p).1+v*(mb p).2=1:=by
 unfold mv at h
 have:=acp ⟨(p.1+16).toNat,by omega⟩ ⟨(p.2+16).toNat,by omega⟩
 dsimp only at this
 rcases this with q | q
 ·omega
 ·rw [show (((p.1+16).toNat:Nat):Int) - 16=p.1 by omega,show (((p.2+16).toNat:Nat):Int) - 16=p.2 by omega] at q
  obtain ⟨h1,h2,h3,h4,h5⟩:=bX q
  exact ⟨h1,h2,h3,h4,h5.elim (fun h=>⟨_,_,h⟩) fun h=>⟨_,_,h⟩⟩
theorem Y' {u v a1 a2 b1 b2:Int} (h:u*a1+v*a2=1) (e:a1*b2=b1*a2):b1=(u*b1+v*b2)*a1:=by
 have:(u*b1+v*b2)*a1=(u*a1+v*a2)*b1:=by
  rw [BJ,BJ,fR v b2,gn b2,e,Int.mul_right_comm u,gn b1,fR v]
 rw [this,h,p']
theorem Za {u v a1 a2 b1 b2:Int} (h:u*a1+v*a2=1) (e:a1*b2=b1*a2):b2=(u*b1+v*b2)*a2:=by
 have:(u*b1+v*b2)*a2=(u*a1+v*a2)*b2:=by
  rw [BJ,BJ,fR u,<- e,Int.mul_right_comm v,fR u]
 rw [this,h,p']
theorem Jf {p q:Pt} (hp:mv p) (Ns:¬(p.1=0/\p.2=0)) (hq:mv q) (U1:¬(q.1=0/\q.2=0)):mb p=mb q↔p.1*q.2 - q.1*p.2=0:=by
 obtain ⟨s1,p1,p2,p3,u,v,pu⟩:=Y9 hp Ns
 obtain ⟨t1,q1,q2,q3,y,z,qu⟩:=Y9 hq U1
 generalize mb p=a at*
 generalize mb q=b at*
 generalize I1 p=g at*
 generalize I1 q=k at*
 have hd:p.1*q.2 - q.1*p.2=(a.1*b.2 - b.1*a.2)*(g*k):=by
  rw [p1,p2,q1,q2,Int.sub_mul]
  simp only [gn,nX]
 constructor
 ·intro e
  rw [hd,e,Int.sub_self,jI]
 ·intro e
  rw [hd] at e
  have e1:a.1*b.2 - b.1*a.2=0:=(Int.mul_eq_zero.1 e).resolve_right fun h=>(Int.mul_eq_zero.1 h).elim p3 q3
  have e2:a.1*b.2=b.1*a.2:=ae
  have b1:=Y' pu e2
  have b2:=Za pu e2
  have a1:=Y' qu (by omega:b.1*a.2=a.1*b.2)
  have a2:=Za qu (by omega:b.1*a.2=a.1*b.2)
  generalize u*b.1+v*b.2=m at*
  generalize y*a.1+z*a.2=n at*
  have TZ:n*m=1:=by
   have h1:n*m*a.1=a.1:=by rw [fR,<- b1]; exact a1.symm
   have h2:n*m*a.2=a.2:=by rw [fR,<- b2]; exact a2.symm
   have h3:n*m*(u*a.1+v*a.2)=u*a.1+v*a.2:=by
    rw [EW,nX,h1,nX,h2]
   rwa [pu,qL] at h3
  have hm:m=1∨m=-1:=by
   have:=aM Int.natAbs TZ
   rw [lH] at this
   have:=Nat.eq_one_of_mul_eq_one_left this
   omega
  rcases hm with rfl | rfl
  ·exact Prod.ext (by rw [b1,p']) (by rw [b2,p'])
  ·omega
theorem AD {l:List Pt} (h:iA l):¬sZ l:=fun ⟨i,j,p,q,O6,hi,hj,e⟩=>by
 have hp:=h.qH p (aB hi)
 have hq:=h.qH q (aB hj)
 obtain ⟨E3,rfl⟩:=bU.1 hi
 obtain ⟨Od,rfl⟩:=bU.1 hj
 exact yK.1 h.apart i j E3 Od O6 ((Jf hp.1 hp.2 hq.1 hq.2).1 e)
theorem acq {l:List Pt} (h1:1<=l.length/\l.length<=15) (h2:∀p∈l,mv p/\¬(p.1=0/\p.2=0)) (h3:¬sZ l):iA l:=
 ⟨h1,h2,yK.2 fun i j hi hj O6 e=>h3 ⟨i,j,_,_,O6,aw hi,aw hj,(Jf (h2 _ (mS hi)).1 (h2 _ (mS hi)).2 (h2 _ (mS hj)).1 (h2 _ (mS hj)).2).2 e⟩⟩
theorem RM {t:Bool} {p:Prop} (h:t=true↔p) (hp:¬p):t=false:=by
 cases t
 ·rfl
 ·exact absurd (h.1 rfl) hp
def iS (n:Nat):List Int:=(List.range n).map fun i=>((i:Nat):Int)
theorem Ny (n:Nat):iS n++[((n:Nat):Int)]=iS (n+1):=by unfold iS; rw [vB,je]; rfl
theorem lQ (n:Nat):(iS n).length=n:=by simp [iS]
theorem yl {n i:Nat} (h:i<n):(iS n)[i]?=some ((i:Nat):Int):=by unfold iS; rw [bo,fQ h]; rfl
theorem RN (n j:Nat):(List.range j).map (pl n)++[pl n j]=(List.range (j+1)).map (pl n):=by rw [vB,je]; rfl
theorem acr {n j:Nat} {q:Pt} {ws:List Pt} (h:ws[j]?=some q):Nh n j (ws.drop j)=Ng ((j:Nat):Int) (bz q).1 (n - 1)++Nh n (j+1) (ws.drop (j+1)):=by
 obtain ⟨hi,rfl⟩:=bU.1 h
 rw [gW hi]
 rfl
theorem acs {n j:Nat} {q:Pt} {ws:List Pt} (h:ws[j]?=some q) (hl:ws.length=n):Ot n j (ws.drop j)=Cn n q ((j:Nat):Int) (n - 1 - j) (j+1) (ws.drop (j+1))++Ot n (j+1) (ws.drop (j+1)):=by
 obtain ⟨hi,rfl⟩:=bU.1 h
 rw [gW hi,Ot,j6,show ws.length - (j+1)=n - 1 - j by omega]
def EH (n:Nat) (ws:List Pt):Nat->List IE
 | 0=>[]
 | m+1=>IL n (ws.getD m (0,0)) ((m:Nat):Int) (n - 1 - m)++EH n ws m
theorem Zb {n:Nat} {ws:List Pt} (hl:ws.length=n):∀d k,k+d+1=n->EH n ws (n - 1)=YY n k (ws.drop k)++EH n ws k
 | 0,k,h=>by
  have hk:k<ws.length:=ae
  rw [gW hk,dM ae,show n - 1=k by omega]
  rfl
 | d+1,k,h=>by
  have hk:k<ws.length:=ae
  have Bc:k+1<ws.length:=ae
  rw [Zb hl d (k+1) ae,gW hk,gW Bc,YY,EH,cG,j6,aF,aw hk,show ws.length - (k+1+1)+1=n - 1 - k by omega]
  rfl
theorem Wy {n:Nat} {ws:List Pt} (hl:ws.length=n) (hn:1<=n):EH n ws (n - 1)=YY n 0 ws:=by
 have h:=Zb hl (n - 1) 0 ae
 rwa [show EH n ws 0=[] from rfl,fv] at h
theorem Wz {l:List Pt} {n:Nat} (hl:l.length=n) (hn:1<=n):nS l=Nh n 0 l++(Ot n 0 (l.map whole)++(gy (pl n 0) ((n - 1:Nat):Int) 1++EH n (l.map whole) (n - 1))):=by
 subst hl
 unfold nS
 have hm:(l.map whole).length=l.length:=aZ ..
 rw [Wy hm hn,F6 _ _ _ (by intro e; rw [e] at hm; simp at hm; omega),hm,fz,cG]
theorem LH {l:List Pt} {j:Nat} {p:Pt} (h:l[j]?=some p):(l.map whole)[j]?=some (whole p):=by rw [bo,h]; rfl
theorem WA {l:List Pt} {j:Nat} {p:Pt} (h:l[j]?=some p):(l.take j).map whole++[whole p]=(l.take (j+1)).map whole:=by
 obtain ⟨hi,rfl⟩:=bU.1 h
 rw [List.take_succ_eq_append_getElem hi,je]
 rfl
theorem agU {l:List Pt} (h:iA l):∀p∈l.map whole,K8 p:=fun p hp=>by
 obtain ⟨q,hq,rfl⟩:=ff.1 hp
 exact (lO (h.qH q hq).1 (h.qH q hq).2).2.2.2.2
theorem GC {w0:World} {A0:Option Addr} {n0 c0:Nat} {es0:List Pt} (h0:(u3 A0 n0 c0 es0).P w0) (bH:iA es0):
  Calls Tryz.prog 129 #[.slice A0 n0 c0] w0 fun e w'=>e=.returned (.bool true)/\Below w0.heap.size w0 w':=by
 have vk:=bH.some_
 have hln:=h0.2.1
 refine dp Tryz.func129 rfl Tryz.ntmps129 rfl fun σ=>?_
 have a8:=h0.2.1
 have ic:=h0.1.cap
 have bW:=h0.1.big
 unfold maxLen at bW
 replace σ:=σ.aE h0
 refine ei rfl<|kB (b':=false) (bR ae)<|pd rfl<|kB (b':=false) (bR ae)<|iF rfl rfl<|fX (fun mz l w=>∃j:Nat,n0 - j=mz/\l=[(18,ak j),(0,.slice A0 n0 c0),(16,.slice A0 n0 c0),(17,ak n0)]/\St w0 w [] [u3 A0 n0 c0 es0]/\j<=n0) ⟨0,rfl,rfl,σ,(bm _)⟩ ay ?_
 rintro _ _ _ ⟨j,rfl,rfl,σ,hj⟩
 refine ei rfl<|wD (fun iz=>?_) fun iz=>?_
 ·have cD:j<n0:=ae
  obtain ⟨⟨pa,pb⟩,b5⟩:∃e,es0[j]?=some e:=⟨_,aw ae⟩
  have Zd:=bH.qH _ (aB b5)
  exact iT rfl rfl<|vE rfl (fun η=>az (i:=j) η Tryz.underlying22 (aC.size) rfl rfl ae rfl σ.aU.1)<|cE rfl (fun η=>bF (v:=#[aq pa,aq pb]) (i:=j) (e:=(pa,pb)) η aC rfl rfl ft σ.aU.1 ae b5 rfl)<|eE rfl<|eL bp σ rfl fun _ cJ σ=>eE rfl<|cX 0 σ rfl fun _ σ=>gE 0 σ rfl<|eE rfl<|dx Tryz.call69 (uY (pa:=pa) (pb:=pb)) σ rfl fun _ σ=>kB (b':=true) (dU Zd.1)<|gE 0 σ rfl<|eE rfl<|dx Tryz.call71 (Lw (pa:=pa) (pb:=pb)) σ rfl fun _ σ=>kB (b':=false) (bR fun e=>Zd.2 (by simpa using e))<|iF rfl rfl<|can (j:=1) rfl ae<|dF ⟨j+1,rfl,rfl,σ.pick [] [0] ai,ae⟩ ay ae
 ·obtain rfl:j=n0:=ae
  refine iF rfl rfl<|eE rfl<|cS Tryz.call72 (Gs σ.aU (fun p hp=>(bH.qH p hp).1)) rfl ?_
  rintro _ _ ⟨x53,y54,t55,rfl,amg,hb⟩
  refine ⟨_,rfl,?_⟩
  replace σ:=σ.call hb
  obtain rfl:t55=false:=RM amg (AD bH)
  exact o1 Tryz.results129 rfl<|⟨rfl,σ.below⟩
theorem AE {w0:World} {n:Nat} (hn:n<=1000):
  Calls Tryz.prog 87 #[ak n] w0 fun e w'=>∃A c,e=.returned (.slice A n c)/\St w0 w' [aab A n c (iS n)] []:=by
 refine dp Tryz.func87 rfl Tryz.ntmps87 rfl fun σ=>?_
 replace σ:=(σ.cl ar 3 1)
 refine fX (fun mz l w=>∃j:Nat,∃A1:Option Addr,∃c1:Nat,n - j=mz/\l=[(3,.slice A1 j c1),(6,ak j),(5,ak n)]/\St w0 w [aab A1 j c1 (iS j)] []/\j<=n) ⟨0,none,0,rfl,rfl,σ,(bm _)⟩ ay ?_
 rintro _ _ _ ⟨j,A1,c1,rfl,rfl,σ,hj⟩
 refine ei rfl<|wD (fun iz=>?_) fun iz=>?_
 ·have cD:j<n:=ae
  refine iT rfl rfl<|eE rfl<|lr #[ak j] σ (aD.size) dc rfl aK fun _ cJ σ=>eE rfl<|pT (new:=[((j:Nat):Int)]) 1 0 σ du rfl (by unfold maxLen; omega) ae fun _ fo nv σ=>?_
  rw [Ny] at σ
  exact can (j:=1) rfl ae<|dF ⟨j+1,(bh fo),nv,rfl,rfl,σ.pick [1] [] ai,ae⟩ ay ae
 ·obtain rfl:j=n:=ae
  exact iF rfl rfl<|o1 Tryz.results87 rfl<|⟨_,_,rfl,σ.pick [0] [] ai⟩
theorem WB {w0:World} {A0 A1:Option Addr} {n0 c0 c1:Nat} {es0:List Pt} (h0:(u3 A0 n0 c0 es0).P w0) (h1:(bE A1 n0 c1 (iS n0)).P w0) (bH:iA es0):
  Calls Tryz.prog 132 #[.slice A0 n0 c0,.slice A1 n0 c1] w0 fun e w'=>∃A n c B d,e=.returned (.agg #[ak n0,ak (3*n0+1),.slice A n c,.slice B n0 d])/\St w0 w' [aad A n c (nS es0),aab B n0 d (sX n0)] []/\(nS es0).length=n:=by
 refine dp Tryz.func132 rfl Tryz.ntmps132 rfl fun σ=>?_
 have a8:=h0.2.1
 have vk:=bH.some_
 rw [a8] at vk
 have rO:(es0.map whole).length=n0:=by rw [aZ]; exact a8
 have hwn:n0=n0:=rfl
 have Uo:=agU bH
 replace σ:=(σ.aE h0).aE h1
 refine eE rfl<|eL bf σ rfl fun _ bJ σ=>vE rfl (fun η=>cK (c:=#[ak n0,bA,bA]) rz η rfl rfl)<|eE rfl<|gN σ rfl fun _ cJ σ=>?_
 replace σ:=(σ.cl ar 116 5)
 replace σ:=(σ.cl ar 61 2)
 refine fX (fun mz l w=>∃j:Nat,∃A2:Option Addr,∃c2:Nat,∃n2:Nat,∃dL:List IE,∃B2:Option Addr,∃d2:Nat,n0 - j=mz/\l=[(25,ak j),(1,.slice A1 n0 c1),(4,bB bJ),(5,ak n0),(6,bB cJ),(23,.slice A0 n0 c0),(24,ak n0)]/\St w0 w [bk cJ #[ak n0,.slice A2 n2 c2,.slice B2 j d2] 264,aad A2 n2 c2 dL,aa1 B2 j d2 ((es0.take j).map whole),bk bJ #[aq 0,aq 0,bA,bA] 28] [bE A1 n0 c1 (iS n0),u3 A0 n0 c0 es0]/\j<=n0/\dL++Nh n0 j (es0.drop j)=Nh n0 0 es0/\dL.length=n2/\n2<=14*j) ⟨0,none,0,0,([]:List IE),none,0,rfl,rfl,σ.pick [2,1,0,3] [0,1] ai,(bm _),rfl,rfl,(aY _)⟩ ay ?_
 rintro _ _ _ ⟨j,A2,c2,n2,dL,B2,d2,rfl,rfl,σ,hj,hi,jb,hb⟩
 refine ei rfl<|wD (fun lU=>?_) fun lU=>?_
 ·have cD:j<n0:=ae
  obtain ⟨⟨pa,pb⟩,b5⟩:∃e,es0[j]?=some e:=⟨_,aw ae⟩
  have Zd:=bH.qH _ (aB b5)
  obtain ⟨g1,g2,-,-,hw⟩:=lO Zd.1 Zd.2
  obtain ⟨⟨b1,b2⟩,b3,b4⟩:=Zd.1
  dsimp only at b1 b2 b3 b4
  refine iT rfl rfl<|vE rfl (fun η=>az (i:=j) η Tryz.underlying22 (aC.size) rfl rfl ae rfl σ.bC.1)<|cE rfl (fun η=>bF (v:=#[aq pa,aq pb]) (i:=j) (e:=(pa,pb)) η aC rfl rfl ft σ.bC.1 ae b5 rfl)<|eE rfl<|eL bp σ rfl fun _ eZ σ=>eE rfl<|cX 0 σ rfl fun _ σ=>gE 0 σ rfl<|eE rfl<|dx Tryz.call174 (wb Zd.1 Zd.2) σ rfl fun _ σ=>xD (j:=1) rfl ae<|fX (fun mz l w=>∃x:Nat,∃A3:Option Addr,∃c3:Nat,∃n3:Nat,∃zk:List IE,n0 - 1 - x=mz/\l=[(39,ak x),(1,.slice A1 n0 c1),(4,bB bJ),(5,ak n0),(6,bB cJ),(7,ak j),(8,bB eZ),(9,aq ((bz (pa,pb)).1)),(23,.slice A0 n0 c0),(24,ak n0),(25,ak j),(38,ak (n0 - 1))]/\St w0 w [bk cJ #[ak n0,.slice A3 n3 c3,.slice B2 j d2] 264,aad A3 n3 c3 zk,bk eZ #[aq pa,aq pb] 61,aa1 B2 j d2 ((es0.take j).map whole),bk bJ #[aq 0,aq 0,bA,bA] 28] [bE A1 n0 c1 (iS n0),u3 A0 n0 c0 es0]/\x<=n0 - 1/\zk++Ng ((j:Nat):Int) (bz (pa,pb)).1 (n0 - 1 - x)=dL++Ng ((j:Nat):Int) (bz (pa,pb)).1 (n0 - 1)/\zk.length=n3/\n3<=14*j+x) ⟨0,A2,c2,n2,dL,rfl,rfl,σ.pick [1,2,0,3,4] [0,1] ai,(bm _),rfl,jb,ae⟩ ay ?_
  rintro _ _ _ ⟨x,A3,c3,n3,zk,rfl,rfl,σ,hx,hi3,sH,tW⟩
  refine ei rfl<|wD (fun qx=>?_) fun qx=>?_
  ·refine iT rfl rfl<|?_
   replace σ:=σ.pack 2
   refine eE rfl<|cS Tryz.call175 (yk (σ.bO (k:=0) rfl []) sH ae) rfl ?_
   rintro _ _ ⟨GD,D4,n58,rfl,RO,agV⟩
   refine ⟨_,rfl,?_⟩
   replace σ:=σ.j4 (k:=0) rfl RO
   have amh:=yj ((j:Nat):Int) ((bz (pa,pb)).1)
   have acu:(zk++tY ((j:Nat):Int) ((bz (pa,pb)).1)).length=n58:=agV
   rw [aP,sH] at acu
   replace σ:=σ.unpack
   exact can (j:=1) rfl ae<|dF ⟨x+1,GD,D4,n58,(zk++tY ((j:Nat):Int) ((bz (pa,pb)).1)),rfl,rfl,σ,ae,(by have h9:=hi3; rw [show n0 - 1 - x=(n0 - 1 - (x+1))+1 by omega,Ng,<- cG] at h9; exact h9),agV,ae⟩ ay ae
  ·have ami:dL++Ng ((j:Nat):Int) (bz (pa,pb)).1 (n0 - 1)=zk:=by rw [<- hi3,show n0 - 1 - x=0 by omega]; exact fv _
   refine iF rfl rfl<|gY [15,18] [0,4,8,12,17,20,25,28,32,36,41,44,48,52,58,62,64,68,74] aK σ fun _ σ=>lS 0 rfl<|lS 2 rfl<|vE rfl (fun η=>kf (m:=pa) (n:=(bz (pa,pb)).1) η rfl rfl ae (gV ae))<|lS 2 rfl<|vE rfl (fun η=>kf (m:=pb) (n:=(bz (pa,pb)).1) η rfl rfl ae (gV ae))<|vE rfl (fun η=>cK (c:=#[aq (pa.tdiv ((bz (pa,pb)).1)),aq (pb.tdiv ((bz (pa,pb)).1))]) eA η rfl rfl)<|eS rfl<|lr (z:=2) #[aq (pa.tdiv ((bz (pa,pb)).1)),aq (pb.tdiv ((bz (pa,pb)).1))] σ (aC.size) bp rfl aK fun _ GF σ=>sk (σ.kd 1 0)<|eS rfl<|pT (new:=[((pa.tdiv ((bz (pa,pb)).1)),(pb.tdiv ((bz (pa,pb)).1)))]) 4 0 σ jN rfl (by unfold maxLen; omega) ae fun _ g62 Wn σ=>sz rfl<|?_
   replace σ:=σ
   refine eS rfl<|j0 1 σ rfl fun _ σ=>sz rfl<|?_
   rw [show ([((pa.tdiv (bz (pa,pb)).1),(pb.tdiv (bz (pa,pb)).1))]:List Pt)=[whole (pa,pb)] from rfl,WA b5] at σ
   exact can (j:=1) rfl ae<|dF ⟨j+1,A3,c3,n3,zk,(bh g62),Wn,rfl,rfl,σ.pick [1,2,4,5] [0,1] ai,ae,(by have h9:=hi; rw [acr b5,<- cG,ami] at h9; exact h9),sH,ae⟩ ay ae
 ·obtain rfl:n0=j:=ae
  refine iF rfl rfl<|?_
  rw [bD (show es0.length<=n0 by omega)] at σ
  replace σ:=σ.eH (k:=2) rfl (by rw [aZ]; exact a8)
  have iI:dL=Nh n0 0 es0:=by rw [<- hi,dM ae]; exact (fv _).symm
  refine fX (fun mz l w=>∃y:Nat,∃A4:Option Addr,∃c4:Nat,∃n4:Nat,∃Up:List IE,n0 - y=mz/\l=[(67,ak y),(1,.slice A1 n0 c1),(4,bB bJ),(5,ak n0),(6,bB cJ),(65,.slice A1 n0 c1),(66,ak n0)]/\St w0 w [bk cJ #[ak n0,.slice A4 n4 c4,.slice B2 n0 d2] 264,aad A4 n4 c4 Up,bk bJ #[aq 0,aq 0,bA,bA] 28] [u3 B2 n0 d2 (es0.map whole),bE A1 n0 c1 (iS n0),u3 A0 n0 c0 es0]/\y<=n0/\Up++Ot n0 y ((es0.map whole).drop y)=dL++Ot n0 0 (es0.map whole)/\Up.length=n4/\n4<=14*n0+300*y) ⟨0,A2,c2,n2,dL,rfl,rfl,σ,(bm _),rfl,jb,ae⟩ ay ?_
  rintro _ _ _ ⟨y,A4,c4,n4,Up,rfl,rfl,σ,hy,hi4,KD,nD⟩
  refine ei rfl<|wD (fun HN=>?_) fun HN=>?_
  ·have cD:y<n0:=ae
   obtain ⟨⟨pa,pb⟩,iH⟩:∃e,es0[y]?=some e:=⟨_,aw ae⟩
   refine iT rfl rfl<|vE rfl (fun η=>az (i:=y) η Tryz.underlying26 (aD.size) rfl rfl ae rfl σ.bC.1)<|cE rfl (fun η=>aJ (i:=y) (j:=0) (e:=((y:Nat):Int)) η aD rfl rfl bn ai σ.bC.1 ae (yl cD) rfl)<|can (j:=1) rfl ae<|?_
   refine vE rfl (fun η=>sV (m:=y+1) (z:=1) η Tryz.underlying26 (aD.size) rfl rfl ae)<|?_
   replace σ:=σ.rowFrom (i:=1) rfl (y+1) bn ae
   refine xD (j:=1) rfl ae<|xD rfl ae<|?_
   replace σ:=σ.pack 2
   refine eE rfl<|cS Tryz.call176 (Ww (pa:=(whole (pa,pb)).1) (pb:=(whole (pa,pb)).2) (k:=y) (q:=n0 - 1 - y) (i0:=y+1) (ls:=(iS n0).drop (y+1)) (σ.bO (k:=0) rfl [1,0]) KD (by have:=fG (show n0 - 1 - y+4<=18 by omega) (show n0 - (y+1)<=14 by omega); omega) rO hwn Uo (fun x hx=>by rw [List.getElem?_drop]; exact yl ae) ae ae (LH iH)) rfl ?_
   rintro _ _ ⟨V1,V2,n67,rfl,DY,DZ⟩
   refine ⟨_,rfl,?_⟩
   replace σ:=σ.j4 (k:=0) rfl DY
   have RA:=(bq (DK n0 (whole (pa,pb)) ((y:Nat):Int) (n0 - 1 - y) ((es0.map whole).drop (y+1)) (y+1)) (fG (show n0 - 1 - y+3<=17 by omega) (show ((es0.map whole).drop (y+1)).length<=14 by rw [j6,rO]; omega)))
   have Ai:(Up++Cn n0 (whole (pa,pb)) ((y:Nat):Int) (n0 - 1 - y) (y+1) ((es0.map whole).drop (y+1))).length=n67:=DZ
   rw [aP,KD] at Ai
   replace σ:=σ.unpack
   exact can (j:=1) rfl ae<|dF ⟨y+1,V1,V2,n67,(Up++Cn n0 (whole (pa,pb)) ((y:Nat):Int) (n0 - 1 - y) (y+1) ((es0.map whole).drop (y+1))),rfl,rfl,σ.pick [0,1,2] [1,2,3] ai,ae,(by have h9:=hi4; rw [acs (LH iH) rO,<- cG] at h9; exact h9),DZ,ae⟩ ay ae
  ·have amj:Up=dL++Ot n0 0 (es0.map whole):=by rw [<- hi4,dM (by rw [rO]; omega)]; exact (fv _).symm
   refine iF rfl rfl<|gY [8] [0,4,12,16,20,24,29,10,34] aK σ fun _ σ=>xD (j:=1) rfl ae<|vE rfl (fun η=>az (i:=n0 - 1) η Tryz.underlying26 (aD.size) rfl rfl ae rfl σ.bC.1)<|sE rfl (fun η hg=>aJ (i:=n0 - 1) (j:=0) (e:=((n0 - 1:Nat):Int)) η aD rfl rfl bn ai (hg.pt (j:=1) rfl).1 ae (yl ae) rfl)<|eS rfl<|dx Tryz.call178 (jC (n:=n0) (j:=0) σ.dm ae) σ rfl fun _ σ=>sk σ.kn<|?_
   replace σ:=σ.pack 2
   refine eS rfl<|cS Tryz.call177 (dZ (σ.bO (k:=0) rfl []) KD ae) rfl ?_
   rintro _ _ ⟨Uh,Ui,n72,rfl,RC,Gx⟩
   refine ⟨_,rfl,?_⟩
   replace σ:=σ.j4 (k:=0) rfl RC
   have RD:=ef (pl n0 0) ((n0 - 1:Nat):Int) (1:Int)
   have Al:(Up++gy (pl n0 0) ((n0 - 1:Nat):Int) (1:Int)).length=n72:=Gx
   rw [aP,KD] at Al
   replace σ:=σ.unpack
   refine sz rfl<|yf rfl ae<|fX (fun mz l w=>∃mj:Nat,∃z:Int,∃A5:Option Addr,∃c5:Nat,∃n5:Nat,∃Ze:List IE,mj=mz/\l=[(15,aq z),(1,.slice A1 n0 c1),(4,bB bJ),(5,ak n0),(6,bB cJ)]/\St w0 w [bk cJ #[ak n0,.slice A5 n5 c5,.slice B2 n0 d2] 264,aad A5 n5 c5 Ze,bk bJ #[aq 0,aq 0,bA,bA] 28] [u3 B2 n0 d2 (es0.map whole),bE A1 n0 c1 (iS n0),u3 A0 n0 c0 es0]/\z=((mj:Nat):Int) - 1/\mj<=n0 - 1/\Ze++EH n0 (es0.map whole) mj=nS es0/\Ze.length=n5/\n5+800*mj<=30000) ⟨(n0 - 1),(((n0:Nat):Int) - (2:Int)),Uh,Ui,n72,(Up++gy (pl n0 0) ((n0 - 1:Nat):Int) (1:Int)),rfl,rfl,σ,ae,(aY _),(by rw [Wz a8 ae,amj,iI]; simp only [cG]),Gx,ae⟩ ay ?_
   rintro _ _ _ ⟨mj,z,A5,c5,n5,Ze,rfl,rfl,σ,hz,hm,hi5,hl5,MS⟩
   refine xd rfl<|wD (fun h75=>?_) fun h75=>?_
   ·obtain ⟨m2,rfl⟩:∃m2,mj=m2+1:=⟨mj-1,by omega⟩
    obtain rfl:z=((m2:Nat):Int):=ae
    obtain ⟨⟨pa,pb⟩,Cp⟩:∃e,es0[m2]?=some e:=⟨_,aw ae⟩
    refine iT rfl rfl<|vE rfl (fun η=>az (i:=m2) η Tryz.underlying26 (aD.size) rfl rfl ae rfl σ.bC.1)<|cE rfl (fun η=>aJ (i:=m2) (j:=0) (e:=((m2:Nat):Int)) η aD rfl rfl bn ai σ.bC.1 ae (yl ae) rfl)<|xD (j:=1) rfl ae<|xD rfl ae<|?_
    replace σ:=σ.pack 2
    refine eE rfl<|cS Tryz.call179 (Wx (pa:=(whole (pa,pb)).1) (pb:=(whole (pa,pb)).2) (k:=m2) (q:=n0 - 1 - m2) (σ.bO (k:=0) rfl [0]) hl5 ae rO hwn Uo ae ae ae (LH Cp)) rfl ?_
    rintro _ _ ⟨A76,c77,n78,rfl,acx,WC⟩
    refine ⟨_,rfl,?_⟩
    replace σ:=σ.j4 (k:=0) rfl acx
    have aml:=Lh (n:=n0) (p:=whole (pa,pb)) (k:=((m2:Nat):Int)) (e:=n0 - 1 - m2) ae
    have acy:(Ze++IL n0 (whole (pa,pb)) ((m2:Nat):Int) (n0 - 1 - m2)).length=n78:=WC
    rw [aP,hl5] at acy
    replace σ:=σ.unpack
    exact yf rfl ae<|dF ⟨m2,(((m2:Nat):Int) - (1:Int)),A76,c77,n78,(Ze++IL n0 (whole (pa,pb)) ((m2:Nat):Int) (n0 - 1 - m2)),rfl,rfl,σ,rfl,ae,(by have h9:=hi5; rw [EH,aF,LH Cp,<- cG] at h9; exact h9),WC,ae⟩ ay ae
   ·obtain rfl:mj=0:=ae
    have amm:Ze=nS es0:=by rw [<- hi5]; exact (fv _).symm
    refine iF rfl rfl<|Nl (i:=3) rfl ae<|can (j:=1) rfl ae<|lE 0 σ rfl<|vE rfl (fun η=>cK (c:=#[ak n0,ak ((3*n0)+1),.slice A5 n5 c5,bA]) eM η rfl rfl)<|eE rfl<|eL bf σ rfl fun _ g81 σ=>eE rfl<|cX 0 σ rfl fun _ σ=>?_
    replace σ:=(σ.cl ar 3 1)
    refine fX (fun mz l w=>∃v:Nat,∃B6:Option Addr,∃d6:Nat,n0 - v=mz/\l=[(119,ak v),(4,bB bJ),(6,bB cJ),(16,bB g81),(118,ak n0)]/\St w0 w [bk g81 #[ak n0,ak ((3*n0)+1),.slice A5 n5 c5,.slice B6 v d6] 28,aab B6 v d6 ((List.range v).map (pl n0)),bk cJ #[ak n0,.slice A5 n5 c5,.slice B2 n0 d2] 264,aad A5 n5 c5 Ze,bk bJ #[aq 0,aq 0,bA,bA] 28] [u3 B2 n0 d2 (es0.map whole),bE A1 n0 c1 (iS n0),u3 A0 n0 c0 es0]/\v<=n0) ⟨0,none,0,rfl,rfl,σ.pick [1,0,2,3,4] [0,1,2] ai,(bm _)⟩ ay ?_
    rintro _ _ _ ⟨v,B6,d6,rfl,rfl,σ,hv⟩
    refine ei rfl<|wD (fun Wu=>?_) fun Wu=>?_
    ·refine iT rfl rfl<|gY [6,8] [0,5,8,12,18,22,26,28,34] aK σ fun _ σ=>lS 0 rfl<|eS rfl<|dx Tryz.call178 (jC (n:=n0) (j:=v) σ.lY ae) σ rfl fun _ σ=>sk σ.kn<|eS rfl<|lr (z:=1) #[aq (pl n0 v)] σ (aD.size) dc rfl aK fun _ g83 σ=>sk (σ.kd 1 0)<|eS rfl<|pT (new:=[(pl n0 v)]) 2 0 σ du rfl (by unfold maxLen; omega) ae fun _ g84 c85 σ=>sz rfl<|?_
     rw [RN] at σ
     exact eS rfl<|j0 1 σ rfl fun _ σ=>sz rfl<|can (j:=1) rfl ae<|dF ⟨v+1,(bh g84),c85,rfl,rfl,σ.pick [1,2,3,4,5] [0,1,2] ai,ae⟩ ay ae
    ·obtain rfl:n0=v:=ae
     exact iF rfl rfl<|gE 0 σ rfl<|eE rfl<|cX 4 σ rfl fun _ σ=>oR (fun e=>dA Tryz.results132 (RV.cell e aO rfl (σ.nA (k:=4) rfl) rfl))<|by rw [<- amm]; exact ⟨_,_,_,_,_,rfl,σ.pick [3,1] [] ai,hl5⟩
section
variable {P:Program} {X:Cx P} {w w0:World} {l:List (Nat×Value)} {own ps:List PF} {d:Nat} {x y:Operand} {C:World->List (Nat×Value)->Prop} {q:Value->Bool} {t T E n z c c0:Nat} {A B:Option Addr} {vs:List Value}
theorem aZE (j:Nat) (hs:St w0 w own ps) (hE:∃i,P.info? E=some i/\i.size=z) (e:(Nat.blt d X.N,X.T.ty t,bV l x,bV l y,own[j]?)=(true,.sl E,some (.slice A n c0),some (.slice B 0 c),some (av q E z A n c0 vs))) (h:C w ((d,.slice A n c0)::l)):WE X w l (.call ⟨.builtin .append,#[x,y],#[t,t]⟩) (some d) C:=by
 have ht:=X.T.tyOk t
 simp only [ji] at e
 obtain ⟨e1,e2,e3,e4,e5⟩:=e
 rw [e2] at ht
 exact ⟨fun h1 hC=>Fp h1 hs e1 ht.2 hE e3 e4 e5 fun a' h'=>hC a' w _ h h'⟩
theorem b0E (z:Nat) (hs:St w0 w own ps) (hE:∃i,P.info? E=some i/\i.size=z) (e:(Nat.blt d X.N,X.T.ty T)=(true,.sl E)) (h:∀w' g,St w0 w' (av ar E z (bh g) 0 0 []::own) ps->C w' ((d,.slice (bh g) 0 0)::l)):WE X w l (.buildSlice T 0 #[]) (some d) C:=by
 have ht:=X.T.tyOk T
 simp only [ji] at e
 obtain ⟨e1,e2⟩:=e
 rw [e2] at ht
 exact ⟨fun h1 hC=>rk h1 hs e1 ht.2 hE fun a' w' g h' qq=>hC a' w' _ (h w' g (qq.PS (k:=0) rfl z)) h'⟩
end
theorem LI {α:Type} {es fs:List α} {j:Nat} (h:∀x,x<j->es[x]?=fs[x]?) (he:es[j]?=fs[j]?):∀x,x<j+1->es[x]?=fs[x]?:=fun x hx=>by
 rcases dr x j with c | c
 ·exact h x c
 ·obtain rfl:x=j:=ae
  exact he
theorem RQ {α:Type} {es fs:List α} {n:Nat} (h1:es.length=n) (h2:fs.length=n) (h:∀x,x<n->es[x]?=fs[x]?):es=fs:=kV fun i=>by
 rcases dr i n with c | c
 ·exact h i c
 ·rw [dz ae,dz ae]
theorem pY {op tr ra rb cn g:Int} (h:cN (op,tr,ra,rb,cn) g):∀x∈cP op ra rb,0<=x/\x<g:=fun x hx=>by
 unfold cN at h
 dsimp only at h
 unfold cP at hx
 split at hx
 ·rcases dW.1 hx with rfl | hx
  ·omega
  ·rw [cC.1 hx]; omega
 ·split at hx
  ·rw [cC.1 hx]; omega
  ·cases hx
theorem St.EH {w0 w:World} {own ps:List PF} {α:Type} {f:α->List Value} {k g n:Nat} {c:Array Value} {E:TypeId} {es:List α} (h:St w0 w own ps) (hk:own[k]?=some (bk g c E)) (hc:c.toList=fl f es) (hz:∀e,(f e).length=1) (hl:es.length=n) (hm:n<=maxLen) (hq:c.toList.all ar=true):St w0 w (own.set k (av ar E 1 (bh g) n n (fl f es))) ps:=by
 have hg:=h.nA hk
 have mn:c.size=n:=by rw [<- mO,hc,jo hz,hl,tg]
 refine h.mf hk ⟨⟨?_,.inr ⟨g,n,c,rfl,bm _,hg,aY _,hm,by omega,?_⟩⟩,fun g' sS=>?_⟩ (fun b hb=>.inl ?_) rfl rfl rfl (aY _) fun _ _ _=>rfl
 ·rw [jo hz,hl]
 ·rw [hc,bD (by rw [jo hz,hl]; exact aY _)]
 ·obtain rfl:g=g':=by simpa [Value.ownBlock] using sS
  exact ⟨c,hg,hq⟩
 ·obtain ⟨a,ha,rfl⟩:=jz hb
  cases ha
  rfl
theorem Zf (l:List Int):(fl fI l).all (·.oneCell')=true/\(fl fI l).all ar=true:=by
 induction l with
 | nil=>exact ⟨rfl,rfl⟩
 | cons x l ih=>exact ⟨ih.1,ih.2⟩
theorem Zg (l:List IE):(fl fJ l).all (·.oneCell')=true/\(fl fJ l).all ar=true:=by
 induction l with
 | nil=>exact ⟨rfl,rfl⟩
 | cons x l ih=>exact ⟨ih.1,ih.2⟩
theorem acz {w0:World} {op:Int}:
  Calls Tryz.prog 119 #[aq op] w0 fun e w'=>e=.returned (.bool (decide (op=3∨op=4)))/\Below w0.heap.size w0 w':=by
 refine dp Tryz.func119 rfl Tryz.ntmps119 rfl fun σ=>cZ rfl<|wQ (fun iz=>?_) fun iz=>?_
 ·exact o1 Tryz.results119 rfl<|⟨aM (fun b=>Ending.returned (Value.bool b)) (vC.2 (by simp; try omega)),σ.below⟩
 ·exact cZ rfl<|o1 Tryz.results119 rfl<|⟨aM (fun b=>Ending.returned (Value.bool b)) (vC.2 (by simp; try omega)),σ.below⟩
theorem xh {w0:World} {op tr ra rb cn:Int} {g:Int} (hM:cN (op,tr,ra,rb,cn) g):
  Calls Tryz.prog 120 #[.agg #[aq op,aq tr,aq ra,aq rb,aq cn]] w0 fun e w'=>e=.returned (.bool true)/\Below w0.heap.size w0 w':=by
 unfold cN at hM
 dsimp only at hM
 have U7:=hM
 refine dp Tryz.func120 rfl Tryz.ntmps120 rfl fun σ=>eE rfl<|gN σ rfl fun _ bJ σ=>lE 0 σ rfl<|cZ rfl<|wQ (fun jG=>?_) fun jG=>?_
 ·exact iT rfl rfl<|iT rfl rfl<|lE 0 σ rfl<|ir rfl<|kB (b':=true) (bne_iff_ne.2 ae)<|lE 0 σ rfl<|xd rfl<|kB (b':=true) (dU ae)<|lE 0 σ rfl<|IZ rfl<|o1 Tryz.results120 rfl<|⟨aM (fun b=>Ending.returned (Value.bool b)) (dU ae),σ.below⟩
 ·refine iF rfl rfl<|cZ rfl<|wQ (fun lU=>?_) fun lU=>?_
  ·exact iT rfl rfl<|lE 0 σ rfl<|ir rfl<|kB (b':=true) (bne_iff_ne.2 ae)<|lE 0 σ rfl<|xd rfl<|kB (b':=true) (dU ae)<|lE 0 σ rfl<|IZ rfl<|o1 Tryz.results120 rfl<|⟨aM (fun b=>Ending.returned (Value.bool b)) (dU ae),σ.below⟩
  ·refine iF rfl rfl<|cZ rfl<|wQ (fun pV=>?_) fun pV=>?_
   ·exact iT rfl rfl<|iT rfl rfl<|lE 0 σ rfl<|xd rfl<|kB (b':=true) (dU ae)<|lE 0 σ rfl<|IZ rfl<|o1 Tryz.results120 rfl<|⟨aM (fun b=>Ending.returned (Value.bool b)) (dU ae),σ.below⟩
   ·refine iF rfl rfl<|cZ rfl<|wQ (fun qx=>?_) fun qx=>?_
    ·exact iT rfl rfl<|lE 0 σ rfl<|xd rfl<|kB (b':=true) (dU ae)<|lE 0 σ rfl<|IZ rfl<|o1 Tryz.results120 rfl<|⟨aM (fun b=>Ending.returned (Value.bool b)) (dU ae),σ.below⟩
    ·exact iF rfl rfl<|lE 0 σ rfl<|cZ rfl<|o1 Tryz.results120 rfl<|⟨aM (fun b=>Ending.returned (Value.bool b)) (uh.2 ae),σ.below⟩
theorem mB {w0:World} {op tr ra rb cn:Int} (h18:1<=op/\op<=8):
  Calls Tryz.prog 121 #[.agg #[aq op,aq tr,aq ra,aq rb,aq cn]] w0 fun e w'=>∃A c n,e=.returned (.slice A n c)/\St w0 w' [aab A n c (cP op ra rb)] []/\(cP op ra rb).length=n:=by
 refine dp Tryz.func121 rfl Tryz.ntmps121 rfl fun σ=>eE rfl<|gN σ rfl fun _ bJ σ=>lE 0 σ rfl<|cZ rfl<|wQ (fun jG=>?_) fun jG=>?_
 ·refine iT rfl rfl<|iT rfl rfl<|lE 0 σ rfl<|lE 0 σ rfl<|eE rfl<|lr (z:=1) #[aq ra,aq rb] σ (aD.size) dc rfl aK fun _ fo σ=>o1 Tryz.results121 rfl<|?_
  replace σ:=σ.EH (f:=fI) (k:=0) (n:=2) (es:=[ra,rb]) rfl rfl bn rfl ai rfl
  exact by rw [show cP op ra rb=[ra,rb] by unfold cP; rw [aR ae]]; exact ⟨_,_,_,rfl,σ.pick [0] [] ai,rfl⟩
 ·refine iF rfl rfl<|cZ rfl<|wQ (fun pV=>?_) fun pV=>?_
  ·refine iT rfl rfl<|lE 0 σ rfl<|lE 0 σ rfl<|eE rfl<|lr (z:=1) #[aq ra,aq rb] σ (aD.size) dc rfl aK fun _ oo σ=>o1 Tryz.results121 rfl<|?_
   replace σ:=σ.EH (f:=fI) (k:=0) (n:=2) (es:=[ra,rb]) rfl rfl bn rfl ai rfl
   exact by rw [show cP op ra rb=[ra,rb] by unfold cP; rw [aR ae]]; exact ⟨_,_,_,rfl,σ.pick [0] [] ai,rfl⟩
  ·refine iF rfl rfl<|cZ rfl<|wQ (fun wa=>?_) fun wa=>?_
   ·refine iT rfl rfl<|iT rfl rfl<|lE 0 σ rfl<|eE rfl<|lr (z:=1) #[aq ra] σ (aD.size) dc rfl aK fun _ u5 σ=>o1 Tryz.results121 rfl<|?_
    replace σ:=σ.EH (f:=fI) (k:=0) (n:=1) (es:=[ra]) rfl rfl bn rfl ai rfl
    exact by rw [show cP op ra rb=[ra] by unfold cP; rw [aQ ae,aR ae]]; exact ⟨_,_,_,rfl,σ.pick [0] [] ai,rfl⟩
   ·refine iF rfl rfl<|cZ rfl<|wQ (fun rB=>?_) fun rB=>?_
    ·refine iT rfl rfl<|iT rfl rfl<|lE 0 σ rfl<|eE rfl<|lr (z:=1) #[aq ra] σ (aD.size) dc rfl aK fun _ B4 σ=>o1 Tryz.results121 rfl<|?_
     replace σ:=σ.EH (f:=fI) (k:=0) (n:=1) (es:=[ra]) rfl rfl bn rfl ai rfl
     exact by rw [show cP op ra rb=[ra] by unfold cP; rw [aQ ae,aR ae]]; exact ⟨_,_,_,rfl,σ.pick [0] [] ai,rfl⟩
    ·refine iF rfl rfl<|cZ rfl<|wQ (fun xg=>?_) fun xg=>?_
     ·refine iT rfl rfl<|iT rfl rfl<|lE 0 σ rfl<|eE rfl<|lr (z:=1) #[aq ra] σ (aD.size) dc rfl aK fun _ GF σ=>o1 Tryz.results121 rfl<|?_
      replace σ:=σ.EH (f:=fI) (k:=0) (n:=1) (es:=[ra]) rfl rfl bn rfl ai rfl
      exact by rw [show cP op ra rb=[ra] by unfold cP; rw [aQ ae,aR ae]]; exact ⟨_,_,_,rfl,σ.pick [0] [] ai,rfl⟩
     ·refine iF rfl rfl<|cZ rfl<|wQ (fun Jd=>?_) fun Jd=>?_
      ·refine iT rfl rfl<|iT rfl rfl<|lE 0 σ rfl<|eE rfl<|lr (z:=1) #[aq ra] σ (aD.size) dc rfl aK fun _ WD σ=>o1 Tryz.results121 rfl<|?_
       replace σ:=σ.EH (f:=fI) (k:=0) (n:=1) (es:=[ra]) rfl rfl bn rfl ai rfl
       exact by rw [show cP op ra rb=[ra] by unfold cP; rw [aQ ae,aR ae]]; exact ⟨_,_,_,rfl,σ.pick [0] [] ai,rfl⟩
      ·refine iF rfl rfl<|cZ rfl<|wQ (fun HN=>?_) fun HN=>?_
       ·refine iT rfl rfl<|iT rfl rfl<|lE 0 σ rfl<|eE rfl<|lr (z:=1) #[aq ra] σ (aD.size) dc rfl aK fun _ Ox σ=>o1 Tryz.results121 rfl<|?_
        replace σ:=σ.EH (f:=fI) (k:=0) (n:=1) (es:=[ra]) rfl rfl bn rfl ai rfl
        exact by rw [show cP op ra rb=[ra] by unfold cP; rw [aQ ae,aR ae]]; exact ⟨_,_,_,rfl,σ.pick [0] [] ai,rfl⟩
       ·refine iF rfl rfl<|cZ rfl<|wQ (fun h66=>?_) fun h66=>?_
        ·refine iT rfl rfl<|lE 0 σ rfl<|eE rfl<|lr (z:=1) #[aq ra] σ (aD.size) dc rfl aK fun _ g67 σ=>o1 Tryz.results121 rfl<|?_
         replace σ:=σ.EH (f:=fI) (k:=0) (n:=1) (es:=[ra]) rfl rfl bn rfl ai rfl
         exact by rw [show cP op ra rb=[ra] by unfold cP; rw [aQ ae,aR ae]]; exact ⟨_,_,_,rfl,σ.pick [0] [] ai,rfl⟩
        ·omega
theorem acB {w0:World} {op tr ra rb cn:Int} {g:Int} (hM:cN (op,tr,ra,rb,cn) g):
  Calls Tryz.prog 78 #[.agg #[aq op,aq tr,aq ra,aq rb,aq cn],aq g] w0 fun e w'=>e=.returned (.bool true)/\Below w0.heap.size w0 w':=by
 have hM9:=hM
 unfold cN at hM
 dsimp only at hM
 have U7:=hM
 refine dp Tryz.func78 rfl Tryz.ntmps78 rfl fun σ=>eE rfl<|gN σ rfl fun _ bJ σ=>lE 0 σ rfl<|ei rfl<|kB (b':=false) (bR ae)<|lE 0 σ rfl<|pd rfl<|kB (b':=false) (bR ae)<|lE 0 σ rfl<|ei rfl<|kB (b':=false) (bR ae)<|lE 0 σ rfl<|xd rfl<|kB (b':=false) (bR ae)<|lE 0 σ rfl<|eE rfl<|dx Tryz.call119 (acz (op:=op)) σ rfl fun _ σ=>wD (fun jG=>?_) fun jG=>?_
 ·refine gE 0 σ rfl<|eE rfl<|dx Tryz.call120 (xh hM9) σ rfl fun _ σ=>iF rfl rfl<|gE 0 σ rfl<|eE rfl<|cS Tryz.call121 (mB (op:=op) (tr:=tr) (ra:=ra) (rb:=rb) (cn:=cn) ae) rfl ?_
  rintro _ _ ⟨oK,nv,n55,rfl,tO,xF⟩
  refine ⟨_,rfl,?_⟩
  replace σ:=σ.more tO
  have RL:=kJ op ra rb
  refine fX (fun mz l w=>∃j:Nat,n55 - j=mz/\l=[(45,ak j),(1,aq g),(43,.slice oK n55 nv),(44,ak n55)]/\St w0 w [aab oK n55 nv (cP op ra rb),bk bJ #[aq op,aq tr,aq ra,aq rb,aq cn] 116] []/\j<=n55) ⟨0,rfl,rfl,σ,(bm _)⟩ ay ?_
  rintro _ _ _ ⟨j,rfl,rfl,σ,hj⟩
  refine ei rfl<|wD (fun u6=>?_) fun u6=>?_
  ·have cD:j<n55:=ae
   obtain ⟨x,b5⟩:∃e,(cP op ra rb)[j]?=some e:=⟨_,aw ae⟩
   have hx:=pY hM9 x (aB b5)
   exact iT rfl rfl<|vE rfl (fun η=>az (i:=j) η Tryz.underlying26 (aD.size) rfl rfl ae rfl (ax σ.dm))<|cE rfl (fun η=>aJ (i:=j) (j:=0) (e:=x) η aD rfl rfl bn ai (ax σ.dm) ae b5 rfl)<|ei rfl<|kB (b':=false) (bR ae)<|xd rfl<|kB (b':=false) (bR ae)<|iF rfl rfl<|can (j:=1) rfl ae<|dF ⟨j+1,rfl,rfl,σ,ae⟩ ay ae
  ·exact iF rfl rfl<|o1 Tryz.results78 rfl<|⟨rfl,σ.below⟩
 ·refine lE 0 σ rfl<|ir rfl<|kB (b':=false) (bne_eq_false_iff_eq.2 ae)<|gE 0 σ rfl<|eE rfl<|dx Tryz.call120 (xh hM9) σ rfl fun _ σ=>iF rfl rfl<|gE 0 σ rfl<|eE rfl<|cS Tryz.call121 (mB (op:=op) (tr:=tr) (ra:=ra) (rb:=rb) (cn:=cn) ae) rfl ?_
  rintro _ _ ⟨As,uc,n62,rfl,I4,atV⟩
  refine ⟨_,rfl,?_⟩
  replace σ:=σ.more I4
  have amq:=kJ op ra rb
  refine fX (fun mz l w=>∃j:Nat,n62 - j=mz/\l=[(45,ak j),(1,aq g),(43,.slice As n62 uc),(44,ak n62)]/\St w0 w [aab As n62 uc (cP op ra rb),bk bJ #[aq op,aq tr,aq ra,aq rb,aq cn] 116] []/\j<=n62) ⟨0,rfl,rfl,σ,(bm _)⟩ ay ?_
  rintro _ _ _ ⟨j,rfl,rfl,σ,hj⟩
  refine ei rfl<|wD (fun h66=>?_) fun h66=>?_
  ·have cD:j<n62:=ae
   obtain ⟨x,b5⟩:∃e,(cP op ra rb)[j]?=some e:=⟨_,aw ae⟩
   have hx:=pY hM9 x (aB b5)
   exact iT rfl rfl<|vE rfl (fun η=>az (i:=j) η Tryz.underlying26 (aD.size) rfl rfl ae rfl (ax σ.dm))<|cE rfl (fun η=>aJ (i:=j) (j:=0) (e:=x) η aD rfl rfl bn ai (ax σ.dm) ae b5 rfl)<|ei rfl<|kB (b':=false) (bR ae)<|xd rfl<|kB (b':=false) (bR ae)<|iF rfl rfl<|can (j:=1) rfl ae<|dF ⟨j+1,rfl,rfl,σ,ae⟩ ay ae
  ·exact iF rfl rfl<|o1 Tryz.results78 rfl<|⟨rfl,σ.below⟩
structure jc (i g:Int) (n0 n1:Nat) (es:List IE) (os:List Int):Prop where
 i1:1<=i/\i<=g/\g<=128
 ln:n0<=16384/\1<=n1/\n1<=128
 may:∀e∈es,cN e g
 out:∀r∈os,0<=r/\r<g
theorem iu {w0:World} {i g:Int} {A0 A1:Option Addr} {n0 c0 n1 c1:Nat} {es0:List IE} {es1:List Int} (h0:(jM A0 n0 c0 es0).P w0) (h1:(bE A1 n1 c1 es1).P w0) (bH:jc i g n0 n1 es0 es1):
  Calls Tryz.prog 41 #[.agg #[aq i,aq g,.slice A0 n0 c0,.slice A1 n1 c1]] w0 fun e w'=>e=.returned (.tuple #[aq 0,aq 0])/\Below w0.heap.size w0 w':=by
 have k1:=bH.i1
 have k2:=bH.ln
 refine dp Tryz.func41 rfl Tryz.ntmps41 rfl fun σ=>?_
 have a8:=h0.2.1
 have ic:=h0.1.cap
 have bW:=h0.1.big
 unfold maxLen at bW
 have cY:=h1.2.1
 have kY:=h1.1.cap
 have eC:=h1.1.big
 unfold maxLen at eC
 replace σ:=σ.aE h0
 replace σ:=σ.aE h1
 refine eE rfl<|gN σ rfl fun _ bJ σ=>lE 0 σ rfl<|ei rfl<|kB (b':=false) (bR ae)<|lE 0 σ rfl<|lE 0 σ rfl<|pd rfl<|kB (b':=false) (bR ae)<|lE 0 σ rfl<|pd rfl<|kB (b':=false) (bR ae)<|lE 0 σ rfl<|pd rfl<|kB (b':=false) (bR ae)<|lE 0 σ rfl<|ei rfl<|kB (b':=false) (bR ae)<|lE 0 σ rfl<|pd rfl<|kB (b':=false) (bR ae)<|iF rfl rfl<|lE 0 σ rfl<|fX (fun mz l w=>∃j:Nat,n1 - j=mz/\l=[(44,ak j),(1,bB bJ),(42,.slice A1 n1 c1),(43,ak n1)]/\St w0 w [bk bJ #[aq i,aq g,.slice A0 n0 c0,.slice A1 n1 c1] 28] [bE A1 n1 c1 es1,jM A0 n0 c0 es0]/\j<=n1) ⟨0,rfl,rfl,σ,(bm _)⟩ ay ?_
 rintro _ _ _ ⟨j,rfl,rfl,σ,hj⟩
 refine ei rfl<|wD (fun jG=>?_) fun jG=>?_
 ·have cD:j<n1:=ae
  obtain ⟨x,b5⟩:∃e,es1[j]?=some e:=⟨_,aw ae⟩
  have hx:=bH.out x (aB b5)
  exact iT rfl rfl<|vE rfl (fun η=>az (i:=j) η Tryz.underlying26 (aD.size) rfl rfl ae rfl σ.aU.1)<|cE rfl (fun η=>aJ (i:=j) (j:=0) (e:=x) η aD rfl rfl bn ai σ.aU.1 ae b5 rfl)<|ei rfl<|kB (b':=false) (bR ae)<|lE 0 σ rfl<|xd rfl<|kB (b':=false) (bR ae)<|iF rfl rfl<|can (j:=1) rfl ae<|dF ⟨j+1,rfl,rfl,σ,ae⟩ ay ae
 ·refine iF rfl rfl<|lE 0 σ rfl<|fX (fun mz l w=>∃k:Nat,n0 - k=mz/\l=[(60,ak k),(1,bB bJ),(58,.slice A0 n0 c0),(59,ak n0)]/\St w0 w [bk bJ #[aq i,aq g,.slice A0 n0 c0,.slice A1 n1 c1] 28] [bE A1 n1 c1 es1,jM A0 n0 c0 es0]/\k<=n0) ⟨0,rfl,rfl,σ,(bm _)⟩ ay ?_
  rintro _ _ _ ⟨k,rfl,rfl,σ,hk⟩
  refine ei rfl<|wD (fun lU=>?_) fun lU=>?_
  ·have cD:k<n0:=ae
   obtain ⟨⟨op,tr,ra,rb,cn⟩,iH⟩:∃e,es0[k]?=some e:=⟨_,aw ae⟩
   have hM:=bH.may _ (aB iH)
   exact iT rfl rfl<|vE rfl (fun η=>az (i:=k) η Tryz.underlying25 (an.size) rfl rfl ae rfl σ.bC.1)<|cE rfl (fun η=>bF (v:=#[aq op,aq tr,aq ra,aq rb,aq cn]) (i:=k) (e:=(op,tr,ra,rb,cn)) η an rfl rfl iR σ.bC.1 ae iH rfl)<|eE rfl<|eL aI σ rfl fun _ eZ σ=>eE rfl<|cX 0 σ rfl fun _ σ=>gE 0 σ rfl<|lE 1 σ rfl<|eE rfl<|dx Tryz.call78 (acB hM) σ rfl fun _ σ=>iF rfl rfl<|can (j:=1) rfl ae<|dF ⟨k+1,rfl,rfl,σ.pick [1] [0,1] ai,ae⟩ ay ae
  ·exact iF rfl rfl<|o2 Tryz.results41 rfl<|⟨rfl,σ.below⟩
theorem acC {w0:World} {A0 A1:Option Addr} {n0 c0 n1 c1:Nat} {es0:List IE} {es1:List IE} (h0:(jM A0 n0 c0 es0).P w0) (h1:(jM A1 n1 c1 es1).P w0):
  Calls Tryz.prog 66 #[.slice A0 n0 c0,.slice A1 n1 c1] w0 fun e w'=>e=.returned (.bool (decide (es0=es1)))/\Below w0.heap.size w0 w':=by
 refine dp Tryz.func66 rfl Tryz.ntmps66 rfl fun σ=>?_
 have a8:=h0.2.1
 have ic:=h0.1.cap
 have bW:=h0.1.big
 unfold maxLen at bW
 have cY:=h1.2.1
 have kY:=h1.1.cap
 have eC:=h1.1.big
 unfold maxLen at eC
 replace σ:=σ.aE h0
 replace σ:=σ.aE h1
 refine ir rfl<|wN (fun iz=>?_) fun iz=>?_
 ·exact iT rfl rfl<|o1 Tryz.results66 rfl<|⟨aM (fun b=>Ending.returned (Value.bool b)) (bR fun q=>by rw [q] at a8; omega).symm,σ.below⟩
 ·obtain rfl:n0=n1:=ae
  refine iF rfl rfl<|fX (fun mz l w=>∃j:Nat,n0 - j=mz/\l=[(13,ak j),(0,.slice A0 n0 c0),(1,.slice A1 n0 c1),(12,ak n0)]/\St w0 w [] [jM A1 n0 c1 es1,jM A0 n0 c0 es0]/\j<=n0/\∀x,x<j->es0[x]?=es1[x]?) ⟨0,rfl,rfl,σ,(bm _),(fun _ h=>absurd h (ks _))⟩ ay ?_
  rintro _ _ _ ⟨j,rfl,rfl,σ,hj,hq⟩
  refine ei rfl<|wD (fun jG=>?_) fun jG=>?_
  ·have cD:j<n0:=ae
   obtain ⟨⟨oa,ta,aa,ba,ca⟩,b5⟩:∃e,es0[j]?=some e:=⟨_,aw ae⟩
   obtain ⟨⟨ob,tb,ab_,bb,cb⟩,iH⟩:∃e,es1[j]?=some e:=⟨_,aw ae⟩
   refine iT rfl rfl<|gY [] [0,4,8,13,16,20,24,29,32] aK σ fun _ σ=>vE rfl (fun η=>az (i:=j) η Tryz.underlying25 (an.size) rfl rfl ae rfl σ.bC.1)<|sE rfl (fun η hg=>bF (v:=#[aq oa,aq ta,aq aa,aq ba,aq ca]) (i:=j) (e:=(oa,ta,aa,ba,ca)) η an rfl rfl iR (hg.pt (j:=1) rfl).1 ae b5 rfl)<|vE rfl (fun η=>az (i:=j) η Tryz.underlying25 (an.size) rfl rfl ae rfl σ.aU.1)<|sE rfl (fun η hg=>bF (v:=#[aq ob,aq tb,aq ab_,aq bb,aq cb]) (i:=j) (e:=(ob,tb,ab_,bb,cb)) η an rfl rfl iR (hg.pt (j:=0) rfl).1 ae iH rfl)<|vE rfl (fun η=>U9 [oa,ta,aa,ba,ca] [ob,tb,ab_,bb,cb] η aaJ rfl rfl rfl rfl)<|wB (fun lU=>?_) fun lU=>?_
   ·exact iT rfl rfl<|o1 Tryz.results66 rfl<|⟨aM (fun b=>Ending.returned (Value.bool b)) (bR fun q=>by rw [q,iH] at b5; cases b5; exact absurd lU cT).symm,σ.below⟩
   ·have hdd:oa=ob/\ta=tb/\aa=ab_/\ba=bb/\ca=cb:=by simpa using lU
    exact iF rfl rfl<|can (j:=1) rfl ae<|dF ⟨j+1,rfl,rfl,σ,ae,(LI hq (by rw [b5,iH]; obtain ⟨rfl,rfl,rfl,rfl,rfl⟩:=hdd; rfl))⟩ ay ae
  ·exact iF rfl rfl<|o1 Tryz.results66 rfl<|⟨aM (fun b=>Ending.returned (Value.bool b)) (dU (RQ a8 cY fun x hx=>hq x ae)).symm,σ.below⟩
theorem RR {w0:World} {A0 A1:Option Addr} {n0 c0 n1 c1:Nat} {es0:List Int} {es1:List Int} (h0:(bE A0 n0 c0 es0).P w0) (h1:(bE A1 n1 c1 es1).P w0):
  Calls Tryz.prog 67 #[.slice A0 n0 c0,.slice A1 n1 c1] w0 fun e w'=>e=.returned (.bool (decide (es0=es1)))/\Below w0.heap.size w0 w':=by
 refine dp Tryz.func67 rfl Tryz.ntmps67 rfl fun σ=>?_
 have a8:=h0.2.1
 have ic:=h0.1.cap
 have bW:=h0.1.big
 unfold maxLen at bW
 have cY:=h1.2.1
 have kY:=h1.1.cap
 have eC:=h1.1.big
 unfold maxLen at eC
 replace σ:=σ.aE h0
 replace σ:=σ.aE h1
 refine ir rfl<|wN (fun iz=>?_) fun iz=>?_
 ·exact iT rfl rfl<|o1 Tryz.results67 rfl<|⟨aM (fun b=>Ending.returned (Value.bool b)) (bR fun q=>by rw [q] at a8; omega).symm,σ.below⟩
 ·obtain rfl:n0=n1:=ae
  refine iF rfl rfl<|fX (fun mz l w=>∃j:Nat,n0 - j=mz/\l=[(13,ak j),(0,.slice A0 n0 c0),(1,.slice A1 n0 c1),(12,ak n0)]/\St w0 w [] [bE A1 n0 c1 es1,bE A0 n0 c0 es0]/\j<=n0/\∀x,x<j->es0[x]?=es1[x]?) ⟨0,rfl,rfl,σ,(bm _),(fun _ h=>absurd h (ks _))⟩ ay ?_
  rintro _ _ _ ⟨j,rfl,rfl,σ,hj,hq⟩
  refine ei rfl<|wD (fun jG=>?_) fun jG=>?_
  ·have cD:j<n0:=ae
   obtain ⟨xa,b5⟩:∃e,es0[j]?=some e:=⟨_,aw ae⟩
   obtain ⟨xb,iH⟩:∃e,es1[j]?=some e:=⟨_,aw ae⟩
   refine iT rfl rfl<|gY [] [0,4,8,13,16,20,24,29,32] aK σ fun _ σ=>vE rfl (fun η=>az (i:=j) η Tryz.underlying26 (aD.size) rfl rfl ae rfl σ.bC.1)<|sE rfl (fun η hg=>aJ (i:=j) (j:=0) (e:=xa) η aD rfl rfl bn ai (hg.pt (j:=1) rfl).1 ae b5 rfl)<|vE rfl (fun η=>az (i:=j) η Tryz.underlying26 (aD.size) rfl rfl ae rfl σ.aU.1)<|sE rfl (fun η hg=>aJ (i:=j) (j:=0) (e:=xb) η aD rfl rfl bn ai (hg.pt (j:=0) rfl).1 ae iH rfl)<|ir rfl<|wN (fun lU=>?_) fun lU=>?_
   ·exact iT rfl rfl<|o1 Tryz.results67 rfl<|⟨aM (fun b=>Ending.returned (Value.bool b)) (bR fun q=>by rw [q,iH] at b5; cases b5; omega).symm,σ.below⟩
   ·exact iF rfl rfl<|can (j:=1) rfl ae<|dF ⟨j+1,rfl,rfl,σ,ae,(LI hq (by rw [b5,iH]; rw [show xa=xb by omega]))⟩ ay ae
  ·exact iF rfl rfl<|o1 Tryz.results67 rfl<|⟨aM (fun b=>Ending.returned (Value.bool b)) (dU (RQ a8 cY fun x hx=>hq x ae)).symm,σ.below⟩
theorem GG {w0:World} {c0:Nat} {es0:List IE} (h0:(jM none 0 c0 es0).P w0):
  Calls Tryz.prog 93 #[.slice none 0 c0] w0 fun e w'=>∃A c,e=.returned (.slice A 0 c)/\St w0 w' [aad A 0 c es0] []:=by
 refine dp Tryz.func93 rfl Tryz.ntmps93 rfl fun σ=>?_
 have a8:=h0.2.1
 replace σ:=σ.aE h0
 refine vE rfl (fun η=>lB η Tryz.underlying25 rfl)<|iT rfl rfl<|o1 Tryz.results93 rfl<|?_
 obtain rfl:es0=[]:=jE a8
 replace σ:=(σ.cl ar 116 5)
 exact ⟨_,_,rfl,σ.pick [0] [] ai⟩
theorem GH {w0:World} {c0:Nat} {a0:Addr} {es0:List IE} (h0:(jM (some a0) 0 c0 es0).P w0):
  Calls Tryz.prog 93 #[.slice (some a0) 0 c0] w0 fun e w'=>∃A c,e=.returned (.slice A 0 c)/\St w0 w' [aad A 0 c es0] []:=by
 refine dp Tryz.func93 rfl Tryz.ntmps93 rfl fun σ=>?_
 have a8:=h0.2.1
 replace σ:=σ.aE h0
 refine vE rfl (fun η=>lB η Tryz.underlying25 rfl)<|iF rfl rfl<|eE rfl<|b0E 5 σ (an.size) rfl fun _ bJ σ=>?_
 refine eE rfl<|aZE 0 σ (an.size) rfl<|o1 Tryz.results93 rfl<|?_
 obtain rfl:es0=[]:=jE a8
 exact ⟨_,_,rfl,σ.pick [0] [] ai⟩
theorem GI {w0:World} {c0:Nat} {a0:Addr} {n0:Nat} {es0:List IE} (h0:(jM (some a0) n0 c0 es0).P w0) (hp:0<n0) (hn:n0<=100000):
  Calls Tryz.prog 93 #[.slice (some a0) n0 c0] w0 fun e w'=>∃A c,e=.returned (.slice A n0 c)/\St w0 w' [aad A n0 c es0] []:=by
 refine dp Tryz.func93 rfl Tryz.ntmps93 rfl fun σ=>?_
 have a8:=h0.2.1
 replace σ:=σ.aE h0
 refine vE rfl (fun η=>lB η Tryz.underlying25 rfl)<|iF rfl rfl<|eE rfl<|b0E 5 σ (an.size) rfl fun _ bJ σ=>?_
 replace σ:St w0 _ [aad (bh bJ) 0 0 ([]:List IE)] [jM (some a0) n0 c0 es0]:=σ
 refine eE rfl<|aRE 0 σ bT σ.aU.1 (Zg _).1 (Zg _).2 rfl ae (by unfold maxLen; omega) ae fun _ cJ wh σ=>o1 Tryz.results93 rfl<|?_
 rw [fz,iU] at σ
 exact by rw [fz]; exact ⟨_,_,rfl,σ.pick [0] [] ai⟩
theorem Nz {w0:World} {A0:Option Addr} {n0 c0:Nat} {es0:List IE} (h0:(jM A0 n0 c0 es0).P w0) (hn:n0<=100000):
  Calls Tryz.prog 93 #[.slice A0 n0 c0] w0 fun e w'=>∃A c,e=.returned (.slice A n0 c)/\St w0 w' [aad A n0 c es0] []:=by
 cases A0 with
 | none=>
  obtain rfl:n0=0:=uM h0 rfl
  exact GG h0
 | some a0=>
  rcases ed n0 with rfl | hp
  ·exact GH h0
  ·exact GI h0 hp hn
theorem GJ {w0:World} {c0:Nat} {es0:List Int} (h0:(bE none 0 c0 es0).P w0):
  Calls Tryz.prog 94 #[.slice none 0 c0] w0 fun e w'=>∃A c,e=.returned (.slice A 0 c)/\St w0 w' [aab A 0 c es0] []:=by
 refine dp Tryz.func94 rfl Tryz.ntmps94 rfl fun σ=>?_
 have a8:=h0.2.1
 replace σ:=σ.aE h0
 refine vE rfl (fun η=>lB η Tryz.underlying26 rfl)<|iT rfl rfl<|o1 Tryz.results94 rfl<|?_
 obtain rfl:es0=[]:=jE a8
 replace σ:=(σ.cl ar 3 1)
 exact ⟨_,_,rfl,σ.pick [0] [] ai⟩
theorem GK {w0:World} {c0:Nat} {a0:Addr} {es0:List Int} (h0:(bE (some a0) 0 c0 es0).P w0):
  Calls Tryz.prog 94 #[.slice (some a0) 0 c0] w0 fun e w'=>∃A c,e=.returned (.slice A 0 c)/\St w0 w' [aab A 0 c es0] []:=by
 refine dp Tryz.func94 rfl Tryz.ntmps94 rfl fun σ=>?_
 have a8:=h0.2.1
 replace σ:=σ.aE h0
 refine vE rfl (fun η=>lB η Tryz.underlying26 rfl)<|iF rfl rfl<|eE rfl<|b0E 1 σ (aD.size) rfl fun _ bJ σ=>?_
 refine eE rfl<|aZE 0 σ (aD.size) rfl<|o1 Tryz.results94 rfl<|?_
 obtain rfl:es0=[]:=jE a8
 exact ⟨_,_,rfl,σ.pick [0] [] ai⟩
theorem GL {w0:World} {c0:Nat} {a0:Addr} {n0:Nat} {es0:List Int} (h0:(bE (some a0) n0 c0 es0).P w0) (hp:0<n0) (hn:n0<=100000):
  Calls Tryz.prog 94 #[.slice (some a0) n0 c0] w0 fun e w'=>∃A c,e=.returned (.slice A n0 c)/\St w0 w' [aab A n0 c es0] []:=by
 refine dp Tryz.func94 rfl Tryz.ntmps94 rfl fun σ=>?_
 have a8:=h0.2.1
 replace σ:=σ.aE h0
 refine vE rfl (fun η=>lB η Tryz.underlying26 rfl)<|iF rfl rfl<|eE rfl<|b0E 1 σ (aD.size) rfl fun _ bJ σ=>?_
 replace σ:St w0 _ [aab (bh bJ) 0 0 ([]:List Int)] [bE (some a0) n0 c0 es0]:=σ
 refine eE rfl<|aRE 0 σ du σ.aU.1 (Zf _).1 (Zf _).2 rfl ae (by unfold maxLen; omega) ae fun _ cJ wh σ=>o1 Tryz.results94 rfl<|?_
 rw [fz,iU] at σ
 exact by rw [fz]; exact ⟨_,_,rfl,σ.pick [0] [] ai⟩
theorem wv {w0:World} {A0:Option Addr} {n0 c0:Nat} {es0:List Int} (h0:(bE A0 n0 c0 es0).P w0) (hn:n0<=100000):
  Calls Tryz.prog 94 #[.slice A0 n0 c0] w0 fun e w'=>∃A c,e=.returned (.slice A n0 c)/\St w0 w' [aab A n0 c es0] []:=by
 cases A0 with
 | none=>
  obtain rfl:n0=0:=uM h0 rfl
  exact GJ h0
 | some a0=>
  rcases ed n0 with rfl | hp
  ·exact GK h0
  ·exact GL h0 hp hn
theorem nU {w0:World} {i g:Int} {A0 A1:Option Addr} {n0 c0 n1 c1:Nat} {es0:List IE} {es1:List Int} (h0:(jM A0 n0 c0 es0).P w0) (h1:(bE A1 n1 c1 es1).P w0) (vk:n0<=100000) (DM:n1<=100000):
  Calls Tryz.prog 50 #[.agg #[aq i,aq g,.slice A0 n0 c0,.slice A1 n1 c1]] w0 fun e w'=>∃A c B d,e=.returned (.agg #[aq i,aq g,.slice A n0 c,.slice B n1 d])/\St w0 w' [aad A n0 c es0,aab B n1 d es1] []:=by
 refine dp Tryz.func50 rfl Tryz.ntmps50 rfl fun σ=>?_
 have a8:=h0.2.1
 have ic:=h0.1.cap
 have bW:=h0.1.big
 unfold maxLen at bW
 have cY:=h1.2.1
 have kY:=h1.1.cap
 have eC:=h1.1.big
 unfold maxLen at eC
 replace σ:=σ.aE h0
 replace σ:=σ.aE h1
 refine eE rfl<|gN σ rfl fun _ bJ σ=>eE rfl<|eL bf σ rfl fun _ cJ σ=>gY [7,9] [0,5,12,17,10,24,22,30,32,38] aK σ fun _ σ=>lS 1 rfl<|lS 1 rfl<|eS rfl<|cS Tryz.call93 (Nz σ.bC ae) rfl ?_
 rintro _ _ ⟨oK,nv,rfl,Jg⟩
 refine ⟨_,rfl,?_⟩
 replace σ:=σ.more Jg
 refine sk (σ.kd 1 0)<|eS rfl<|cS Tryz.call94 (wv σ.aU ae) rfl ?_
 rintro _ _ ⟨A57,I2,rfl,Jc⟩
 refine ⟨_,rfl,?_⟩
 replace σ:=σ.more Jc
 exact sk (σ.kd 2 0)<|eS rfl<|j0 3 σ rfl fun _ σ=>sz rfl<|eS rfl<|j0 3 σ rfl fun _ σ=>sz rfl<|gE 3 σ rfl<|eE rfl<|cX 2 σ rfl fun _ σ=>oR (fun e=>dA Tryz.results50 (RV.cell e aO rfl σ.Bm rfl))<|⟨_,_,_,_,rfl,σ.pick [1,0] [] ai⟩
theorem WG {w0:World} {i g:Int} {A0 A1 A2 A3:Option Addr} {n0 c0 n1 c1 n2 c2 n3 c3:Nat} {es0:List IE} {es1:List Int} {dL:List IE} {zk:List Int} (h0:(jM A0 n0 c0 es0).P w0) (h1:(bE A1 n1 c1 es1).P w0) (h2:(jM A2 n2 c2 dL).P w0) (h3:(bE A3 n3 c3 zk).P w0):
  Calls Tryz.prog 38 #[.agg #[aq i,aq g,.slice A0 n0 c0,.slice A1 n1 c1],.agg #[aq i,aq g,.slice A2 n2 c2,.slice A3 n3 c3]] w0 fun e w'=>e=.returned (.bool (decide (es0=dL) && decide (es1=zk)))/\Below w0.heap.size w0 w':=by
 refine dp Tryz.func38 rfl Tryz.ntmps38 rfl fun σ=>?_
 have a8:=h0.2.1
 have ic:=h0.1.cap
 have bW:=h0.1.big
 unfold maxLen at bW
 have cY:=h1.2.1
 have kY:=h1.1.cap
 have eC:=h1.1.big
 unfold maxLen at eC
 have kS:=h2.2.1
 have aqx:=h2.1.cap
 have agZ:=h2.1.big
 unfold maxLen at agZ
 have aqy:=h3.2.1
 have aqz:=h3.1.cap
 have ag0:=h3.1.big
 unfold maxLen at ag0
 replace σ:=σ.aE h0
 replace σ:=σ.aE h1
 replace σ:=σ.aE h2
 replace σ:=σ.aE h3
 refine eE rfl<|gN σ rfl fun _ bJ σ=>eE rfl<|gN σ rfl fun _ cJ σ=>lE 1 σ rfl<|lE 0 σ rfl<|cZ rfl<|kB (b':=true) (beq_self_eq_true _)<|lE 1 σ rfl<|lE 0 σ rfl<|cZ rfl<|kB (b':=true) (beq_self_eq_true _)<|lE 1 σ rfl<|lE 0 σ rfl<|eE rfl<|dx Tryz.call66 (acC σ.eY σ.bC) σ rfl fun _ σ=>wD (fun lU=>?_) fun lU=>?_
 ·exact lE 1 σ rfl<|lE 0 σ rfl<|eE rfl<|dx Tryz.call67 (RR σ.cF σ.aU) σ rfl fun _ σ=>o1 Tryz.results38 rfl<|⟨aM (fun b=>Ending.returned (Value.bool b)) (by simp [lU]),σ.below⟩
 ·exact o1 Tryz.results38 rfl<|⟨aM (fun b=>Ending.returned (Value.bool b)) (by simp [lU]),σ.below⟩
def kaF (n:Nat) (X:World):PF:=
 ⟨fun w=>X.heap.size<=w.heap.size/\∀b o,n<=b->X.heap[b]?=some o->w.heap[b]?=some o,fun b=>n<=b/\b<X.heap.size,fun h hb=>gw hb.2 h.1,
  fun h hs hk=>⟨bq h.1 hs,fun b o hb ho=>(hk b ⟨hb,lt_of_block ho⟩).trans (h.2 b o hb ho)⟩⟩
def s5 (n:Nat):List PF->Prop
 | []=>True
 | e::l=>(∀b,e.di b->b<n)/\s5 n l
theorem s5.at {n:Nat}:∀{l:List PF},s5 n l->∀e∈l,∀b,e.di b->b<n
 | e::_,h,f,hf=>by
  rcases dW.1 hf with rfl | hf
  ·exact h.1
  ·exact s5.at h.2 f hf
theorem LK {n:Nat}:∀{l:List PF},(∀e∈l,∀b,e.di b->b<n)->s5 n l
 | [],_=>trivial
 | e::l,h=>⟨h e (bS ..),LK fun f hf=>h f (cO _ hf)⟩
section
variable {w0 w X Y:World} {own ps:List PF} {n k:Nat}
theorem RY (h:St w0 w own ps):s5 w.heap.size own:=LK fun e he _ hb=>e.lt (h.mine e he) hb
theorem St.Zh (h:St w0 w own ps) (hf:s5 n own):St w0 w own (kaF n w::ps):=h.iB (kaF n w) ⟨aY _,fun _ _ _ h=>h⟩ fun e he b hb hk=>by
 have h1:=hf.at e he b hb
 have h2:n<=b:=hk.1
 omega
theorem St.Zi {g:Nat} {c:Array Value} {t:TypeId} (h:St w0 w own ps) (hf:s5 n own) (hg:n<=g) (hp:(bk g c t).P w):St w0 w own (bk g c t::ps):=h.iB _ hp fun e he b hb hk=>by
 have h1:=hf.at e he b hb
 obtain rfl:b=g:=hk
 omega
theorem St.ka (h:St w0 w own ps) (hk:ps[k]?=some (kaF n X)):KeepsFrom n X w:=⟨(h.pat hk).1,fun b o hb ho _=>(h.pat hk).2 b o hb ho⟩
theorem St.kax {p:World->Prop} (h:St w0 w own ps) (hk:ps[k]?=some (kaF n X)) (hp:p w):KX n p X w:=⟨(h.pat hk).1,fun b o hb ho=>(h.pat hk).2 b o ae ho,fun _=>hp⟩
theorem Zj {B i0 n0 c0 n1 c1:Nat} {i g:Int} {A0 A1:Option Addr} {es:List IE} {os:List Int} (h:Below X.heap.size X Y):KX i0 (RW B i g A0 n0 c0 A1 n1 c1 es os) X Y:=⟨h.size,fun b _ _ hb=>(h.block b (lt_of_block hb)).trans hb,fun q=>LJ q h⟩
end
theorem Bw {x y:Int} (h:x=y):(x !=y)=false:=by subst h; simp
def Mis (es:List IE) (n:Nat) (pre:List YE):Prop:=∃pr x,pre=pr++[x]/\pr.length<n/\¬(x.1+pr.length+1=n/\es[x.1]?=some x.2)
def Ji {α:Type} (P:Program) (g:Nat) (lb:Array Value) (encs:α->Array Value) (V:List α->α->Prop) (Kp:World->World->Prop) (S Sp:List α->Prop) (w:World):Prop:=
 ∀(l:Nat) (J Jx:List α->World->Prop) (X:World),Below w.heap.size w X->w.heap.size+2<=X.heap.size->OwnFrom X.heap.size J->OwnFrom X.heap.size Jx->
  (∀pre x Y,V pre x->J pre Y->YieldAt (WF none) 7 P l (encs x) Y fun e Z=>(e=.returned (.bool true)/\J (pre++[x]) Z/\Kp Y Z)∨(e=.returned (.bool false)/\Jx (pre++[x]) Z/\Kp Y Z))->
  J [] X->Calls P g (#[.func (.yield l) #[] #[]]++lb) X fun e Z=>(∃v,e=.returned v)/\((∃xs,S xs/\J xs Z)∨∃pre,Sp pre/\Jx pre Z)
section
variable {P:Program} {Q:Exit->Act->World->Prop} {N:Nat} {dq:List Deferred} {a:Act} {l:List (Nat×Value)} {w:World}
theorem NC {α:Type} {g:Operand} {p q gf:Nat} {lb:Array Value} {assign body:Code} {enc enc':α->Value} {Kp:World->World->Prop} {S Sp:List α->Prop} {V:List α->α->Prop} (h:aW dq N a l)
  (hg:bV l g=some (.func (.func gf) #[] lb)) (eg:∀args w,(callFunc gf args).run P w=.ok (.enter gf args) w) (hp:Nat.blt p N=true) (hq:Nat.blt q N=true)
  (RZ:Ji P gf lb (fun x=>#[enc x,enc' x]) V Kp S Sp w)
  (Jj:∀{A B C:World},Kp A B->Kp B C->Kp A C) (WI:∀(W:World) (o o':Obj),W.heap[w.heap.size+1]?=some o->o.isCells=false->Kp W (W.putObj (w.heap.size+1) o'))
  (I:List α->World->Prop) (Ix:Code->List α->World->Prop) (hI:OwnFrom w.heap.size I) (hIx:∀c,OwnFrom w.heap.size (Ix c)) (h0:I [] w) (Ax:α->Act->World->Prop) (hAx:∀x a',OwnFrom w.heap.size (fun (_:Unit) W=>Ax x a' W))
  (pZ:∀(i:Nat) (pre:List α) (x:α) (W:World) (K:Act->World->Prop),V pre x->I pre W->(∀a' W',KeepsFrom w.heap.size W W'->Kp W W'->I pre W'->Ax x a' W'->K a' W')->∀a,aW [] N a ((q,enc' x)::(p,enc x)::l)->assign.wpIn (WF (some i)) 7 P (Exit.then K (fun _ _ _=>False)) a W)
  (AG:∀(i:Nat) (pre:List α) (x:α) (a':Act) (W:World),V pre x->I pre W->Ax x a' W->body.wpIn (WF (some i)) 7 P (RT w.heap.size Kp I Ix (pre++[x]) W) a' W)
  (AH:∀(D:Nat) (xs:List α) (W:World) (a:Act),w.heap.size<=D->S xs->I xs W->W.heap[D]?=some (.deferred (some []))->aW ({ target:=.collected D,args:=#[] }::dq) N a l->Q .normal a W)
  (R3:∀(D:Nat) (c:Code) (pre:List α) (W:World) (a:Act),w.heap.size<=D->Sp pre->Ix c pre W->W.heap[D]?=some (.deferred (some []))->aW ({ target:=.collected D,args:=#[] }::dq) N a l->c.wp P Q a W):
  (Code.rangeFunc g #[p,q] assign body).wp P Q a w:=by
 refine (wpIn_wide (n:=9)).1 (wpIn_rangeFunc fun fn _=>?_)
 obtain ⟨D,hD⟩:∃D,D=w.heap.size:=⟨_,rfl⟩
 obtain ⟨X,hX⟩:∃X,X=(w.alloc (.deferred (some []))).alloc (.loop (CA fn a.tmps #[p,q] assign body w.heap.size .ready none)):=⟨_,rfl⟩
 have mn:X.heap.size=D+2:=by rw [hX,World.size_alloc,World.size_alloc,hD]
 have hbX:AF (CA fn a.tmps #[p,q] assign body D .ready none) D X:=by
  subst hX hD
  refine ⟨?_,?_⟩
  ·have:=World.alloc_heap_new (w.alloc (.deferred (some []))) (.loop (CA fn a.tmps #[p,q] assign body w.heap.size .ready none))
   rwa [World.size_alloc] at this
  ·exact (Below.heap_alloc _ _ _ cT).trans (World.alloc_heap_new w _)
 have hIX:I [] X:=hX ▸ hI.alloc _ (hI.alloc _ h0)
 have R4:Below w.heap.size w X:=hX ▸ (((Below.refl _ w).alloc (aY _) _).alloc cT _)
 subst hD
 have VN:a.eval g=.func (.func gf) #[] lb:=h.ev hg
 refine ⟨w.heap.size+1,[{ target:=.collected w.heap.size,args:=#[] }],X,{ target:=.fn (.func gf) lb,args:=#[.func (.yield (w.heap.size+1)) #[] #[]] },X,gf,#[.func (.yield (w.heap.size+1)) #[] #[]]++lb,X,
  hX ▸ run_enterLoop_outer fn a.tmps #[p,q] assign body,by simp only [resolve,VN]; simp [go_sem],fun _ _=>trivial,by simp [invoke,go_sem,eg],fun h=>(by cases h),pE (ro:=none) ?_⟩
 refine (RZ (w.heap.size+1) (fun pre W=>I pre W/\AF (CA fn a.tmps #[p,q] assign body w.heap.size .ready none) w.heap.size W) (fun pre W=>∃c,Ix c pre W/\AF (CA fn a.tmps #[p,q] assign body w.heap.size .done (some c)) w.heap.size W) X R4 ae
  (fun s Y Z row hs oE hr=>⟨ki hI ae s Y Z row hs.1 oE hr,yn (β:=Unit) _ _ () Y Z row hs.2 oE fun r e=>mn ▸ hr r e⟩)
  (fun s Y Z row ⟨c,h1,h2⟩ oE hr=>⟨c,ki (hIx c) ae s Y Z row h1 oE hr,yn (β:=Unit) _ _ () Y Z row h2 oE fun r e=>mn ▸ hr r e⟩)
  (fun pre x Y hV ⟨hi,hb⟩=>⟨fn,_,assign,body,run_yield hb.1 rfl,roundIn_of_wpIn trivial ?_⟩) ⟨hIX,hbX⟩).mono fun e Z hZ=>?_
 ·
  have h1:=uF (uF h (enc x) hp) (enc' x) hq
  have e:(#[p,q].zip #[enc x,enc' x]).foldl (fun t (p,v)=>t.setIfInBounds p v) a.tmps=(a.tmps.setIfInBounds p (enc x)).setIfInBounds q (enc' x):=by simp
  show assign.wpIn (WF (some (w.heap.size+1))) 7 P _ { tmps:=(#[p,q].zip #[enc x,enc' x]).foldl (fun t (p,v)=>t.setIfInBounds p v) a.tmps,defers:=[] } Y
  rw [e]
  refine pZ _ pre x Y _ hV hi (fun a' Y2 QL ua vI CB=>?_) _ h1
  have gx:=oL hb QL
  refine ⟨_,run_beginRound gx.1 rfl,?_⟩
  have tW:AF (CA fn a.tmps #[p,q] assign body w.heap.size .busy none) w.heap.size _:=kT gx
  have hp3:=WI Y2 _ (.loop (CA fn a.tmps #[p,q] assign body w.heap.size .busy none)) gx.1 rfl
  refine wpIn_mono (AG _ pre x a' _ hV (hI.putObj _ vI (nJ _) gx.1 rfl) ((hAx x a').putObj (s:=()) _ CB (nJ _) gx.1 rfl)) ?_
  have stop:∀(c:Code) (Z:World),KeepsFrom w.heap.size _ Z/\Kp _ Z/\Ix c (pre++[x]) Z->∃v Z',(Instr.endRound (w.heap.size+1) (some c)).run P Z=.ok v Z'/\((Ending.returned v=.returned (.bool true)/\(I (pre++[x]) Z'/\AF (CA fn a.tmps #[p,q] assign body w.heap.size .ready none) w.heap.size Z')/\Kp Y Z')∨(Ending.returned v=.returned (.bool false)/\(∃c,Ix c (pre++[x]) Z'/\AF (CA fn a.tmps #[p,q] assign body w.heap.size .done (some c)) w.heap.size Z')/\Kp Y Z')):=fun c Z ⟨hk,H4,hix⟩=>
   have nD:=oL tW hk
   ⟨_,_,run_endRound _ nD.1,.inr ⟨rfl,⟨c,(hIx c).putObj _ hix (nJ _) nD.1 rfl,kT nD⟩,Jj ua (Jj hp3 (Jj H4 (WI _ _ _ nD.1 rfl)))⟩⟩
  intro e a3 Z hz
  cases e with
  | normal=>
   have nD:=oL tW hz.1
   exact ⟨_,_,run_endRound none nD.1,.inl ⟨rfl,⟨hI.putObj _ hz.2.2 (nJ _) nD.1 rfl,kT nD⟩,Jj ua (Jj hp3 (Jj hz.2.1 (WI _ _ _ nD.1 rfl)))⟩⟩
  | ret=>exact stop .ret Z hz
  | exit id=>exact stop (.exit id) Z hz
  | goto t=>exact hz.elim
  | panic _=>exact hz.elim
  | outgrown=>exact hz.elim
 ·
  obtain ⟨⟨v,rfl⟩,(⟨xs,hS,hi,hb⟩ | ⟨pre,hS,c,hi,hb⟩)⟩:=hZ
  ·exact ⟨none,_,run_endLoop hb.1 (by intro h; cases h),AH _ xs _ _ (aY _) hS (hI.putObj _ hi (nJ _) hb.1 rfl) (kT hb).2 (rh h _)⟩
  ·exact ⟨some c,_,run_endLoop hb.1 (by intro h; cases h),(wpIn_wide (n:=9)).2 (R3 _ c pre _ _ (aY _) hS ((hIx c).putObj _ hi (nJ _) hb.1 rfl) (kT hb).2 (rh h _))⟩
end
def VB (es:List IE) (n:Nat) (pre:List YE) (x:YE):Prop:=pre=NB es pre.length/\pre.length+x.1+1=n/\es[x.1]?=some x.2
theorem Jk {B n c:Nat} {A:Option Addr} {es:List IE} {w:World} (Ns:bwP B A n c es w):
  Ji Tryz.prog 238 #[bB B] (fun x:YE=>#[NA x,WH x]) (VB es n) (KB (bwP B A n c es)) (fun xs=>xs=NB es n) (fun pre=>∃k,k<=n/\pre=NB es k) w:=by
 intro l0 J Jx W hW _ _ _ hY h0
 have hl:=Ns.2.2.1
 have vK:=bq Ns.2.1.cap Ns.2.1.big
 unfold maxLen at vK
 have hpW:bwP B A n c es W:=⟨(hW.block B (lt_of_block Ns.1)).trans Ns.1,(ag fJ FJ 5 A n c es).oC Ns.2 hW.size fun b hb=>hW.block b ((ag fJ FJ 5 A n c es).lt Ns.2 hb)⟩
 refine enter Tryz.func238 rfl Tryz.ntmps238 rfl ?_
 intro a η _
 refine wp_seq (aj ?_)
 refine au rfl (aX η rfl (aS η fa rfl hpW.1 rfl) ?_)
 clear η a; intro a η
 refine au rfl (aX η rfl (eW η Tryz.underlying25 rfl) ?_)
 clear η a; intro a η
 refine au rfl (aX η rfl (qW η rfl rfl (IntWalk.i64_in _ ae)) ?_)
 clear η a; intro a η
 refine au rfl (aX η rfl (aV η rfl) ?_)
 clear η a; intro a η
 refine wpList_nil (aT (wp_block ?_))
 refine wp_loop_ghost (fun mz a w1=>∃k:Nat,k=mz/\Env 19 a [(0,.func (.yield l0) #[] #[]),(1,bB B),(3,.int .i64 (((k:Nat):Int) - 1))]/\bwP B A n c es w1/\J (NB es (n - k)) w1/\k<=n) _ ⟨n,rfl,η.sub ay,hpW,by rw [mR]; exact h0,aY _⟩ ?_
 clear η a
 rintro mz a w1 ⟨k,rfl,η,hp,hJk,hk⟩
 refine wp_seq (wp_seq (aj ?_))
 refine au rfl (aX η rfl (b7 η rfl) ?_)
 clear η a; intro a η
 refine au rfl (aX η rfl (bg η rfl rfl rfl) ?_)
 clear η a; intro a η
 refine wpList_nil (aT ?_)
 refine dY η rfl (fun hc=>?_) (fun hc=>?_)
 ·obtain ⟨j,rfl⟩:∃j:Nat,k=j+1:=⟨k - 1,by have:=bX hc; omega⟩
  rw [show (((j+1:Nat):Nat):Int) - 1=(j:Nat) by omega] at η
  obtain ⟨⟨a1,a2,a3,a4,a5⟩,b5⟩:∃e,es[j]?=some e:=⟨_,aw ae⟩
  refine wp_skip (aT (wp_seq (wp_block (wp_seq ?_))))
  refine Pz 8 ?_
  refine gh rfl (fun _ h=>by cases h) (aX η rfl (b7 η rfl) ?_)
  clear η a; intro a η
  refine gh rfl (fun _ h=>by cases h) (aX η rfl (b7 η rfl) ?_)
  clear η a; intro a η
  refine gh rfl (fun _ h=>by cases h) (aX η rfl (aS η fa rfl hp.1 rfl) ?_)
  clear η a; intro a η
  refine gh rfl (fun _ h=>by cases h) (aX η rfl (b7 η rfl) ?_)
  clear η a; intro a η
  refine gh rfl (fun _ h=>by cases h) (aX η rfl (jy η Tryz.underlying25 (an.size) rfl rfl ae rfl hp.2.1) ?_)
  clear η a; intro a η
  refine gh rfl (fun _ h=>by cases h) (aX η rfl (bF η an rfl rfl iR hp.2.1 ae b5 rfl) ?_)
  clear η a; intro a η
  refine za rfl (wy η rfl rfl rfl (hY _ (j,a1,a2,a3,a4,a5) w1 ⟨by rw [ym],by rw [ym]; show n - (j+1)+j+1=n; omega,b5⟩ hJk) ?_)
  have acF:NB es (n - (j+1))++[(j,a1,a2,a3,a4,a5)]=NB es (n - j):=by
   rw [show n - j=n - (j+1)+1 by omega]
   exact (RS b5 ae).symm
  rw [acF]
  rintro e W3 h3
  rcases h3 with ⟨rfl,hJ3,hk3⟩ | ⟨rfl,hJ3,_⟩
  ·refine ⟨_,rfl,?_⟩
   clear η a; intro a η
   refine gh rfl (fun _ h=>by cases h) (aX η rfl (kF η rfl rfl) ?_)
   clear η a; intro a η
   refine vS (aT ?_)
   refine oD η rfl rfl ?_
   refine wp_skip (qA (aT (aj ?_)))
   refine au rfl (aX η rfl (b7 η rfl) ?_)
   clear η a; intro a η
   refine au rfl (aX η rfl (qW η rfl rfl (IntWalk.i64_in _ ae)) ?_)
   clear η a; intro a η
   refine au rfl (aX η rfl (aV η rfl) ?_)
   clear η a; intro a η
   refine wpList_nil ?_
   exact aT ⟨_,qJ j,j,rfl,η.sub ay,hk3 hp,hJ3,by omega⟩
  ·refine ⟨_,rfl,?_⟩
   clear η a; intro a η
   refine gh rfl (fun _ h=>by cases h) (aX η rfl (kF η rfl rfl) ?_)
   clear η a; intro a η
   refine vS (aT ?_)
   refine Fc η rfl rfl ?_
   refine wp_ret (mZ (j9 (j9 (mZ ?_))))
   refine leave η (MK Tryz.results238) ?_
   exact ⟨⟨_,rfl⟩,.inr ⟨_,⟨n - j,by omega,rfl⟩,hJ3⟩⟩
 ·obtain rfl:k=0:=by have:=fT hc; omega
  refine wp_exit (kW (kW (tt ?_)))
  refine ML η (MK Tryz.results238) ?_
  exact ⟨⟨_,rfl⟩,.inl ⟨_,rfl,hJk⟩⟩
section
variable {B n0 c0 n1 c1:Nat} {i g:Int} {A0 A1:Option Addr} {es:List IE} {os:List Int} {w:World}
end
section
variable {P:Program} {Q:Exit->Act->World->Prop} {N:Nat} {dq:List Deferred} {a:Act} {l:List (Nat×Value)} {w:World}
theorem ND {α:Type} {g:Operand} {gf:Nat} {ps:Array Tmp} {lb:Array Value} {assign body:Code} {encs:α->Array Value} {l2:α->List (Nat×Value)} {Kp:World->World->Prop} {S Sp:List α->Prop} {V:List α->α->Prop} (h:aW dq N a l)
  (hg:bV l g=some (.func (.func gf) #[] lb)) (eg:∀args w,(callFunc gf args).run P w=.ok (.enter gf args) w) (iI:∀x,(encs x).size=ps.size) (Ki:∀x,aW [] N { tmps:=(ps.zip (encs x)).foldl (fun t (p,v)=>t.setIfInBounds p v) a.tmps,defers:=[] } (l2 x))
  (RZ:Ji P gf lb encs V Kp S Sp w)
  (Jj:∀{A B C:World},Kp A B->Kp B C->Kp A C) (WI:∀(W:World) (o o':Obj),W.heap[w.heap.size+1]?=some o->o.isCells=false->Kp W (W.putObj (w.heap.size+1) o'))
  (I:List α->World->Prop) (Ix:Code->List α->World->Prop) (hI:OwnFrom w.heap.size I) (hIx:∀c,OwnFrom w.heap.size (Ix c)) (h0:I [] w) (Ax:α->Act->World->Prop) (hAx:∀x a',OwnFrom w.heap.size (fun (_:Unit) W=>Ax x a' W))
  (pZ:∀(i:Nat) (pre:List α) (x:α) (W:World) (K:Act->World->Prop),V pre x->I pre W->(∀a' W',KeepsFrom w.heap.size W W'->Kp W W'->I pre W'->Ax x a' W'->K a' W')->∀a,aW [] N a (l2 x)->assign.wpIn (WF (some i)) 7 P (Exit.then K (fun _ _ _=>False)) a W)
  (AG:∀(i:Nat) (pre:List α) (x:α) (a':Act) (W:World),V pre x->I pre W->Ax x a' W->body.wpIn (WF (some i)) 7 P (RT w.heap.size Kp I Ix (pre++[x]) W) a' W)
  (AH:∀(D:Nat) (xs:List α) (W:World) (a:Act),w.heap.size<=D->S xs->I xs W->W.heap[D]?=some (.deferred (some []))->aW ({ target:=.collected D,args:=#[] }::dq) N a l->Q .normal a W)
  (R3:∀(D:Nat) (c:Code) (pre:List α) (W:World) (a:Act),w.heap.size<=D->Sp pre->Ix c pre W->W.heap[D]?=some (.deferred (some []))->aW ({ target:=.collected D,args:=#[] }::dq) N a l->c.wp P Q a W):
  (Code.rangeFunc g ps assign body).wp P Q a w:=by
 refine (wpIn_wide (n:=9)).1 (wpIn_rangeFunc fun fn _=>?_)
 obtain ⟨D,hD⟩:∃D,D=w.heap.size:=⟨_,rfl⟩
 obtain ⟨X,hX⟩:∃X,X=(w.alloc (.deferred (some []))).alloc (.loop (CA fn a.tmps ps assign body w.heap.size .ready none)):=⟨_,rfl⟩
 have mn:X.heap.size=D+2:=by rw [hX,World.size_alloc,World.size_alloc,hD]
 have hbX:AF (CA fn a.tmps ps assign body D .ready none) D X:=by
  subst hX hD
  refine ⟨?_,?_⟩
  ·have:=World.alloc_heap_new (w.alloc (.deferred (some []))) (.loop (CA fn a.tmps ps assign body w.heap.size .ready none))
   rwa [World.size_alloc] at this
  ·exact (Below.heap_alloc _ _ _ cT).trans (World.alloc_heap_new w _)
 have hIX:I [] X:=hX ▸ hI.alloc _ (hI.alloc _ h0)
 have R4:Below w.heap.size w X:=hX ▸ (((Below.refl _ w).alloc (aY _) _).alloc cT _)
 subst hD
 have VN:a.eval g=.func (.func gf) #[] lb:=h.ev hg
 refine ⟨w.heap.size+1,[{ target:=.collected w.heap.size,args:=#[] }],X,{ target:=.fn (.func gf) lb,args:=#[.func (.yield (w.heap.size+1)) #[] #[]] },X,gf,#[.func (.yield (w.heap.size+1)) #[] #[]]++lb,X,
  hX ▸ run_enterLoop_outer fn a.tmps ps assign body,by simp only [resolve,VN]; simp [go_sem],fun _ _=>trivial,by simp [invoke,go_sem,eg],fun h=>(by cases h),pE (ro:=none) ?_⟩
 refine (RZ (w.heap.size+1) (fun pre W=>I pre W/\AF (CA fn a.tmps ps assign body w.heap.size .ready none) w.heap.size W) (fun pre W=>∃c,Ix c pre W/\AF (CA fn a.tmps ps assign body w.heap.size .done (some c)) w.heap.size W) X R4 ae
  (fun s Y Z row hs oE hr=>⟨ki hI ae s Y Z row hs.1 oE hr,yn (β:=Unit) _ _ () Y Z row hs.2 oE fun r e=>mn ▸ hr r e⟩)
  (fun s Y Z row ⟨c,h1,h2⟩ oE hr=>⟨c,ki (hIx c) ae s Y Z row h1 oE hr,yn (β:=Unit) _ _ () Y Z row h2 oE fun r e=>mn ▸ hr r e⟩)
  (fun pre x Y hV ⟨hi,hb⟩=>⟨fn,_,assign,body,run_yield hb.1 (iI x),roundIn_of_wpIn trivial ?_⟩) ⟨hIX,hbX⟩).mono fun e Z hZ=>?_
 ·
  have h1:=Ki x
  refine pZ _ pre x Y _ hV hi (fun a' Y2 QL ua vI CB=>?_) _ h1
  have gx:=oL hb QL
  refine ⟨_,run_beginRound gx.1 rfl,?_⟩
  have tW:AF (CA fn a.tmps ps assign body w.heap.size .busy none) w.heap.size _:=kT gx
  have hp3:=WI Y2 _ (.loop (CA fn a.tmps ps assign body w.heap.size .busy none)) gx.1 rfl
  refine wpIn_mono (AG _ pre x a' _ hV (hI.putObj _ vI (nJ _) gx.1 rfl) ((hAx x a').putObj (s:=()) _ CB (nJ _) gx.1 rfl)) ?_
  have stop:∀(c:Code) (Z:World),KeepsFrom w.heap.size _ Z/\Kp _ Z/\Ix c (pre++[x]) Z->∃v Z',(Instr.endRound (w.heap.size+1) (some c)).run P Z=.ok v Z'/\((Ending.returned v=.returned (.bool true)/\(I (pre++[x]) Z'/\AF (CA fn a.tmps ps assign body w.heap.size .ready none) w.heap.size Z')/\Kp Y Z')∨(Ending.returned v=.returned (.bool false)/\(∃c,Ix c (pre++[x]) Z'/\AF (CA fn a.tmps ps assign body w.heap.size .done (some c)) w.heap.size Z')/\Kp Y Z')):=fun c Z ⟨hk,H4,hix⟩=>
   have nD:=oL tW hk
   ⟨_,_,run_endRound _ nD.1,.inr ⟨rfl,⟨c,(hIx c).putObj _ hix (nJ _) nD.1 rfl,kT nD⟩,Jj ua (Jj hp3 (Jj H4 (WI _ _ _ nD.1 rfl)))⟩⟩
  intro e a3 Z hz
  cases e with
  | normal=>
   have nD:=oL tW hz.1
   exact ⟨_,_,run_endRound none nD.1,.inl ⟨rfl,⟨hI.putObj _ hz.2.2 (nJ _) nD.1 rfl,kT nD⟩,Jj ua (Jj hp3 (Jj hz.2.1 (WI _ _ _ nD.1 rfl)))⟩⟩
  | ret=>exact stop .ret Z hz
  | exit id=>exact stop (.exit id) Z hz
  | goto t=>exact hz.elim
  | panic _=>exact hz.elim
  | outgrown=>exact hz.elim
 ·
  obtain ⟨⟨v,rfl⟩,(⟨xs,hS,hi,hb⟩ | ⟨pre,hS,c,hi,hb⟩)⟩:=hZ
  ·exact ⟨none,_,run_endLoop hb.1 (by intro h; cases h),AH _ xs _ _ (aY _) hS (hI.putObj _ hi (nJ _) hb.1 rfl) (kT hb).2 (rh h _)⟩
  ·exact ⟨some c,_,run_endLoop hb.1 (by intro h; cases h),(wpIn_wide (n:=9)).2 (R3 _ c pre _ _ (aY _) hS ((hIx c).putObj _ hi (nJ _) hb.1 rfl) (kT hb).2 (rh h _))⟩
end
def noQ:Exit->Act->World->Prop:=fun _ _ _=>False
theorem R5:yc noQ:=⟨fun _ _ _ h=>h,fun _ _ h=>h⟩
def rdQ {α:Type} (B:Nat) (Kp:World->World->Prop) (I:List α->World->Prop) (xs:List α) (W:World):Exit->Act->World->Prop:=RT B Kp I (fun _ _ _=>False) xs W
theorem acH {α:Type} {B:Nat} {Kp:World->World->Prop} {I:List α->World->Prop} {xs:List α} {W:World}:yc (rdQ B Kp I xs W):=⟨fun _ _ _ h=>h,fun _ _ h=>h⟩
section
variable {P:Program} {T:Gi P} {mix:P.follows .mixedOrders=true} {N m:Nat} {dq:List Deferred} {Q:Exit->Act->World->Prop} {ok:yc Q} {s:List wZ} {l:List (Nat×Value)} {w:World} {α:Type}
theorem wz {ro:Option Nat} {dq':List Deferred}:∀s:List wZ,qD ⟨T,mix,ro,m,dq,N,Q,ok⟩ s=qD ⟨T,mix,ro,m,dq',N,Q,ok⟩ s
 | []=>rfl
 | .th c::s=>by unfold qD; rw [wz s]
 | .bl i::s=>by unfold qD; rw [wz s]
 | .sc::s=>by unfold qD; rw [wz s]
 | .q K::s=>by unfold qD; rw [wz s]
theorem rgE {z:Operand} {gf:Nat} {ps:Array Tmp} {lb:Array Value} {assign body:Code} {encs:α->Array Value} {l2:α->List (Nat×Value)} {Kp:World->World->Prop} {S Sp:List α->Prop} {V:List α->α->Prop}
  (hz:bV l z=some (.func (.func gf) #[] lb)) (eg:∀args w,(callFunc gf args).run P w=.ok (.enter gf args) w) (iI:∀x,(encs x).size=ps.size) (Ki:∀(a:Act) x,aW dq N a l->aW [] N { tmps:=(ps.zip (encs x)).foldl (fun t (p,v)=>t.setIfInBounds p v) a.tmps,defers:=[] } (l2 x))
  (RZ:Ji P gf lb encs V Kp S Sp w) (Jj:∀{A B C:World},Kp A B->Kp B C->Kp A C) (WI:∀(W:World) (o o':Obj),W.heap[w.heap.size+1]?=some o->o.isCells=false->Kp W (W.putObj (w.heap.size+1) o'))
  (I:List α->World->Prop) (A:α->List (Nat×Value)->World->Prop) (hI:OwnFrom w.heap.size I) (hA:∀x l',OwnFrom w.heap.size (fun (_:Unit) W=>A x l' W)) (h0:I [] w)
  (pZ:∀(i:Nat) (pre:List α) (x:α) (W:World) (K:Act->World->Prop),V pre x->I pre W->(∀a' l' W',aW [] N a' l'->KeepsFrom w.heap.size W W'->Kp W W'->I pre W'->A x l' W'->K a' W')->Mq ⟨T,mix,some i,7,[],N,noQ,R5⟩ W 999 (.code assign) [.q K] (l2 x))
  (AG:∀(i:Nat) (pre:List α) (x:α) (l':List (Nat×Value)) (W:World),V pre x->I pre W->A x l' W->Mq ⟨T,mix,some i,7,[],N,rdQ w.heap.size Kp I (pre++[x]) W,acH⟩ W 999 (.code body) [] l')
  (AH:∀(D:Nat) (xs:List α) (W:World),w.heap.size<=D->S xs->I xs W->W.heap[D]?=some (.deferred (some []))->Mq ⟨T,mix,none,m,{ target:=.collected D,args:=#[] }::dq,N,Q,ok⟩ W 999 (.fin .normal) s l):
  jB ⟨T,mix,none,m,dq,N,Q,ok⟩ w (.code (.rangeFunc z ps assign body)) s l:=
 ⟨fun a e=>(wpIn_wide).2 (ND e hz eg iI (fun x=>Ki a x e) RZ Jj WI I (fun _ _ _=>False) hI (fun _ _ _ _ _ h _ _=>h) h0 (fun x a' W=>∃l',aW [] N a' l'/\A x l' W)
  (fun x a' s X Y row ⟨l',h1,h2⟩ hg hr=>⟨l',h1,hA x l' () X Y row h2 hg hr⟩)
  (fun i pre x W K hV hi hK a ea=>(ib _ (pZ i pre x W K hV hi fun a' l' W' e' k1 k2 k3 k4=>hK a' W' k1 k2 k3 ⟨l',e',k4⟩)).go a ea)
  (fun i pre x a' W hV hi ⟨l',e',hx⟩=>(ib _ (AG i pre x l' W hV hi hx)).go a' e')
  (fun D xs W a hD hS hi hd ea=>by have:=(ib _ (AH D xs W hD hS hi hd)).go a ea; rw [wz (dq':={ target:=.collected D,args:=#[] }::dq) s]; exact this)
  (fun _ _ _ _ _ _ _ h=>h.elim))⟩
theorem qaE {X:Cx P} {K:Act->World->Prop} (h:∀a,aW X.dq X.N a l->K a w):jB X w (.fin .normal) (.q K::s) l:=⟨fun a e=>h a e⟩
theorem rdE {B i:Nat} {Kp:World->World->Prop} {I:List α->World->Prop} {xs:List α} {W:World} {ok:yc (rdQ B Kp I xs W)} (h:KeepsFrom B W w/\Kp W w/\I xs w):jB ⟨T,mix,some i,7,[],N,rdQ B Kp I xs W,ok⟩ w (.fin .normal) [] l:=⟨fun _ _=>h⟩
theorem hp1 {p:Nat} {enc:α->Value} (hp:Nat.blt p N=true) (a:Act) (x:α) (h:aW dq N a l):aW [] N { tmps:=(#[p].zip #[enc x]).foldl (fun t (p,v)=>t.setIfInBounds p v) a.tmps,defers:=[] } ((p,enc x)::l):=by
 have:=uF h (enc x) hp
 simpa using this
theorem ua {p q:Nat} {enc enc':α->Value} (hp:(Nat.blt p N,Nat.blt q N)=(true,true)) (a:Act) (x:α) (h:aW dq N a l):aW [] N { tmps:=(#[p,q].zip #[enc x,enc' x]).foldl (fun t (p,v)=>t.setIfInBounds p v) a.tmps,defers:=[] } ((q,enc' x)::(p,enc x)::l):=by
 have:=uF (uF h (enc x) (aM (·.1) hp)) (enc' x) (aM (·.2) hp)
 simpa using this
end
section
variable {P:Program} {X:Cx P} {w w0:World} {k k':Bd} {s:List wZ} {l:List (Nat×Value)} {own ps:List PF} {d:Nat}
theorem nmE (σ:St w0 w own ps) (h:∀w',St w0 w' own ps->jB X w' k s l):jB X w k s l:=h w σ
theorem ag5 {ro:Option Nat} {m:Nat} {ops:Array Oper} {rest:List Oper} {Q:Exit->Act->World->Prop} {a:Act} {N:Nat} {dq:List Deferred} {ty:TypeId} {pos:String} {af:Array Edge} {g t:Nat} {b:Bool} {op:Op} {og:Oper} {dd:Option Nat} (hg:ops[g]?=some og) (h:aW dq N a l) (xu:og.dst=some t) (xN:look l t=some (.bool b))
  (hK:Oper.wpIn (WF ro) m P ⟨dd,op,ty,pos,af,some (g,b)⟩ a w (wpListIn (WF ro) m P ops Q rest) Q):wpListIn (WF ro) m P ops Q (⟨dd,op,ty,pos,af,some (g,b)⟩::rest) a w:=by
 have hy:yielded ops a.tmps g=some b:=by
  have he:=h.at xN
  simp only [yielded,hg,CW,xu]
  rw [jf] at he
  cases ht:a.tmps[t]? with
  | none=>rw [ht] at he; simp [undef] at he
  | some x=>rw [ht] at he; simp at he; subst he; rfl
 unfold wpListIn
 rw [aR (by simp [Region.wanted,hy])]
 exact hK
theorem yE {z:Operand} {xs:Array Operand} {Ts:Array TypeId} {vs:Array Value} {l0 kk:Nat} {R:Ending->World->Prop} (hn:hdL X.N l k=some (some d,.call ⟨.value z,xs,Ts⟩,k')) (hz:bV l z=some (.func (.yield l0) #[] #[])) (hx:xs.toList.map (bV l)=vs.toList.map some)
  (hY:YieldAt (WF none) kk P l0 vs w R) (h:∀e w',R e w'->∃v,e=.returned v/\Mq X w' 999 k' s ((d,v)::l)):jB X w k s l:=by
 obtain ⟨os,rest,ty,pos,af,gd,rfl,rfl,rR,hg,hd⟩:=IY hn
 refine ⟨fun a e=>?_⟩
 have ZQ:Oper.wpIn (WF X.ro) X.m P ⟨some d,.call ⟨.value z,xs,Ts⟩,ty,pos,af,gd⟩ a w (wpListIn (WF X.ro) X.m P os.toArray (qD X s) rest) (qD X s):=wy e (hd d rfl) hz hx hY fun e w' hr=>by
  obtain ⟨v,he,hk⟩:=h e w' hr
  exact ⟨v,he,fun a' e'=>(ib _ hk).go a' e'⟩
 rcases rv hg with rfl | ⟨g,b,og,t,rfl,h1,h2,h3⟩
 ·exact za rfl ZQ
 ·exact ag5 h1 e h2 h3 ZQ
end
section
variable {P:Program} {fn:Func} {R:Ending->World->Prop} {T:Gi P} {mix:P.follows .mixedOrders=true} {N:Nat} {w w0:World} {l:List (Nat×Value)} {v v1 v2:Value} {t1 t2:Nat}
def Uq (P:Program) (fn:Func) (R:Ending->World->Prop):Exit->Act->World->Prop
 | .normal,a,w=>bodyPostM Fence.wide 9 P fn R .normal a w
 | .ret,a,w=>bodyPostM Fence.wide 9 P fn R .ret a w
 | _,_,_=>False
theorem acK:yc (Uq P fn R):=⟨fun _ _ _ h=>h,fun _ _ h=>h⟩
theorem enM {c:Code} {f:FuncId} {args:Array Value} (T:Gi P) (mix:P.follows .mixedOrders=true) (hf:P.funcs[f]?=some fn) (hb:fn.body=some c) (hn:fn.ntmps=N) (hz:Nat.ble args.size N=true) (h:St w w [] []->Mq ⟨T,mix,none,9,[],N,Uq P fn R,acK⟩ w 999 (.code c) [] (T4 0 args.toList)):Calls P f args w R:=
 PC hf hb hn hz fun a h1 h2=>(wpIn_wide).1 (wpIn_mono ((ib _ (h h2)).go a h1) fun e a w hq=>by cases e<;>first | exact hq | exact hq.elim)
theorem oM1 {D:Nat} {ok:yc (Uq P fn R)} (h:fn.results=#[.tmp t1]) (h1:look l t1=some v1) (hD:w.heap[D]?=some (.deferred (some []))) (hR:R (.returned v1) (w.putObj D (.deferred none))):jB ⟨T,mix,none,9,[{ target:=.collected D,args:=#[] }],N,Uq P fn R,ok⟩ w (.fin .ret) [] l:=⟨fun _ e=>rT e hD (dA h (RV.tmp e h1)) hR⟩
end
def WJ (g:Nat) (A:Option Addr) (n c:Nat) (es:List Int) (w:World):Prop:=(bk g #[.slice A n c] 26).P w/\(bE A n c es).P w
def VI (es:List Int) (pre:List Int) (x:Int):Prop:=pre=es.take pre.length/\es[pre.length]?=some x
section
variable {g n c:Nat} {A:Option Addr} {es:List Int} {w w':World}
theorem Jl {D:Nat} {row:Option Nat} (h:WJ g A n c es w) (hg:w.grownBy w' row) (hr:∀r,row=some r->D<=r/\∃o:Obj,w.heap[r]?=some o/\o.isCells=false):WJ g A n c es w':=
 ⟨dC bI h.1 hg hr,dC (fu (fun _ _ h=>h) ai) h.2 hg hr⟩
theorem WK (h:WJ g A n c es w) (hb:Below w.heap.size w w'):WJ g A n c es w':=Jl (D:=0) h (jv hb) fun r e=>by cases e
end
theorem Zl (es:List Int):fl fI es=es.map (Value.int .i64):=by
 induction es with
 | nil=>rfl
 | cons x es ih=>rw [fl,ih]; rfl
theorem GO (n:Nat):(iS n).mergeSort (fun x y=>decide (x<=y))=iS n:=by
 refine List.mergeSort_of_pairwise ?_
 unfold iS
 rw [List.pairwise_map]
 exact List.pairwise_lt_range.imp fun h=>dU ae
theorem WL {w0 w:World} {own ps:List PF} {k n c m:Nat} {A:Option Addr} (σ:St w0 w own ps) (hk:own[k]?=some (aab A n c (iS m))) (hm:m=n) (hn:n<=1000):Calls Tryz.prog 172 #[.slice A n c] w fun e w'=>e=.returned (.tuple #[])/\St w0 w' own ps:=by
 subst hm
 have hP:=σ.owns hk
 have ri:w.ownsRow 0 3 1 (.slice A m c) m (fl fI (iS m)):=hP.1
 rcases ri.2 with ⟨e0,vk⟩ | ⟨g,cap,cur,e0,_,hg,EF,E6,ia,uH⟩
 ·cases e0
  exact (Go.Proofs.YtgopcdagnicekaaGreatDoor.oM none 0 w).mono fun e w' ⟨h1,h2⟩=>⟨h1,h2 ▸ σ⟩
 ·cases e0
  rw [tg] at uH ia
  have amw:cur.toList.take (iS m).length=(iS m).map (Value.int .i64):=by rw [lQ,uH,Zl]
  have h1:=Go.Proofs.YtgopcdagnicekaaGreatDoor.tT g 0 c (iS m) w (holds_of_blockI hg amw) (lt_of_block hg) (by rw [lQ]; omega)
  rw [lQ,GO] at h1
  refine h1.mono fun e w' ⟨h2,q,os,h3⟩=>⟨h2,?_⟩
  subst h3
  have ho:=ownsRow_sortedI (w:=w) (base:=0) (g:=g) (cap:=c) (n:=q) (e:=3) (os:=os) (cur:=cur) (ss:=iS m) (ts:=iS m) rfl (bm _) hg (by rw [lQ]; exact EF) E6 (by rw [ia,tg])
  have oE:=grownBy_sortedI (w:=w) (g:=g) (n:=q) (os:=os) (iS m).toArray
  rw [lQ,<- Zl] at ho
  obtain ⟨Vf,sS,Bo⟩:=hP.2 g rfl
  rw [hg] at sS
  cases sS
  have h4:=σ.mf hk (e':=aab (bh g) m c (iS m)) ⟨ho,fun g' sS=>?_⟩ (fun b hb=>.inl hb) oE.os oE.tape oE.output oE.size fun b hb hf=>oE.block b hb fun e=>hf (by cases e; rfl)
  ·rwa [Fo hk] at h4
  ·obtain rfl:g=g':=by simpa [Value.ownBlock] using sS
   refine ⟨_,heap_sortedI _ hg,?_⟩
   refine Array.toList_mapIdx ▸ dP.2 fun u hu=>?_
   obtain ⟨i,hi,rfl⟩:=List.mem_mapIdx.1 hu
   split
   ·rfl
   ·exact dP.1 Bo _ (mS _)
theorem WM {w0:World} {n c:Nat} {A:Option Addr}:
  Calls Tryz.prog 131 #[.slice A n c] w0 fun e w'=>∃g,e=.returned (.func (.func 173) #[] #[bB g])/\St w0 w' [bk g #[.slice A n c] 26] []:=by
 exact dp Tryz.func131 rfl Tryz.ntmps131 rfl fun σ=>eE rfl<|gN σ rfl fun _ bJ σ=>vE rfl (fun η=>cW η rfl rfl)<|o1 Tryz.results131 rfl<|⟨_,rfl,σ.pick [0] [] ai⟩
theorem NF {g n c:Nat} {A:Option Addr} {es:List Int} {w:World} (hp:WJ g A n c es w):
  Ji Tryz.prog 173 #[bB g] (fun x:Int=>#[aq x]) (VI es) (KB (WJ g A n c es)) (fun xs=>xs=es) (fun _=>True) w:=by
 intro l0 J Jx X hX _ hJ hJx hY h0
 have Oy:=Jl (D:=0) hp (⟨hX.os,hX.tape,hX.output,hX.size,fun k hk _=>hX.block k hk⟩:w.grownBy X none) fun r e=>by cases e
 have hlen:=hp.2.2.1
 have vK:=bq hp.2.1.cap hp.2.1.big
 unfold maxLen at vK
 refine dp Tryz.func173 rfl Tryz.ntmps173 rfl fun σ=>?_
 replace σ:=(σ.iq _ Oy.1).aE Oy.2
 refine cE rfl (fun η=>aS η nN rfl (kg σ.bC) rfl)<|fX (fun mz l w=>∃w0:World,∃j:Nat,n - j=mz/\l=[(7,ak j),(0,.func (.yield l0) #[] #[]),(5,.slice A n c),(6,ak n)]/\St w0 w [] [bE A n c es,bk g #[.slice A n c] 26]/\j<=n/\J (es.take j) w) ⟨X,0,rfl,rfl,σ,(bm _),h0⟩ ay ?_
 rintro _ _ _ ⟨w0,j,rfl,rfl,σ,hj,hJj⟩
 refine ei rfl<|wD (fun iz=>?_) fun iz=>?_
 ·have cD:j<n:=ae
  obtain ⟨x,b5⟩:∃e,es[j]?=some e:=⟨_,aw ae⟩
  have FQ:(es.take j).length=j:=by rw [fg]; omega
  refine iT rfl rfl<|vE rfl (fun η=>az (i:=j) η Tryz.underlying26 (aD.size) rfl rfl ae rfl σ.aU.1)<|cE rfl (fun η=>aJ (i:=j) (j:=0) (e:=x) η aD rfl rfl bn ai σ.aU.1 ae b5 rfl)<|?_
  refine yE rfl rfl rfl (hY _ _ _ ⟨by rw [FQ],by rw [FQ]; exact b5⟩ hJj) ?_
  rintro e Uf (⟨rfl,acM,ag8⟩|⟨rfl,acM,ag8⟩)
  ·refine ⟨_,rfl,?_⟩
   have ua:=ag8 ⟨σ.bC,σ.aU⟩
   have σ:=((St.start Uf).iq _ ua.1).aE ua.2
   exact iF rfl rfl<|can (j:=1) rfl ae<|dF ⟨Uf,j+1,rfl,rfl,σ,ae,(by rw [take_one b5]; exact acM)⟩ ay ae
  ·refine ⟨_,rfl,?_⟩
   exact iT rfl rfl<|o0 Tryz.results173<|⟨⟨_,rfl⟩,.inr ⟨_,trivial,acM⟩⟩
 ·have n8:es.take j=es:=bD (by omega)
  exact iF rfl rfl<|Bu Tryz.results173<|⟨⟨_,rfl⟩,.inl ⟨_,n8,hJj⟩⟩
theorem NG {w0:World} {g n c:Nat} {A:Option Addr} {es:List Int} (hp:WJ g A n c es w0) (hn:n<=1000):
  Calls Tryz.prog 201 #[bA,.func (.func 173) #[] #[bB g]] w0 fun e w'=>∃A' c',e=.returned (.slice A' n c')/\St w0 w' [aab A' n c' es] []:=by
 have hlen:=hp.2.2.1
 refine enM tb mixed Tryz.func201 rfl Tryz.ntmps201 rfl fun σ=>?_
 replace σ:=(σ.iq _ hp.1).aE hp.2
 refine eE rfl<|gN σ rfl fun _ bJ σ=>?_
 replace σ:=(σ.cl ar 3 1)
 refine nmE σ fun wL σ=>?_
 have mn:=σ.below.size
 refine rgE (α:=Int) (encs:=fun x:Int=>#[aq x]) (V:=VI es) rfl Tryz.call173 (fun _=>rfl) (by exact hp1 rfl) (NF ⟨σ.bC,σ.aU⟩) (fun h k q=>k (h q)) ((fun Y o o' h hc hq=>Jl (D:=0) hq (grownBy_putObj' Y _ o') fun r e=>by cases e; exact ⟨bm _,o,h,hc⟩)) (fun pre W=>∃A2:Option Addr,∃c2:Nat,St w0 W [bk bJ #[.slice A2 pre.length c2] 26,aab A2 pre.length c2 pre] [bE A n c es,bk g #[.slice A n c] 26]/\wL.heap.size<=W.heap.size) (fun x l _=>l=[(2,bB bJ),(5,aq x)]) (fun _ _ _ _ ⟨A2,c2,σ,tU⟩ hg hr=>⟨A2,c2,σ.grown mn ⟨bI,fc,trivial⟩ ⟨(fu (fun _ _ h=>h) ai),bI,trivial⟩ hg hr,bq tU hg.size⟩) (fun _ _ _ _ _ _ h _ _=>h) ⟨none,0,σ.pick [1,0] [0,1] ai,aY _⟩ ?_ ?_ ?_
 ·rintro ix pre x W K hV ⟨A2,c2,hsi,tU⟩ hK
  have σ:=St.start W
  exact qaE fun a ea=>hK a [(2,bB bJ),(5,aq x)] _ (ea.sub ay) (GM σ.below) (fun q=>WK q σ.below) ⟨A2,c2,hsi.grown (B:=wL.heap.size) mn ⟨bI,fc,trivial⟩ ⟨(fu (fun _ _ h=>h) ai),bI,trivial⟩ (jv σ.below) (fun r e=>by cases e),bq tU σ.below.size⟩ (rfl)
 ·rintro ix pre x l W hV ⟨A2,c2,σ,tU⟩ rfl
  have cD:=(bU.1 hV.2).1
  replace σ:=σ.YI ⟨bI,fc,trivial⟩
  refine lE 0 σ rfl<|eE rfl<|lr (z:=1) #[aq x] σ (aD.size) dc rfl aK fun _ cJ σ=>eE rfl<|pT (new:=[x]) 2 0 σ du rfl (by unfold maxLen; omega) ae fun _ fo nv σ=>eE rfl<|j0 1 σ rfl fun _ σ=>?_
  rw [show pre.length+1=(pre++[x]).length by rw [aP]; rfl] at σ
  exact rdE ⟨σ.ko (k:=0) rfl _,(fun _=>⟨σ.cF,σ.bC⟩),⟨_,_,σ.pick [1,2] [1,2] ai,bq tU (σ.ko (k:=0) rfl wL.heap.size).size⟩⟩
 ·rintro D55 xs W amx hS ⟨A2,c2,σ,tU⟩ ag9
  obtain rfl:=hS.symm
  rw [hlen] at σ
  replace σ:=σ.Va ⟨bI,fc,trivial⟩ ag9
  have ag':=bq mn amx
  refine lE 0 σ rfl<|?_
  have uE:=σ.Vb (k:=0) rfl ag' ⟨bI,fc,trivial⟩ ⟨(fu (fun _ _ h=>h) ai),bI,trivial⟩
  exact oM1 Tryz.results201 rfl σ.aU ⟨_,_,rfl,uE.pick [1] [] ai⟩
theorem Jm {w0:World} {g n c:Nat} {A:Option Addr} {es:List Int} (hp:WJ g A n c es w0) (hn:n<=1000):
  Calls Tryz.prog 171 #[.func (.func 173) #[] #[bB g]] w0 fun e w'=>∃A' c',e=.returned (.slice A' n c')/\St w0 w' [aab A' n c' es] []:=by
 refine dp Tryz.func171 rfl Tryz.ntmps171 rfl fun σ=>?_
 replace σ:=(σ.iq _ hp.1).aE hp.2
 refine eE rfl<|cS Tryz.call201 (NG ⟨σ.bC,σ.aU⟩ hn) rfl ?_
 rintro _ _ ⟨Zm,Zn,rfl,R6⟩
 refine ⟨_,rfl,?_⟩
 replace σ:=σ.more R6
 exact o1 Tryz.results171 rfl<|⟨_,_,rfl,σ.pick [0] [] ai⟩
theorem NH {w0:World} {g n c:Nat} {A:Option Addr} (hp:WJ g A n c (iS n) w0) (hn:n<=1000):
  Calls Tryz.prog 130 #[.func (.func 173) #[] #[bB g]] w0 fun e w'=>∃A' c',e=.returned (.slice A' n c')/\St w0 w' [aab A' n c' (iS n)] []:=by
 refine dp Tryz.func130 rfl Tryz.ntmps130 rfl fun σ=>?_
 replace σ:=(σ.iq _ hp.1).aE hp.2
 refine eE rfl<|cS Tryz.call171 (Jm ⟨σ.bC,σ.aU⟩ hn) rfl ?_
 rintro _ _ ⟨Zm,Zn,rfl,R6⟩
 refine ⟨_,rfl,?_⟩
 replace σ:=σ.more R6
 refine eE rfl<|cS Tryz.call172 (WL σ (k:=0) rfl rfl hn) rfl ?_
 rintro _ _ ⟨rfl,D6⟩
 refine ⟨_,rfl,?_⟩
 replace σ:=D6
 exact o1 Tryz.results130 rfl<|⟨_,_,rfl,σ.pick [0] [] ai⟩
theorem Jn {w0:World} {A0 A1:Option Addr} {n0 c0 c1:Nat} {es0:List Pt} (h0:(u3 A0 n0 c0 es0).P w0) (h1:(bE A1 n0 c1 (iS n0)).P w0) (bH:iA es0):
  Calls Tryz.prog 86 #[.slice A0 n0 c0,.slice A1 n0 c1] w0 fun e w'=>∃A n c B d,e=.returned (.tuple #[.agg #[ak n0,ak (3*n0+1),.slice A n c,.slice B n0 d],aq 0])/\St w0 w' [aad A n c (nS es0),aab B n0 d (sX n0)] []/\(nS es0).length=n:=by
 refine dp Tryz.func86 rfl Tryz.ntmps86 rfl fun σ=>?_
 have a8:=h0.2.1
 have vk:=bH.some_
 rw [a8] at vk
 have hn:n0<=1000:=ae
 replace σ:=(σ.aE h0).aE h1
 refine eE rfl<|eL bf σ rfl fun _ bJ σ=>eE rfl<|dx Tryz.call129 (GC σ.bC bH) σ rfl fun _ σ=>eE rfl<|cS Tryz.call131 (WM (A:=A1) (n:=n0) (c:=c1)) rfl ?_
 rintro _ _ ⟨cJ,rfl,R6⟩
 refine ⟨_,rfl,?_⟩
 replace σ:=σ.more R6
 refine eE rfl<|cS Tryz.call130 (NH ⟨σ.dm,σ.aU⟩ hn) rfl ?_
 rintro _ _ ⟨tS,sF,rfl,tO⟩
 refine ⟨_,rfl,?_⟩
 replace σ:=σ.more tO
 refine eE rfl<|cS Tryz.call87 (AE (n:=n0) ae) rfl ?_
 rintro _ _ ⟨A57,I2,rfl,Jc⟩
 refine ⟨_,rfl,?_⟩
 replace σ:=σ.more Jc
 refine eE rfl<|dx Tryz.call67 (RR ⟨ax σ.fK,(lQ _),fun _ _=>trivial⟩ ⟨ax σ.dm,(lQ _),fun _ _=>trivial⟩) σ rfl fun _ σ=>kB (b':=true) (dU rfl)<|iF rfl rfl<|eE rfl<|cS Tryz.call132 (WB σ.bC σ.aU bH) rfl ?_
 rintro _ _ ⟨As,n61,c62,B63,d64,rfl,amy,amz⟩
 refine ⟨_,rfl,?_⟩
 replace σ:=σ.more amy
 exact eE rfl<|cX 5 σ rfl fun _ σ=>oR (fun e=>gC Tryz.results86 (RV.cell e aO rfl (σ.nA (k:=5) rfl) rfl) (RV.tmp e rfl))<|⟨_,_,_,_,_,rfl,σ.pick [0,1] [] ai,amz⟩
theorem Jo {w0:World} {A0:Option Addr} {n0 c0:Nat} {es0:List Pt} (h0:(u3 A0 n0 c0 es0).P w0) (bH:iA es0):
  Calls Tryz.prog 48 #[.slice A0 n0 c0] w0 fun e w'=>∃A n c B d,e=.returned (.tuple #[.agg #[ak n0,ak (3*n0+1),.slice A n c,.slice B n0 d],aq 0])/\St w0 w' [aad A n c (nS es0),aab B n0 d (sX n0)] []/\(nS es0).length=n:=by
 refine dp Tryz.func48 rfl Tryz.ntmps48 rfl fun σ=>?_
 have a8:=h0.2.1
 have vk:=bH.some_
 rw [a8] at vk
 replace σ:=σ.aE h0
 refine eE rfl<|eL bf σ rfl fun _ bJ σ=>eE rfl<|cS Tryz.call87 (AE (n:=n0) ae) rfl ?_
 rintro _ _ ⟨z8,wh,rfl,D6⟩
 refine ⟨_,rfl,?_⟩
 replace σ:=σ.more D6
 refine eE rfl<|cS Tryz.call86 (Jn σ.aU ⟨ax σ.dm,(lQ _),fun _ _=>trivial⟩ bH) rfl ?_
 rintro _ _ ⟨A55,n56,D4,B58,d59,rfl,RO,Ws⟩
 refine ⟨_,rfl,?_⟩
 replace σ:=σ.more RO
 exact eE rfl<|cX 3 σ rfl fun _ σ=>oR (fun e=>gC Tryz.results48 (RV.cell e aO rfl σ.Dg rfl) (RV.tmp e rfl))<|⟨_,_,_,_,_,rfl,σ.pick [0,1] [] ai,Ws⟩
theorem acO {i g:Int} {n0 n1:Nat} {es:List IE} {os:List Int} (h:P8 i g n0 n1 es os):jc i g n0 n1 es os:=by
 have h1:=h.1
 unfold rm at h1
 exact ⟨by omega,by omega,h.2.2,h.2.1⟩
theorem GQ {w0:World} {i g:Int} {A0 A1:Option Addr} {n0 c0 n1 c1:Nat} {es0:List IE} {es1:List Int} (h0:(jM A0 n0 c0 es0).P w0) (h1:(bE A1 n1 c1 es1).P w0) (bH:jc i g n0 n1 es0 es1):
  Calls Tryz.prog 212 #[.agg #[aq i,aq g,.slice A0 n0 c0,.slice A1 n1 c1]] w0 fun e w'=>e=.returned (.bool true)/\Below w0.heap.size w0 w':=by
 refine dp Tryz.func212 rfl Tryz.ntmps212 rfl fun σ=>?_
 have a8:=h0.2.1
 have ic:=h0.1.cap
 have bW:=h0.1.big
 unfold maxLen at bW
 have cY:=h1.2.1
 have kY:=h1.1.cap
 have eC:=h1.1.big
 unfold maxLen at eC
 replace σ:=σ.aE h0
 replace σ:=σ.aE h1
 exact eE rfl<|gN σ rfl fun _ bJ σ=>gE 0 σ rfl<|eE rfl<|dx Tryz.call41 (iu σ.bC σ.aU bH) σ rfl fun _ σ=>cZ rfl<|kB (b':=true) rfl<|o1 Tryz.results212 rfl<|⟨rfl,σ.below⟩
section
variable {B n0 c0 n1 c1:Nat} {i g:Int} {A0 A1:Option Addr} {es:List IE} {os:List Int} {w:World}
theorem GR (Ns:RW B i g A0 n0 c0 A1 n1 c1 es os w) (hR:P8 i g n0 n1 es os):
  Ji Tryz.prog 211 #[bB B] (fun x:YE=>#[NA x,WH x]) (VB es n0) (KX w.heap.size (RW B i g A0 n0 c0 A1 n1 c1 es os)) (fun xs=>xs=NB es n0) (fun pre=>∃k,k<=n0/\pre=NB es k) w:=by
 intro l0 J Jx X hX hX2 hJ hJx hY h0
 have Oy:=LJ Ns hX
 refine PC Tryz.func211 rfl Tryz.ntmps211 rfl ?_
 intro a η σ
 replace σ:=((σ.iq (bk B #[aq i,aq g,.slice A0 n0 c0,.slice A1 n1 c1] 28) Oy.1).aE Oy.2.2).aE Oy.2.1
 refine wp_seq (aj ?_)
 refine au rfl (jL (c:=#[.func (.yield l0) #[] #[]]) η σ rfl rfl rfl ?_)
 clear η σ a; intro a Uf bJ η σ
 refine wpList_nil (aT (wp_seq (wp_seq (aj ?_))))
 refine au rfl (aX (v:=.agg #[aq i,aq g,.slice A0 n0 c0,.slice A1 n1 c1]) η rfl (dX η aO rfl σ.cF rfl) ?_)
 clear η a; intro a η
 refine au rfl (cV η rfl Tryz.call212 rfl (GQ σ.aU σ.bC (acO hR)) ?_)
 rintro e w53 ⟨rfl,hb⟩
 refine ⟨_,rfl,?_⟩
 clear η a; intro a η
 replace σ:=σ.call hb
 clear hb
 refine au rfl (aX (v:=.bool false) η rfl (kF η rfl rfl) ?_)
 clear η a; intro a η
 refine wpList_nil (aT ?_)
 refine oD η rfl (rfl) ?_
 refine wp_skip (aT (wp_seq (aj ?_)))
 refine au rfl (aX (v:=.pointer (some ⟨B,2,none⟩)) η rfl (cU η sy (fa.size) ai rfl) ?_)
 clear η a; intro a η
 refine au rfl (aX (v:=.slice A0 n0 c0) η rfl (aS η fa rfl σ.cF rfl) ?_)
 clear η a; intro a η
 refine au rfl (cV η rfl Tryz.call213 rfl (Jh (A0:=A0) (n0:=n0) (c0:=c0)) ?_)
 rintro e w2 ⟨eZ,rfl,hS,vG,hb⟩
 refine ⟨_,rfl,?_⟩
 clear η a; intro a η
 have at0:X.heap.size<=bJ:=σ.oge (k:=0) rfl
 have at1:=σ.below.size
 replace σ:=σ.fresh hb (bk eZ #[.slice A0 n0 c0] 25) hS (fun _ hb=>hb ▸ vG)
 clear hS
 clear hb
 refine wpList_nil (aT (wp_block ?_))
 have hxs:=σ.below.size
 have hJ2:J [] w2:=hJ _ _ _ none h0 (jv σ.below) fun r e=>by cases e
 have ou:(bk bJ #[.func (.yield l0) #[] #[]] 297).P w2:=σ.dm
 have gx:(bk eZ #[.slice A0 n0 c0] 25).P w2:=σ.aU
 have ua:RW B i g A0 n0 c0 A1 n1 c1 es os w2:=⟨σ.eY,σ.bC,σ.cF⟩
 clear σ
 refine NC (α:=YE) (enc:=NA) (enc':=WH) (Kp:=KB (bwP eZ A0 n0 c0 es)) η rfl Tryz.call238 rfl rfl (Jk ⟨gx,ua.2.1⟩) (fun h k q=>k (h q))
  (fun Y o o' h hc hq=>⟨dC (e:=bk eZ #[.slice A0 n0 c0] 25) (B:=0) bI hq.1 (grownBy_putObj' Y _ o') fun r e=>by cases e; exact ⟨bm _,o,h,hc⟩,dC (B:=0) (fu (fun _ _ h=>h) ai) hq.2 (grownBy_putObj' Y _ o') fun r e=>by cases e; exact ⟨bm _,o,h,hc⟩⟩)
  (fun pre Y=>J pre Y/\(bk bJ #[.func (.yield l0) #[] #[]] 297).P Y/\(bk eZ #[.slice A0 n0 c0] 25).P Y/\RW B i g A0 n0 c0 A1 n1 c1 es os Y/\w2.heap.size<=Y.heap.size) (fun c pre Y=>Jx pre Y/\c=.ret)
  (fun s Y Z row hs hg hr=>⟨ki hJ hxs s Y Z row hs.1 hg hr,dC bI hs.2.1 hg hr,dC bI hs.2.2.1 hg hr,D5 hs.2.2.2.1 hg hr,bq hs.2.2.2.2 hg.size⟩)
  (fun c s Y Z row hs hg hr=>⟨ki hJx hxs s Y Z row hs.1 hg hr,hs.2⟩) ⟨hJ2,ou,gx,ua,aY _⟩
  (fun x a' Y=>∃g4,aW [] 18 a' [(2,bB bJ),(3,NA x),(4,bB g4)]/\(bk g4 #[aq x.2.1,aq x.2.2.1,aq x.2.2.2.1,aq x.2.2.2.2.1,aq x.2.2.2.2.2] 116).P Y)
  (fun x a' s Y Z row hs hg hr=>hs.elim fun g4 h=>⟨g4,h.1,dC bI h.2 hg hr⟩) ?_ ?_ ?_ ?_
 ·intro ix pre x Y K _ hi hK a η
  have σ:=St.start Y
  refine wpIn_seq (rS ?_)
  refine gh rfl (fun _ h=>by cases h) (aX (v:=NA x) η rfl (aV η rfl) ?_)
  clear η a; intro a η
  refine vS (aT (rS ?_))
  refine gh rfl (fun _ h=>by cases h) (fA (c:=#[aq 0,aq 0,aq 0,aq 0,aq 0]) η σ rfl aI rfl ?_)
  clear η σ a; intro a w84 g83 η σ
  refine gh rfl (fun _ h=>by cases h) (fW (k:=0) (c':=#[aq x.2.1,aq x.2.2.1,aq x.2.2.2.1,aq x.2.2.2.2.1,aq x.2.2.2.2.2]) η σ (an.size) rfl rfl rfl rfl cT rfl rfl ?_)
  clear η σ a; intro a w85 η σ
  refine vS ?_
  have oE:=jv σ.below
  exact aT (hK _ _ (GM σ.below) (fun q=>⟨dC (e:=bk eZ #[.slice A0 n0 c0] 25) (B:=0) bI q.1 oE (fun r e=>by cases e),dC (B:=0) (fu (fun _ _ h=>h) ai) q.2 oE (fun r e=>by cases e)⟩)
   ⟨ki hJ hxs _ _ _ none hi.1 oE (fun r e=>by cases e),dC (B:=0) bI hi.2.1 oE (fun r e=>by cases e),dC (B:=0) bI hi.2.2.1 oE (fun r e=>by cases e),D5 (D:=0) hi.2.2.2.1 oE (fun r e=>by cases e),bq hi.2.2.2.2 oE.size⟩
   ⟨g83,η.sub ay,σ.dj⟩)
 ·rintro ix pre x a Y hv hi ⟨g4,η,hg4⟩
  refine wpIn_block (wpIn_seq (rS ?_))
  refine gh rfl (fun _ h=>by cases h) (aX (v:=.func (.yield l0) #[] #[]) η rfl (aS η ng rfl hi.2.1 rfl) ?_)
  clear η a; intro a η
  refine gh rfl (fun _ h=>by cases h) (aX (v:=NA x) η rfl (b7 η rfl) ?_)
  clear η a; intro a η
  refine gh rfl (fun _ h=>by cases h) (aX (v:=WH x) η rfl (dX η an rfl hg4 rfl) ?_)
  clear η a; intro a η
  refine za rfl (wy η rfl rfl rfl (hY pre x Y hv hi.1) ?_)
  rintro e Z hZ
  have hkx:KX w.heap.size (RW B i g A0 n0 c0 A1 n1 c1 es os) Y Z:=by
   rcases hZ with h | h
   ·exact h.2.2
   ·exact h.2.2
  have hkf:KeepsFrom w2.heap.size Y Z:=⟨hkx.1,fun b o hb ho _=>hkx.2.1 b o ae ho⟩
  have ld:(bk bJ #[.func (.yield l0) #[] #[]] 297).P Z:=hkx.2.1 _ _ ae hi.2.1
  have T3:(bk eZ #[.slice A0 n0 c0] 25).P Z:=hkx.2.1 _ _ ae hi.2.2.1
  have hz3:=hkx.2.2 hi.2.2.2.1
  rcases hZ with ⟨rfl,hJ3,_⟩ | ⟨rfl,hJ3,_⟩
  ·refine ⟨_,rfl,?_⟩
   clear η a; intro a η
   refine gh rfl (fun _ h=>by cases h) (aX (v:=.bool false) η rfl (kF η rfl rfl) ?_)
   clear η a; intro a η
   refine vS (aT ?_)
   refine PB η rfl rfl ?_
   refine wpIn_skip (qA ?_)
   exact ⟨hkf,fun _=>⟨T3,hz3.2.1⟩,hJ3,ld,T3,hz3,bq hi.2.2.2.2 hkx.1⟩
  ·refine ⟨_,rfl,?_⟩
   clear η a; intro a η
   refine gh rfl (fun _ h=>by cases h) (aX (v:=.bool true) η rfl (kF η rfl rfl) ?_)
   clear η a; intro a η
   refine vS (aT ?_)
   refine PA η rfl rfl ?_
   refine wpIn_ret (mZ ?_)
   exact ⟨hkf,fun _=>⟨T3,hz3.2.1⟩,hJ3,rfl⟩
 ·intro D xs Z a hD hS hI hdD η
  refine qA ?_
  refine rT η hdD (MK Tryz.results211) ?_
  exact ⟨⟨_,rfl⟩,.inl ⟨_,hS,hJ.putObj _ hI.1 ae hdD rfl⟩⟩
 ·rintro D c pre Z a hD hS ⟨hI,rfl⟩ hdD η
  refine wp_ret (mZ ?_)
  refine rT η hdD (MK Tryz.results211) ?_
  exact ⟨⟨_,rfl⟩,.inr ⟨_,hS,hJx.putObj _ hI ae hdD rfl⟩⟩
end
theorem CC {i:Int} {g:Nat} {n0 n1:Nat} {es:List IE} {os:List Int} (h:jc i (g:Nat) n0 n1 es os):P8 i (g:Nat) n0 n1 es os:=by
 have h1:=h.i1
 have h2:=h.ln
 exact ⟨by unfold rm; omega,h.out,h.may⟩
theorem LL {os:List Int} {es:List IE} {k:Nat} {e:IE} (he:es[k]?=some e) (h:(gG os (es.drop (k+1))).2 e.2.1=false):wT os es (k+1)=wT os es k:=by
 have h1:=Dz (os:=os) he
 rw [h,M' (VH (qJ k))] at h1
 exact h1
theorem R7 {es:List IE} {bs:List Bool} {j:Nat} {e:IE} {b:Bool} (he:es[j]?=some e) (hb:bs[j]?=some b):Ub (es.drop j) (bs.drop j)=(if b && !nm e then [e] else [])++Ub (es.drop (j+1)) (bs.drop (j+1)):=by
 rw [kM he,kM hb,Ub]
 split<;>rfl
theorem acP {es:List IE} {bs:List Bool} {j:Nat} (h:es.length<=j):Ub (es.drop j) (bs.drop j)=[]:=by rw [dM h]; cases bs.drop j<;>rfl
theorem Jp {w0:World} {op tr ra rb cn:Int}:
  Calls Tryz.prog 140 #[.agg #[aq op,aq tr,aq ra,aq rb,aq cn]] w0 fun e w'=>e=.returned (.bool (nm (op,tr,ra,rb,cn)))/\Below w0.heap.size w0 w':=by
 refine dp Tryz.func140 rfl Tryz.ntmps140 rfl fun σ=>eE rfl<|gN σ rfl fun _ bJ σ=>lE 0 σ rfl<|cZ rfl<|wQ (fun jG=>?_) fun jG=>?_
 ·exact lE 0 σ rfl<|lE 0 σ rfl<|cZ rfl<|o1 Tryz.results140 rfl<|⟨aM (fun b=>Ending.returned (Value.bool b)) (vC.2 (by unfold nm; simp [*])),σ.below⟩
 ·exact o1 Tryz.results140 rfl<|⟨aM (fun b=>Ending.returned (Value.bool b)) (vC.2 (by unfold nm; simp [*])),σ.below⟩
theorem NI {w0:World} {i:Int} {g:Nat} {A0 A1:Option Addr} {n0 c0 n1 c1:Nat} {es0:List IE} {es1:List Int} (h0:(jM A0 n0 c0 es0).P w0) (h1:(bE A1 n1 c1 es1).P w0) (bH:jc i (g:Nat) n0 n1 es0 es1):
  Calls Tryz.prog 139 #[.agg #[aq i,ak g,.slice A0 n0 c0,.slice A1 n1 c1]] w0 fun e w'=>∃A c,e=.returned (.slice A n0 c)/\St w0 w' [av ar 4 1 A n0 c (fl fO (gG es1 es0).1)] []:=by
 have k1:=bH.i1
 have k2:=bH.ln
 have hR:=CC bH
 refine enM tb mixed Tryz.func139 rfl Tryz.ntmps139 rfl fun σ=>?_
 have a8:=h0.2.1
 have ic:=h0.1.cap
 have bW:=h0.1.big
 unfold maxLen at bW
 have cY:=h1.2.1
 have kY:=h1.1.cap
 have eC:=h1.1.big
 unfold maxLen at eC
 replace σ:=σ.aE h0
 replace σ:=σ.aE h1
 refine eE rfl<|gN σ rfl fun _ bJ σ=>We rfl<|lE 0 σ rfl<|eE rfl<|yg fO false ar σ ni rfl ae (by unfold maxLen; omega) fun _ cJ σ=>eE rfl<|eL pD σ rfl fun _ fo σ=>eE rfl<|j0 0 σ rfl fun _ σ=>lE 2 σ rfl<|?_
 rw [Ql,show oZ g (fun _=>false)=oZ g (Cj (fun _=>false) (es1.take 0)) from pK fun r=>(DB (fun _=>false) r).symm] at σ
 refine fX (fun mz l w=>∃j:Nat,n1 - j=mz/\l=[(17,ak j),(1,bB bJ),(3,bB fo),(15,.slice A1 n1 c1),(16,ak n1)]/\St w0 w [bk fo #[.slice (bh cJ) g g] 219,aal (bh cJ) g g (oZ g (Cj (fun _=>false) (es1.take j))),bk bJ #[aq i,ak g,.slice A0 n0 c0,.slice A1 n1 c1] 28] [bE A1 n1 c1 es1,jM A0 n0 c0 es0]/\j<=n1) ⟨0,rfl,rfl,σ,(bm _)⟩ ay ?_
 rintro _ _ _ ⟨j,rfl,rfl,σ,hj⟩
 refine ei rfl<|wD (fun pV=>?_) fun pV=>?_
 ·have cD:j<n1:=ae
  obtain ⟨x,b5⟩:∃e,es1[j]?=some e:=⟨_,aw ae⟩
  have xG:=bH.out x (aB b5)
  obtain ⟨q,rfl⟩:=dh xG.1
  have hqg:q<g:=ae
  refine iT rfl rfl<|vE rfl (fun η=>az (i:=j) η Tryz.underlying26 (aD.size) rfl rfl ae rfl σ.aU.1)<|cE rfl (fun η=>aJ (i:=j) (j:=0) (e:=((q:Nat):Int)) η aD rfl rfl bn ai σ.aU.1 ae b5 rfl)<|lE 0 σ rfl<|vE rfl (fun η=>az (i:=q) η Tryz.underlying219 (bQ.size) rfl rfl ae rfl (ax σ.fK))<|eE rfl<|qI 1 q (e1:=true) fi σ rfl rfl ae (r8 _ _) fun _ σ=>?_
  rw [xV b5] at σ
  exact can (j:=1) rfl ae<|dF ⟨j+1,rfl,rfl,σ,ae⟩ ay ae
 ·rw [bD (by omega),KU] at σ
  refine iF rfl rfl<|lE 2 σ rfl<|eE rfl<|yg fO false ar σ ni rfl ae (by unfold maxLen; omega) fun _ oo σ=>eE rfl<|eL pD σ rfl fun _ yi σ=>eE rfl<|j0 0 σ rfl fun _ σ=>?_
  rw [<- KT es1 a8,show (gG es1 []).2=(gG es1 (es0.drop n0)).2 by rw [dM ae]] at σ
  refine gE 4 σ rfl<|eE rfl<|cS Tryz.call184 (RU (i:=i) (g:=(g:Nat)) (A0:=A0) (n0:=n0) (c0:=c0) (A1:=A1) (n1:=n1) (c1:=c1)) rfl ?_
  rintro _ _ ⟨gB,rfl,hS,vG,hb⟩
  refine ⟨_,rfl,?_⟩
  replace σ:=σ.fresh hb (bk gB #[aq i,ak g,.slice A0 n0 c0,.slice A1 n1 c1] 28) hS (fun _ hb=>hb ▸ vG)
  refine nmE σ fun wL σ=>?_
  have mn:=σ.below.size
  have R8:=RY σ
  refine rgE (α:=YE) (encs:=fun x:YE=>#[ak x.1,.agg #[aq x.2.1,aq x.2.2.1,aq x.2.2.2.1,aq x.2.2.2.2.1,aq x.2.2.2.2.2]]) (V:=VB es0 n0) rfl Tryz.call211 (fun _=>rfl) (by exact ua rfl) (GR ⟨σ.aU,σ.cF,σ.bC⟩ hR) (GN) ((fun Y o o' h hc=>RX h hc)) (fun pre W=>St w0 W [bk yi #[.slice (bh oo) n0 n0] 219,aal (bh oo) n0 n0 (wT es1 es0 (n0 - pre.length)),bk fo #[.slice (bh cJ) g g] 219,aal (bh cJ) g g (oZ g (gG es1 (es0.drop (n0 - pre.length))).2),bk bJ #[aq i,ak g,.slice A0 n0 c0,.slice A1 n1 c1] 28] [bk gB #[aq i,ak g,.slice A0 n0 c0,.slice A1 n1 c1] 28,bE A1 n1 c1 es1,jM A0 n0 c0 es0]/\wL.heap.size<=W.heap.size) (fun x l W=>∃g4,wL.heap.size<=g4/\l=[(3,bB fo),(6,bB yi),(7,ak x.1),(8,bB g4)]/\(bk g4 #[aq x.2.1,aq x.2.2.1,aq x.2.2.2.1,aq x.2.2.2.2.1,aq x.2.2.2.2.2] 116).P W) (fun _ _ _ _ ⟨σ,tU⟩ hg hr=>⟨σ.grown mn ⟨bI,fc,bI,fc,bI,trivial⟩ ⟨bI,(fu (fun _ _ h=>h) ai),(fu (fun _ _ h=>h) ai),trivial⟩ hg hr,bq tU hg.size⟩) (fun x l s Y Z row ⟨g4,h1,h2,h3⟩ hg hr=>⟨g4,h1,h2,dC bI h3 hg hr⟩) ⟨σ.pick [0,1,2,3,4] [0,1,2] ai,aY _⟩ ?_ ?_ ?_
  ·rintro ix pre x W K hV ⟨hsi,tU⟩ hK
   have σ:=St.start W
   exact eE rfl<|eL aI σ rfl fun _ u5 σ=>eE rfl<|cX 0 σ rfl fun _ σ=>qaE fun a ea=>hK a [(3,bB fo),(6,bB yi),(7,ak x.1),(8,bB u5)] _ (ea.sub ay) (GM σ.below) (Zj σ.below) ⟨hsi.grown (B:=wL.heap.size) mn ⟨bI,fc,bI,fc,bI,trivial⟩ ⟨bI,(fu (fun _ _ h=>h) ai),(fu (fun _ _ h=>h) ai),trivial⟩ (jv σ.below) (fun r e=>by cases e),bq tU σ.below.size⟩ (⟨u5,bq tU (σ.oge (k:=0) rfl),rfl,σ.dj⟩)
  ·rintro ix pre ⟨xj,x1,x2,x3,x4,x5⟩ l W ⟨Ig,Ug,hex⟩ ⟨σ,tU⟩ ⟨g4,hg4,rfl,hgb⟩
   dsimp only at hex hgb Ug
   have hmy:cN (x1,x2,x3,x4,x5) g:=bH.may _ (aB hex)
   have Ov:=hmy
   unfold cN at Ov
   dsimp only at Ov
   obtain ⟨t,ht⟩:∃t:Nat,x2=t:=⟨x2.toNat,by omega⟩
   subst ht
   have htg:t<g:=ae
   have hak:=pY hmy
   have Zo:n0 - pre.length=xj+1:=ae
   have amF:xj<n0:=ae
   rw [Zo] at σ
   have tB:s5 wL.heap.size [bk yi #[.slice (bh oo) n0 n0] 219,aal (bh oo) n0 n0 (wT es1 es0 (xj+1)),bk fo #[.slice (bh cJ) g g] 219,aal (bh cJ) g g (oZ g (gG es1 (es0.drop (xj+1))).2),bk bJ #[aq i,ak g,.slice A0 n0 c0,.slice A1 n1 c1] 28]:=R8
   replace σ:=σ.Zi tB hg4 hgb
   replace σ:=σ.Zh tB
   obtain ⟨bt,R9⟩:∃bt,(gG es1 (es0.drop (xj+1))).2 ((t:Nat):Int)=bt:=⟨_,rfl⟩
   have hbe:(oZ g (gG es1 (es0.drop (xj+1))).2)[t]?=some bt:=by rw [Qk htg,R9]
   refine lE 2 σ rfl<|cE rfl (fun η=>aS η aD rfl (kg σ.bC) rfl)<|vE rfl (fun η=>az (i:=t) η Tryz.underlying219 (bQ.size) rfl rfl ae rfl (ax σ.tw))<|cE rfl (fun η=>aJ (i:=t) (j:=0) (e:=bt) η bQ rfl rfl fi ai (ax σ.tw) ae hbe rfl)<|wB (fun rB=>?_) fun rB=>?_
   ·subst rB
    refine iF rfl rfl<|lE 0 σ rfl<|vE rfl (fun η=>az (i:=xj) η Tryz.underlying219 (bQ.size) rfl rfl ae rfl (ax σ.fK))<|eE rfl<|qI 1 xj (e1:=true) fi σ rfl rfl ae ((KS ae).trans a8) fun _ σ=>lE 2 σ rfl<|cE rfl (fun η=>aS η aD rfl (kg σ.bC) rfl)<|vE rfl (fun η=>az (i:=t) η Tryz.underlying219 (bQ.size) rfl rfl ae rfl (ax σ.tw))<|eE rfl<|qI 3 t (e1:=false) fi σ rfl rfl ae (r8 _ _) fun _ σ=>cE rfl (fun η=>dX η an rfl (kg σ.bC) rfl)<|eE rfl<|cS Tryz.call121 (mB (op:=x1) (tr:=((t:Nat):Int)) (ra:=x3) (rb:=x4) (cn:=x5) ae) rfl ?_
    rintro _ _ ⟨LF,HJ,n61,rfl,wm,tQ⟩
    refine ⟨_,rfl,?_⟩
    replace σ:=σ.more wm
    have J1:=kJ x1 x3 x4
    rw [DA,show oZ g (fun r=>if r=((t:Nat):Int) then false else (gG es1 (es0.drop (xj+1))).2 r)=oZ g (Cj (fun r=>if r=((t:Nat):Int) then false else (gG es1 (es0.drop (xj+1))).2 r) ((cP x1 x3 x4).take 0)) from pK fun r=>(DB (fun r=>if r=((t:Nat):Int) then false else (gG es1 (es0.drop (xj+1))).2 r) r).symm] at σ
    refine fX (fun mz l w=>∃m:Nat,n61 - m=mz/\l=[(49,ak m),(3,bB fo),(47,.slice LF n61 HJ),(48,ak n61)]/\St w0 w [aab LF n61 HJ (cP x1 x3 x4),bk yi #[.slice (bh oo) n0 n0] 219,aal (bh oo) n0 n0 ((wT es1 es0 (xj+1)).set xj true),bk fo #[.slice (bh cJ) g g] 219,aal (bh cJ) g g (oZ g (Cj (fun r=>if r=((t:Nat):Int) then false else (gG es1 (es0.drop (xj+1))).2 r) ((cP x1 x3 x4).take m))),bk bJ #[aq i,ak g,.slice A0 n0 c0,.slice A1 n1 c1] 28] [kaF wL.heap.size W,bk g4 #[aq x1,ak t,aq x3,aq x4,aq x5] 116,bk gB #[aq i,ak g,.slice A0 n0 c0,.slice A1 n1 c1] 28,bE A1 n1 c1 es1,jM A0 n0 c0 es0]/\m<=n61) ⟨0,rfl,rfl,σ,(bm _)⟩ ay ?_
    rintro _ _ _ ⟨m,rfl,rfl,σ,hm⟩
    refine ei rfl<|wD (fun Gz=>?_) fun Gz=>?_
    ·have UG:m<(cP x1 x3 x4).length:=ae
     obtain ⟨x,b5⟩:∃e,(cP x1 x3 x4)[m]?=some e:=⟨_,aw UG⟩
     have xG:=hak x (aB b5)
     obtain ⟨q,rfl⟩:=dh xG.1
     have hqg:q<g:=ae
     refine iT rfl rfl<|vE rfl (fun η=>az (i:=m) η Tryz.underlying26 (aD.size) rfl rfl ae rfl (ax σ.dm))<|cE rfl (fun η=>aJ (i:=m) (j:=0) (e:=((q:Nat):Int)) η aD rfl rfl bn ai (ax σ.dm) ae b5 rfl)<|lE 3 σ rfl<|vE rfl (fun η=>az (i:=q) η Tryz.underlying219 (bQ.size) rfl rfl ae rfl (ax σ.Bl))<|eE rfl<|qI 4 q (e1:=true) fi σ rfl rfl ae (r8 _ _) fun _ σ=>?_
     rw [xV b5] at σ
     exact can (j:=1) rfl ae<|dF ⟨m+1,rfl,rfl,σ,ae⟩ ay ae
    ·refine iF rfl rfl<|?_
     rw [show (wT es1 es0 (xj+1)).set xj true=wT es1 es0 xj from by rw [<- R9]; exact Dz hex,bD (show (cP x1 x3 x4).length<=m by omega),show oZ g (Cj (fun r=>if r=((t:Nat):Int) then false else (gG es1 (es0.drop (xj+1))).2 r) (cP x1 x3 x4))=oZ g (gG es1 (es0.drop xj)).2 from Qm hex rfl R9] at σ
     have cY:n0 - (pre++[((xj,x1,(t:Int),x3,x4,x5):YE)]).length=xj:=by rw [aP,dG]; omega
     rw [<- cY] at σ
     exact rdE ⟨σ.ka (k:=0) rfl,σ.kax (k:=0) rfl ⟨σ.cF,σ.jW,σ.eY⟩,⟨σ.pick [1,2,3,4,5] [2,3,4] ai,bq tU (σ.ka (k:=0) rfl).size⟩⟩
   ·subst rB
    refine iT rfl rfl<|?_
    rw [show wT es1 es0 (xj+1)=wT es1 es0 xj from LL hex R9,show (gG es1 (es0.drop (xj+1))).2=(gG es1 (es0.drop xj)).2 from (YO hex R9).symm] at σ
    have cY:n0 - (pre++[((xj,x1,(t:Int),x3,x4,x5):YE)]).length=xj:=by rw [aP,dG]; omega
    rw [<- cY] at σ
    exact rdE ⟨σ.ka (k:=0) rfl,σ.kax (k:=0) rfl ⟨σ.cF,σ.jW,σ.eY⟩,⟨σ.pick [0,1,2,3,4] [2,3,4] ai,bq tU (σ.ka (k:=0) rfl).size⟩⟩
  ·rintro D66 xs W acQ hS ⟨σ,tU⟩ Sa
   obtain rfl:=hS
   rw [ym,mR] at σ
   replace σ:=σ.Va ⟨bI,fc,bI,fc,bI,trivial⟩ Sa
   have Sb:=bq mn acQ
   refine lE 0 σ rfl<|?_
   have uE:=σ.Vb (k:=0) rfl Sb ⟨bI,fc,bI,fc,bI,trivial⟩ ⟨bI,(fu (fun _ _ h=>h) ai),(fu (fun _ _ h=>h) ai),trivial⟩
   exact oM1 Tryz.results139 rfl σ.aU ⟨_,_,rfl,uE.pick [1] [] ai⟩
theorem WN {w0:World} {i:Int} {g:Nat} {A0 A1:Option Addr} {n0 c0 n1 c1:Nat} {es0:List IE} {es1:List Int} (h0:(jM A0 n0 c0 es0).P w0) (h1:(bE A1 n1 c1 es1).P w0) (bH:jc i (g:Nat) n0 n1 es0 es1):
  Calls Tryz.prog 91 #[.agg #[aq i,ak g,.slice A0 n0 c0,.slice A1 n1 c1]] w0 fun e w'=>∃A n c B d,e=.returned (.tuple #[.agg #[aq i,ak g,.slice A n c,.slice B n1 d],aq 0])/\St w0 w' [aad A n c (mh es1 es0),aab B n1 d es1] []/\(mh es1 es0).length=n:=by
 have k1:=bH.i1
 have k2:=bH.ln
 refine dp Tryz.func91 rfl Tryz.ntmps91 rfl fun σ=>?_
 have a8:=h0.2.1
 have ic:=h0.1.cap
 have bW:=h0.1.big
 unfold maxLen at bW
 have cY:=h1.2.1
 have kY:=h1.1.cap
 have eC:=h1.1.big
 unfold maxLen at eC
 replace σ:=σ.aE h0
 replace σ:=σ.aE h1
 refine eE rfl<|gN σ rfl fun _ bJ σ=>eE rfl<|eL bf σ rfl fun _ cJ σ=>gE 1 σ rfl<|eE rfl<|dx Tryz.call41 (iu σ.bC σ.aU bH) σ rfl fun _ σ=>ir rfl<|kB (b':=false) rfl<|iF rfl rfl<|gE 1 σ rfl<|eE rfl<|cS Tryz.call139 (NI σ.bC σ.aU bH) rfl ?_
 rintro _ _ ⟨oK,nv,rfl,Jg⟩
 refine ⟨_,rfl,?_⟩
 replace σ:=σ.more Jg
 replace σ:=(σ.cl ar 116 5)
 refine fX (fun mz l w=>∃j:Nat,∃A2:Option Addr,∃c2:Nat,∃n2:Nat,∃dL:List IE,n0 - j=mz/\l=[(6,.slice A2 n2 c2),(21,ak j),(1,bB bJ),(2,bB cJ),(19,.slice oK n0 nv),(20,ak n0)]/\St w0 w [aad A2 n2 c2 dL,aal oK n0 nv ((gG es1 es0).1),bk cJ #[aq 0,aq 0,bA,bA] 28,bk bJ #[aq i,ak g,.slice A0 n0 c0,.slice A1 n1 c1] 28] [bE A1 n1 c1 es1,jM A0 n0 c0 es0]/\j<=n0/\dL++Ub (es0.drop j) ((gG es1 es0).1.drop j)=mh es1 es0/\dL.length=n2/\n2<=j) ⟨0,none,0,0,([]:List IE),rfl,rfl,σ,(bm _),rfl,rfl,(aY _)⟩ ay ?_
 rintro _ _ _ ⟨j,A2,c2,n2,dL,rfl,rfl,σ,hj,hi,jb,gx⟩
 refine ei rfl<|wD (fun wa=>?_) fun wa=>?_
 ·have cD:j<n0:=ae
  obtain ⟨⟨op,tr,ra,rb,cn⟩,b5⟩:∃e,es0[j]?=some e:=⟨_,aw ae⟩
  have hbl:=KR es1 es0
  obtain ⟨bj,hbj⟩:∃e,(gG es1 es0).1[j]?=some e:=⟨_,aw ae⟩
  refine iT rfl rfl<|vE rfl (fun η=>az (i:=j) η Tryz.underlying219 (bQ.size) rfl rfl ae rfl (ax σ.fK))<|cE rfl (fun η=>aJ (i:=j) (j:=0) (e:=bj) η bQ rfl rfl fi ai (ax σ.fK) ae hbj rfl)<|wB (fun Ah=>?_) fun Ah=>?_
  ·subst Ah
   refine lE 3 σ rfl<|vE rfl (fun η=>az (i:=j) η Tryz.underlying25 (an.size) rfl rfl ae rfl σ.bC.1)<|cE rfl (fun η=>bF (v:=#[aq op,aq tr,aq ra,aq rb,aq cn]) (i:=j) (e:=(op,tr,ra,rb,cn)) η an rfl rfl iR σ.bC.1 ae b5 rfl)<|eE rfl<|dx Tryz.call140 (Jp (op:=op) (tr:=tr) (ra:=ra) (rb:=rb) (cn:=cn)) σ rfl fun _ σ=>wB (fun rB=>?_) fun rB=>?_
   ·exact iF rfl rfl<|can (j:=1) rfl ae<|dF ⟨j+1,A2,c2,n2,dL,rfl,rfl,σ,ae,(by have h9:=hi; rw [R7 b5 hbj,rB] at h9; simpa using h9),(by simp [jb]),ae⟩ ay ae
   ·exact iT rfl rfl<|lE 3 σ rfl<|vE rfl (fun η=>az (i:=j) η Tryz.underlying25 (an.size) rfl rfl ae rfl σ.bC.1)<|cE rfl (fun η=>bF (v:=#[aq op,aq tr,aq ra,aq rb,aq cn]) (i:=j) (e:=(op,tr,ra,rb,cn)) η an rfl rfl iR σ.bC.1 ae b5 rfl)<|eE rfl<|lr (z:=5) #[aq op,aq tr,aq ra,aq rb,aq cn] σ (an.size) aI rfl aK fun _ B4 σ=>eE rfl<|pT (new:=[(op,tr,ra,rb,cn)]) 1 0 σ bT rfl (by unfold maxLen; omega) ae fun _ Bt uc σ=>can (j:=1) rfl ae<|dF ⟨j+1,(bh Bt),uc,(n2+1),(dL++[(op,tr,ra,rb,cn)]),rfl,rfl,σ.pick [1,2,3,4] [0,1] ai,ae,(by have h9:=hi; rw [R7 b5 hbj,rB] at h9; simpa using h9),(by simp [jb]),ae⟩ ay ae
  ·subst Ah
   exact iF rfl rfl<|can (j:=1) rfl ae<|dF ⟨j+1,A2,c2,n2,dL,rfl,rfl,σ,ae,(by have h9:=hi; rw [R7 b5 hbj] at h9; simpa using h9),(by simp [jb]),ae⟩ ay ae
 ·have acR:dL=mh es1 es0:=by rw [<- hi,acP ae,fv]
  refine iF rfl rfl<|gY [9] [0,5,8,13,16,20,25,30,32,38,40] aK σ fun _ σ=>lS 3 rfl<|lS 3 rfl<|lS 3 rfl<|eS rfl<|cS Tryz.call94 (wv σ.aU ae) rfl ?_
  rintro _ _ ⟨A62,Wn,rfl,TT⟩
  refine ⟨_,rfl,?_⟩
  replace σ:=σ.more TT
  exact sk (σ.kd 1 0)<|vE rfl (fun η=>cK (c:=#[aq i,ak g,.slice A2 n2 c2,.slice A62 n1 Wn]) eM η rfl rfl)<|eS rfl<|cX 3 σ rfl fun _ σ=>sz rfl<|oR (fun e=>gC Tryz.results91 (RV.cell e aO rfl σ.Dg rfl) (RV.tmp e rfl))<|by rw [<- acR]; exact ⟨_,_,_,_,_,rfl,σ.pick [1,0] [] ai,jb⟩
def lsK (k:Ky):List Int:=[k.1,k.2.1,k.2.2.1,k.2.2.2]
theorem amJ:Fk Tryz.prog 273 4:=⟨by kernel_rfl,by kernel_rfl,by kernel_rfl,by kernel_rfl,by kernel_rfl⟩
theorem WO (b:Bool) (x:Ky) (w:World):(Instr.checkKey b 10000 273 (.agg (ints (lsK x)))).run Tryz.prog w=.ok () w:=by
 have hi:∀(c:Value) (n:Nat),(Instr.checkKey b (n+1) 3 (aq 0)).run Tryz.prog w=.ok () w:=fun _ n=>MapKept.run_checkKey Tryz.underlying3 (by simp [MapKept.IsKey]) b n
 have hk:∀(v:Int) (n:Nat),(Instr.checkKey b (n+1) 3 (aq v)).run Tryz.prog w=.ok () w:=fun v n=>MapKept.run_checkKey Tryz.underlying3 (by simp [MapKept.IsKey]) b n
 have hp:∀(off:Nat) (v:Int),(ints (lsK x))[off]?=some (aq v)->(part 3 (ints (lsK x)) off).run Tryz.prog w=.ok (aq v) w:=fun off v h=>run_part_plain _ aK h
 unfold Instr.checkKey
 simp only [Sem.run_bind,run_underlying Tryz.underlying273,Result.andThen_ok]
 simp [hp 0 x.1 rfl,hp 1 x.2.1 rfl,hp 2 x.2.2.1 rfl,hp 3 x.2.2.2 rfl,hk,Result.andThen]
theorem GU:Sc Tryz.prog 273 (fun x:Ky=>Value.agg (ints (lsK x))):=kyS lsK amJ Tryz.underlying273 (fun _=>rfl) (fun x y h=>by
 obtain ⟨a,b,c,d⟩:=x
 obtain ⟨a',b',c',d'⟩:=y
 simpa [lsK] using h) WO
theorem fj (w:World):(zeroValue 3).run Tryz.prog w=.ok (aq 0) w:=by
 rw [Tryz.zeroValue3]
section
variable {α:Type} [DecidableEq α]
theorem u7 (x k:α) (v:Int):∀(l:List (α×Int)) (i:Nat),yo x (l++[(k,v)]) i=match yo x l i with | some r=>some r | none=>if k=x then some (i+l.length,v) else none
 | [],i=>by unfold yo; rfl
 | p::l,i=>by
  rw [qj,yo,yo]
  by_cases h:p.1=x
  ·rw [aR h,aR h]
  ·rw [aQ h,aQ h,u7 x k v l (i+1),dy,show i+1+l.length=i+(l.length+1) by omega]
end
def Se (lm kn:List (Ky×Int)):Prop:=∀x,rC x lm=(YM kn x).isSome/\EI x lm=(YM kn x).getD 0
theorem Se.nil:Se [] []:=fun _=>⟨rfl,rfl⟩
theorem Se.add {lm kn:List (Ky×Int)} (h:Se lm kn) {k:Ky} {v:Int} (hk:rC k lm=false):Se (lm++[(k,v)]) ((k,v)::kn):=fun x=>by
 have h1:=h x
 unfold rC EI at h1
 unfold rC at hk
 unfold rC EI
 rw [u7,YM]
 by_cases q:k=x
 ·subst q
  cases hf:yo k lm 0 with
  | none=>simp
  | some r=>rw [hf] at hk; cases hk
 ·rw [aQ q,aQ q]
  cases hf:yo x lm 0 with
  | none=>rw [hf] at h1; exact h1
  | some r=>rw [hf] at h1; exact h1
theorem WQ {h:List Int} {v:Int} {j:Nat} (hn:∀x,x<j->h[x]?≠some v) (hj:h[j]?=some v):mE h v=(j:Nat):=by
 unfold mE
 obtain ⟨hl,hv⟩:=bU.1 hj
 rw [tc.2 ⟨hl,dU hv,fun k hk=>by
  have:=hn k hk
  rw [aw ae] at this
  simpa using this⟩]
theorem Sf {h:List Int} {v:Int} (hn:∀x,x<h.length->h[x]?≠some v):mE h v=-1:=by
 unfold mE
 rw [Bf.2 fun x hx=>by
  obtain ⟨i,hi⟩:=lV hx
  have:=hn i (bU.1 hi).1
  rw [hi] at this
  simpa using this]
theorem WR {h:List Int} {v x:Int} {j:Nat} (hn:∀x,x<j->h[x]?≠some v) (hj:h[j]?=some x) (hx:x≠v):∀x,x<j+1->h[x]?≠some v:=fun y hy=>by
 rcases dr y j with c | c
 ·exact hn y c
 ·obtain rfl:y=j:=ae
  rw [hj]
  simpa using hx
theorem oO {h:List Int} {r:Nat} {x:Int} (hx:h[r]?=some x):h.getD ((r:Nat):Int).toNat 0=x:=by rw [mJ,aF,hx]; rfl
theorem oP {w0:World} {v:Int} {t n c k1 k2:Nat} {A:Option Addr} {nx:Int} {h:List Int} (ht:(bk t #[.slice A n c,.map (some k1),.map (some k2),aq nx] 218).P w0) (hh:(bE A n c h).P w0):
  Calls Tryz.prog 138 #[bB t,aq v] w0 fun e w'=>e=.returned (aq (mE h v))/\Below w0.heap.size w0 w':=by
 refine dp Tryz.func138 rfl Tryz.ntmps138 rfl fun σ=>?_
 have hlen:=hh.2.1
 have vK:=bq hh.1.cap hh.1.big
 unfold maxLen at vK
 replace σ:=(σ.iq _ ht).aE hh
 refine We rfl<|cE rfl (fun η=>aS η nN rfl (kg σ.bC) rfl)<|fX (fun mz l w=>∃j:Nat,n - j=mz/\l=[(12,ak j),(1,aq v),(10,.slice A n c),(11,ak n)]/\St w0 w [] [bE A n c h,bk t #[.slice A n c,.map (some k1),.map (some k2),aq nx] 218]/\j<=n/\(∀x,x<j->h[x]?≠some v)) ⟨0,rfl,rfl,σ,(bm _),(fun _ h=>absurd h (ks _))⟩ ay ?_
 rintro _ _ _ ⟨j,rfl,rfl,σ,hj,sY⟩
 refine ei rfl<|wD (fun iz=>?_) fun iz=>?_
 ·have cD:j<n:=ae
  obtain ⟨x,b5⟩:∃e,h[j]?=some e:=⟨_,aw ae⟩
  refine iT rfl rfl<|vE rfl (fun η=>az (i:=j) η Tryz.underlying26 (aD.size) rfl rfl ae rfl σ.aU.1)<|cE rfl (fun η=>aJ (i:=j) (j:=0) (e:=x) η aD rfl rfl bn ai σ.aU.1 ae b5 rfl)<|ir rfl<|wN (fun jG=>?_) fun jG=>?_
  ·exact iT rfl rfl<|can (j:=1) rfl ae<|dF ⟨j+1,rfl,rfl,σ,ae,(WR sY b5 jG)⟩ ay ae
  ·exact iF rfl rfl<|o1 Tryz.results138 rfl<|⟨by rw [WQ sY (by rw [b5]; congr 1<;>omega)],σ.below⟩
 ·exact iF rfl rfl<|o1 Tryz.results138 rfl<|⟨by rw [Sf fun x hx=>sY x ae],σ.below⟩
theorem Sg {w0:World} {kn:List (Ky×Int)} {t n c k1 k2:Nat} {A:Option Addr} {nx:Int} {h:List Int} (ht:(bk t #[.slice A n c,.map (some k1),.map (some k2),aq nx] 218).P w0) (hh:(bE A n c h).P w0) {op cn:Int} {tr ra rb g:Nat} (hM:cN (op,((tr:Nat):Int),((ra:Nat):Int),((rb:Nat):Int),cn) (g:Nat)) (hg:h.length=g):
  Calls Tryz.prog 183 #[bB t,.agg #[aq op,ak tr,ak ra,ak rb,aq cn]] w0 fun e w'=>e=.returned (.agg #[aq (fe ⟨h,kn,nx⟩ (op,((tr:Nat):Int),((ra:Nat):Int),((rb:Nat):Int),cn)).1,aq (fe ⟨h,kn,nx⟩ (op,((tr:Nat):Int),((ra:Nat):Int),((rb:Nat):Int),cn)).2.1,aq (fe ⟨h,kn,nx⟩ (op,((tr:Nat):Int),((ra:Nat):Int),((rb:Nat):Int),cn)).2.2.1,aq (fe ⟨h,kn,nx⟩ (op,((tr:Nat):Int),((ra:Nat):Int),((rb:Nat):Int),cn)).2.2.2])/\Below w0.heap.size w0 w':=by
 refine dp Tryz.func183 rfl Tryz.ntmps183 rfl fun σ=>?_
 have hlen:=hh.2.1
 have vK:=bq hh.1.cap hh.1.big
 unfold maxLen at vK
 replace σ:=(σ.iq _ ht).aE hh
 have U7:=hM
 unfold cN at hM
 dsimp only at hM
 obtain ⟨xa,oQ⟩:∃x,h[ra]?=some x:=⟨_,aw ae⟩
 refine eE rfl<|gN σ rfl fun _ bJ σ=>eE rfl<|eL gO σ rfl fun _ cJ σ=>gY [14] [0,5,8,12,16,21,24,29,32,37,40,45,48,54,58] aK σ fun _ σ=>lS 1 rfl<|sE rfl (fun η hg=>aS η nN rfl (kg (hg.pt (j:=1) rfl)) rfl)<|lS 1 rfl<|vE rfl (fun η=>az (i:=ra) η Tryz.underlying26 (aD.size) rfl rfl ae rfl σ.aU.1)<|sE rfl (fun η hg=>aJ (i:=ra) (j:=0) (e:=xa) η aD rfl rfl bn ai (hg.pt (j:=0) rfl).1 ae oQ rfl)<|lS 1 rfl<|vE rfl (fun η=>cK (c:=#[aq op,aq xa,aq (-1),aq cn]) tK η rfl rfl)<|eS rfl<|eL gO σ rfl fun _ fo σ=>sk (σ.kd 1 0)<|eS rfl<|cX 0 σ rfl fun _ σ=>sz rfl<|gE 2 σ rfl<|eE rfl<|cS Tryz.call121 (mB (op:=op) (tr:=((tr:Nat):Int)) (ra:=((ra:Nat):Int)) (rb:=((rb:Nat):Int)) (cn:=cn) ae) rfl ?_
 rintro _ _ ⟨tS,sF,n56,rfl,wk,Bv⟩
 refine ⟨_,rfl,?_⟩
 replace σ:=σ.more wk
 have ab5:=kJ op ((ra:Nat):Int) ((rb:Nat):Int)
 refine pd rfl<|wD (fun xg=>?_) fun xg=>?_
 ·have KY:(op=3∨op=4)↔1<n56:=by rw [<- Bv]; unfold cP; split<;>(try split)<;>simp_all
  obtain ⟨xb,zD⟩:∃x,h[rb]?=some x:=⟨_,aw ae⟩
  refine iT rfl rfl<|gY [9] [0,4,8,13,16,21,24,29,32,38] aK σ fun _ σ=>sE rfl (fun η hg=>aS η nN rfl (kg (hg.pt (j:=1) rfl)) rfl)<|lS 3 rfl<|vE rfl (fun η=>az (i:=rb) η Tryz.underlying26 (aD.size) rfl rfl ae rfl σ.aU.1)<|sE rfl (fun η hg=>aJ (i:=rb) (j:=0) (e:=xb) η aD rfl rfl bn ai (hg.pt (j:=0) rfl).1 ae zD rfl)<|eS rfl<|j0 1 σ rfl fun _ σ=>sz rfl<|lE 3 σ rfl<|cZ rfl<|wQ (fun wj=>?_) fun wj=>?_
  ·refine lE 1 σ rfl<|lE 1 σ rfl<|ei rfl<|wD (fun Jd=>?_) fun Jd=>?_
   ·exact iT rfl rfl<|lE 1 σ rfl<|lE 1 σ rfl<|eE rfl<|j0 1 σ rfl fun _ σ=>eE rfl<|j0 1 σ rfl fun _ σ=>gE 1 σ rfl<|eE rfl<|cX 2 σ rfl fun _ σ=>oR (fun e=>dA Tryz.results183 (RV.cell e eX rfl σ.Bm rfl))<|⟨by rw [show fe ⟨h,kn,nx⟩ (op,((tr:Nat):Int),((ra:Nat):Int),((rb:Nat):Int),cn)=(op,xb,xa,cn) by unfold fe Tb.at; dsimp only; rw [oO oQ]; simp [*]<;>omega],σ.below⟩
   ·exact iF rfl rfl<|gE 1 σ rfl<|eE rfl<|cX 2 σ rfl fun _ σ=>oR (fun e=>dA Tryz.results183 (RV.cell e eX rfl σ.Bm rfl))<|⟨by rw [show fe ⟨h,kn,nx⟩ (op,((tr:Nat):Int),((ra:Nat):Int),((rb:Nat):Int),cn)=(op,xa,xb,cn) by unfold fe Tb.at; dsimp only; rw [oO oQ]; simp [*]<;>omega],σ.below⟩
  ·exact iF rfl rfl<|gE 1 σ rfl<|eE rfl<|cX 2 σ rfl fun _ σ=>oR (fun e=>dA Tryz.results183 (RV.cell e eX rfl σ.Bm rfl))<|⟨by rw [show fe ⟨h,kn,nx⟩ (op,((tr:Nat):Int),((ra:Nat):Int),((rb:Nat):Int),cn)=(op,xa,xb,cn) by unfold fe Tb.at; dsimp only; rw [oO oQ]; simp [*]<;>omega],σ.below⟩
 ·have KY:(op=3∨op=4)↔1<n56:=by rw [<- Bv]; unfold cP; split<;>(try split)<;>simp_all
  refine iF rfl rfl<|lE 3 σ rfl<|cZ rfl<|wQ (fun C9=>?_) fun C9=>?_
  ·refine lE 1 σ rfl<|lE 1 σ rfl<|ei rfl<|wD (fun HN=>?_) fun HN=>?_
   ·exact iT rfl rfl<|lE 1 σ rfl<|lE 1 σ rfl<|eE rfl<|j0 1 σ rfl fun _ σ=>eE rfl<|j0 1 σ rfl fun _ σ=>gE 1 σ rfl<|eE rfl<|cX 2 σ rfl fun _ σ=>oR (fun e=>dA Tryz.results183 (RV.cell e eX rfl σ.Bm rfl))<|⟨by rw [show fe ⟨h,kn,nx⟩ (op,((tr:Nat):Int),((ra:Nat):Int),((rb:Nat):Int),cn)=(op,(-1),xa,cn) by unfold fe Tb.at; dsimp only; rw [oO oQ]; simp [*]<;>omega],σ.below⟩
   ·exact iF rfl rfl<|gE 1 σ rfl<|eE rfl<|cX 2 σ rfl fun _ σ=>oR (fun e=>dA Tryz.results183 (RV.cell e eX rfl σ.Bm rfl))<|⟨by rw [show fe ⟨h,kn,nx⟩ (op,((tr:Nat):Int),((ra:Nat):Int),((rb:Nat):Int),cn)=(op,xa,(-1),cn) by unfold fe Tb.at; dsimp only; rw [oO oQ]; simp [*]<;>omega],σ.below⟩
  ·exact iF rfl rfl<|gE 1 σ rfl<|eE rfl<|cX 2 σ rfl fun _ σ=>oR (fun e=>dA Tryz.results183 (RV.cell e eX rfl σ.Bm rfl))<|⟨by rw [show fe ⟨h,kn,nx⟩ (op,((tr:Nat):Int),((ra:Nat):Int),((rb:Nat):Int),cn)=(op,xa,(-1),cn) by unfold fe Tb.at; dsimp only; rw [oO oQ]; simp [*]<;>omega],σ.below⟩
theorem Sh {w0:World} {t n c k1 k2:Nat} {A:Option Addr} {nx:Int} {h:List Int} (ht:(bk t #[.slice A n c,.map (some k1),.map (some k2),aq nx] 218).P w0) (hh:(bE A n c h).P w0) {op cn:Int} {tr ra rb g:Nat} (hM:cN (op,((tr:Nat):Int),((ra:Nat):Int),((rb:Nat):Int),cn) (g:Nat)) (hg:h.length=g):
  Calls Tryz.prog 137 #[bB t,.agg #[aq op,ak tr,ak ra,ak rb,aq cn]] w0 fun e w'=>e=.returned (.agg #[aq (oG h (op,((tr:Nat):Int),((ra:Nat):Int),((rb:Nat):Int),cn)).1,aq (oG h (op,((tr:Nat):Int),((ra:Nat):Int),((rb:Nat):Int),cn)).2.1,aq (oG h (op,((tr:Nat):Int),((ra:Nat):Int),((rb:Nat):Int),cn)).2.2.1,aq (oG h (op,((tr:Nat):Int),((ra:Nat):Int),((rb:Nat):Int),cn)).2.2.2.1,aq (oG h (op,((tr:Nat):Int),((ra:Nat):Int),((rb:Nat):Int),cn)).2.2.2.2])/\Below w0.heap.size w0 w':=by
 refine dp Tryz.func137 rfl Tryz.ntmps137 rfl fun σ=>?_
 have hlen:=hh.2.1
 have vK:=bq hh.1.cap hh.1.big
 unfold maxLen at vK
 replace σ:=(σ.iq _ ht).aE hh
 have U7:=hM
 unfold cN at hM
 dsimp only at hM
 obtain ⟨xa,oQ⟩:∃x,h[ra]?=some x:=⟨_,aw ae⟩
 refine eE rfl<|gN σ rfl fun _ bJ σ=>eE rfl<|eL aI σ rfl fun _ cJ σ=>gE 1 σ rfl<|eE rfl<|cS Tryz.call121 (mB (op:=op) (tr:=((tr:Nat):Int)) (ra:=((ra:Nat):Int)) (rb:=((rb:Nat):Int)) (cn:=cn) ae) rfl ?_
 rintro _ _ ⟨oK,nv,n55,rfl,tO,xF⟩
 refine ⟨_,rfl,?_⟩
 replace σ:=σ.more tO
 have RL:=kJ op ((ra:Nat):Int) ((rb:Nat):Int)
 refine pd rfl<|wD (fun u6=>?_) fun u6=>?_
 ·have KY:(op=3∨op=4)↔1<n55:=by rw [<- xF]; unfold cP; split<;>(try split)<;>simp_all
  obtain ⟨xb,zD⟩:∃x,h[rb]?=some x:=⟨_,aw ae⟩
  exact gY [11] [0,4,8,12,17,20,25,28,33,38,40,46] aK σ fun _ σ=>sE rfl (fun η hg=>aS η nN rfl (kg (hg.pt (j:=1) rfl)) rfl)<|lS 2 rfl<|vE rfl (fun η=>az (i:=ra) η Tryz.underlying26 (aD.size) rfl rfl ae rfl σ.aU.1)<|sE rfl (fun η hg=>aJ (i:=ra) (j:=0) (e:=xa) η aD rfl rfl bn ai (hg.pt (j:=0) rfl).1 ae oQ rfl)<|eS rfl<|dx Tryz.call138 (oP (v:=xa) σ.bC σ.aU) σ rfl fun _ σ=>sk σ.kn<|eS rfl<|j0 2 σ rfl fun _ σ=>sz rfl<|iT rfl rfl<|gY [11] [0,4,8,12,17,20,25,28,33,38,40,46] aK σ fun _ σ=>sE rfl (fun η hg=>aS η nN rfl (kg (hg.pt (j:=1) rfl)) rfl)<|lS 2 rfl<|vE rfl (fun η=>az (i:=rb) η Tryz.underlying26 (aD.size) rfl rfl ae rfl σ.aU.1)<|sE rfl (fun η hg=>aJ (i:=rb) (j:=0) (e:=xb) η aD rfl rfl bn ai (hg.pt (j:=0) rfl).1 ae zD rfl)<|eS rfl<|dx Tryz.call138 (oP (v:=xb) σ.bC σ.aU) σ rfl fun _ σ=>sk σ.kn<|eS rfl<|j0 2 σ rfl fun _ σ=>sz rfl<|gE 2 σ rfl<|eE rfl<|cX 1 σ rfl fun _ σ=>oR (fun e=>dA Tryz.results137 (RV.cell e an rfl σ.vQ rfl))<|⟨by rw [show oG h (op,((tr:Nat):Int),((ra:Nat):Int),((rb:Nat):Int),cn)=(op,((tr:Nat):Int),(mE h xa),(mE h xb),cn) by unfold oG; dsimp only; rw [oO oQ]; simp [*]<;>omega],σ.below⟩
 ·have KY:(op=3∨op=4)↔1<n55:=by rw [<- xF]; unfold cP; split<;>(try split)<;>simp_all
  exact gY [11] [0,4,8,12,17,20,25,28,33,38,40,46] aK σ fun _ σ=>sE rfl (fun η hg=>aS η nN rfl (kg (hg.pt (j:=1) rfl)) rfl)<|lS 2 rfl<|vE rfl (fun η=>az (i:=ra) η Tryz.underlying26 (aD.size) rfl rfl ae rfl σ.aU.1)<|sE rfl (fun η hg=>aJ (i:=ra) (j:=0) (e:=xa) η aD rfl rfl bn ai (hg.pt (j:=0) rfl).1 ae oQ rfl)<|eS rfl<|dx Tryz.call138 (oP (v:=xa) σ.bC σ.aU) σ rfl fun _ σ=>sk σ.kn<|eS rfl<|j0 2 σ rfl fun _ σ=>sz rfl<|iF rfl rfl<|gE 2 σ rfl<|eE rfl<|cX 1 σ rfl fun _ σ=>oR (fun e=>dA Tryz.results137 (RV.cell e an rfl σ.vQ rfl))<|⟨by rw [show oG h (op,((tr:Nat):Int),((ra:Nat):Int),((rb:Nat):Int),cn)=(op,((tr:Nat):Int),(mE h xa),((rb:Nat):Int),cn) by unfold oG; dsimp only; rw [oO oQ]; simp [*]<;>omega],σ.below⟩
abbrev Bx (x:Ky):Value:=Value.agg (ints (lsK x))
def tbF (t:Nat) (A:Option Addr) (n c k1 k2:Nat) (nx:Int) (h:List Int) (lm lf:List (Ky×Int)):PF:=star [bk t #[.slice A n c,.map (some k1),.map (some k2),aq nx] 218,aab A n c h,qG Bx k1 lm,qG Bx k2 lf]
theorem D8 {α:Type} [DecidableEq α] (x k:α) (v:Int) (l:List (α×Int)):rC x (l++[(k,v)])=(rC x l || decide (k=x)):=by
 unfold rC
 rw [u7]
 cases yo x l 0 with
 | none=>by_cases q:k=x<;>simp [q]
 | some r=>simp
theorem LN {α:Type} [DecidableEq α] {k:α} {v:Int} {l:List (α×Int)} (h:rC k l=false):EI k (l++[(k,v)])=v:=by
 unfold rC at h
 unfold EI
 rw [u7]
 cases hf:yo k l 0 with
 | none=>simp
 | some r=>rw [hf] at h; cases h
section
variable {h:List Int} {kn lm:List (Ky×Int)} {nx:Int} {e:IE}
theorem amK (h1:e.1=1):om ⟨h,kn,nx⟩ e=(h.getD e.2.2.1.toNat 0,⟨h,kn,nx⟩):=by unfold om; rw [aR h1]; rfl
theorem acT (hK:Se lm kn) (h1:e.1≠1) (hm:rC (fe ⟨h,kn,nx⟩ e) lm=true):om ⟨h,kn,nx⟩ e=(EI (fe ⟨h,kn,nx⟩ e) lm,⟨h,kn,nx⟩):=by
 obtain ⟨a,b⟩:=hK (fe ⟨h,kn,nx⟩ e)
 rw [hm] at a
 obtain ⟨v,hv⟩:=Option.isSome_iff_exists.1 a.symm
 unfold om
 rw [aQ h1,b]
 dsimp only
 rw [hv]
 rfl
theorem ahe (hK:Se lm kn) (h1:e.1≠1) (hm:rC (fe ⟨h,kn,nx⟩ e) lm=false):om ⟨h,kn,nx⟩ e=(nx,⟨h,(fe ⟨h,kn,nx⟩ e,nx)::kn,nx+1⟩):=by
 obtain ⟨a,_⟩:=hK (fe ⟨h,kn,nx⟩ e)
 rw [hm] at a
 have hv:YM kn (fe ⟨h,kn,nx⟩ e)=none:=by simpa using a.symm
 unfold om
 rw [aQ h1]
 dsimp only
 rw [hv]
end
theorem WS (i j:Nat):((List.range j).map fun r=>((min r i:Nat):Int))++[((min j i:Nat):Int)]=(List.range (j+1)).map fun r=>((min r i:Nat):Int):=by rw [vB,je]; rfl
section
variable {P:Program} {N:Nat} {dq:List Deferred} {a:Act} {l:List (Nat×Value)} {w:World} {d:Nat} {ty:TypeId} {pos:String} {af:Array Edge} {gd:Option (Nat×Bool)} {α:Type} [DecidableEq α]
theorem GV {kt E T g:Nat} {m y:Operand} {enc:α->Value} {lm:List (α×Int)} {x:α} {b:Bool} (h:aW dq N a l) (K:Sc P kt enc) (ht:P.underlying T=some (.map kt E)) (hz:∀w,(zeroValue E).run P w=.ok (aq 0) w) (hm:bV l m=some (.map (some g))) (hy:bV l y=some (enc x)) (hb:rC x lm=b) (hp:(qG enc g lm).P w):
  (execOp a.eval ⟨some d,.lookup T m y true,ty,pos,af,gd⟩).run P w=.ok (.value (.tuple #[aq (EI x lm),.bool b])) w:=by
 have:=jD (d:=d) (ty:=ty) (pos:=pos) (af:=af) (gd:=gd) true h K ht hz hm hy hp
 rw [aR rfl,hb] at this
 exact this
theorem LO {x y:Operand} {i j T1 T2:Nat} (h:aW dq N a l) (hx:bV l x=some (ak i)) (hy:bV l y=some (ak j)):(execOp a.eval ⟨some d,.call ⟨.builtin .min,#[x,y],#[T1,T2]⟩,ty,pos,af,gd⟩).run P w=.ok (.value (ak (min i j))) w:=Py h hx hy
end
theorem acU {w0:World} {i g n0 c0 n1 c1_:Nat} {A0 A1_:Option Addr} (hi:i<=1000) (hg:g<=1000):
  Calls Tryz.prog 135 #[.agg (u4 i g A0 n0 c0 A1_ n1 c1_)] w0 fun e w'=>∃t A c k1 k2,e=.returned (bB t)/\St w0 w' [tbF t A g c k1 k2 ((i+1:Nat):Int) (Qh i g).held [] []] []:=by
 refine dp Tryz.func135 rfl Tryz.ntmps135 rfl fun σ=>eE rfl<|gN σ rfl fun _ bJ σ=>eE rfl<|mmE Bx σ rfl fun _ cJ σ=>eE rfl<|mmE Bx σ rfl fun _ fo σ=>lE 2 σ rfl<|can (j:=1) rfl ae<|vE rfl (fun η=>cK (c:=#[bA,.map (some cJ),.map (some fo),ak (i+1)]) rA η rfl rfl)<|eE rfl<|gN σ rfl fun _ eZ σ=>lE 3 σ rfl<|?_
 replace σ:=(σ.cl ar 3 1)
 refine fX (fun mz l w=>∃j:Nat,∃A1:Option Addr,∃c1:Nat,g - j=mz/\l=[(14,ak j),(1,bB bJ),(3,bB eZ),(13,ak g)]/\St w0 w [bk eZ #[.slice A1 j c1,.map (some cJ),.map (some fo),ak (i+1)] 218,aab A1 j c1 ((List.range j).map fun r=>((min r i:Nat):Int)),qG Bx fo ([]),qG Bx cJ ([]),bk bJ (u4 i g A0 n0 c0 A1_ n1 c1_) 28] []/\j<=g) ⟨0,none,0,rfl,rfl,σ.pick [1,0,2,3,4] [] ai,(bm _)⟩ ay ?_
 rintro _ _ _ ⟨j,A1,c1,rfl,rfl,σ,hj⟩
 refine ei rfl<|wD (fun qx=>?_) fun qx=>?_
 ·refine iT rfl rfl<|gY [10,13] [0,4,8,12,17,20,24,29,32,38,42,44,48,54] aK σ fun _ σ=>lS 0 rfl<|lS 4 rfl<|vE rfl (fun η=>LO η rfl rfl)<|eS rfl<|lr (z:=1) #[ak (min j i)] σ (aD.size) dc rfl aK fun _ yi σ=>sk (σ.kd 1 0)<|eS rfl<|pT (new:=[(((min j i):Nat):Int)]) 2 0 σ du rfl (by unfold maxLen; omega) ae fun _ u5 I2 σ=>sz rfl<|?_
  rw [WS] at σ
  exact eS rfl<|j0 1 σ rfl fun _ σ=>sz rfl<|can (j:=1) rfl ae<|dF ⟨j+1,(bh u5),I2,rfl,rfl,σ.pick [1,2,3,4,5] [] ai,ae⟩ ay ae
 ·obtain rfl:g=j:=ae
  exact iF rfl rfl<|o1 Tryz.results135 rfl<|⟨_,_,_,_,_,rfl,(σ.pick [0,1,3,2] [] ai).pack 4⟩
theorem NL {w0 w1:World} {t n c k1 k2:Nat} {A:Option Addr} {nx nn:Int} {h:List Int} {lm lf kn:List (Ky×Int)} (hS:St w0 w1 [tbF t A n c k1 k2 nx h lm lf] [bP w1 (tbF t A n c k1 k2 nx h lm lf)]) (hn:h.length=n) (hK:Se lm kn) (hF:∀x,rC x lf=rC x lm) (hnx:0<=nx/\nx<=100000) {op cn:Int} {tr ra rb g:Nat} (hM:cN (op,((tr:Nat):Int),((ra:Nat):Int),((rb:Nat):Int),cn) (g:Nat)) (hg:h.length=g):
  Calls Tryz.prog 136 #[bB t,aq nn,.agg #[aq op,ak tr,ak ra,ak rb,aq cn]] w1 fun e w'=>∃y lm' lf',e=.returned (.tuple #[aq (om ⟨h,kn,nx⟩ (op,((tr:Nat):Int),((ra:Nat):Int),((rb:Nat):Int),cn)).1,aq y])/\St w0 w' [tbF t A n c k1 k2 (om ⟨h,kn,nx⟩ (op,((tr:Nat):Int),((ra:Nat):Int),((rb:Nat):Int),cn)).2.next h lm' lf'] [bP w1 (tbF t A n c k1 k2 nx h lm lf)]/\Se lm' (om ⟨h,kn,nx⟩ (op,((tr:Nat):Int),((ra:Nat):Int),((rb:Nat):Int),cn)).2.known/\∀x,rC x lf'=rC x lm':=by
 refine dp Tryz.func136 rfl Tryz.ntmps136 rfl fun σ=>?_
 replace σ:=hS
 replace σ:=σ.unpack
 have hM9:=hM
 unfold cN at hM
 dsimp only at hM
 have hgn:h.length=n:=hn
 obtain ⟨xa,oQ⟩:∃x,h[ra]?=some x:=⟨_,aw ae⟩
 refine eE rfl<|gN σ rfl fun _ bJ σ=>lE 0 σ rfl<|cZ rfl<|wQ (fun jG=>?_) fun jG=>?_
 ·exact iT rfl rfl<|gY [] [0,4,8,13,16,21,24,29,32,36] aK σ fun _ σ=>lS 1 rfl<|lS 0 rfl<|vE rfl (fun η=>az (i:=ra) η Tryz.underlying26 (aD.size) rfl rfl ae rfl (ax σ.lY))<|sE rfl (fun η hg=>aJ (i:=ra) (j:=0) (e:=xa) η aD rfl rfl bn ai (ax (hg.ow (j:=2) rfl)) ae oQ rfl)<|o2 Tryz.results136 rfl<|by rw [amK ae]; dsimp only; rw [oO oQ]; exact ⟨_,_,_,rfl,(σ.pick [1,2,3,4] [0] ai).pack 4,hK,hF⟩
 ·refine iF rfl rfl<|gE 0 σ rfl<|eE rfl<|dx Tryz.call183 (Sg (kn:=kn) σ.fK ⟨ax σ.lY,hgn,fun _ _=>trivial⟩ hM9 hg) σ rfl fun _ σ=>?_
  cases hm:rC (fe ⟨h,kn,nx⟩ (op,((tr:Nat):Int),((ra:Nat):Int),((rb:Nat):Int),cn)) lm
  ·exact eE rfl<|eL gO σ rfl fun _ fo σ=>eE rfl<|cX 0 σ rfl fun _ σ=>gY [] [0,4,8,13,17,21,24,28,32,36,40] aK σ fun _ σ=>lS 2 rfl<|gS 0 rfl<|sE rfl (fun η hg=>GV (lm:=lm) (x:=((fe ⟨h,kn,nx⟩ (op,((tr:Nat):Int),((ra:Nat):Int),((rb:Nat):Int),cn)).1,(fe ⟨h,kn,nx⟩ (op,((tr:Nat):Int),((ra:Nat):Int),((rb:Nat):Int),cn)).2.1,(fe ⟨h,kn,nx⟩ (op,((tr:Nat):Int),((ra:Nat):Int),((rb:Nat):Int),cn)).2.2.1,(fe ⟨h,kn,nx⟩ (op,((tr:Nat):Int),((ra:Nat):Int),((rb:Nat):Int),cn)).2.2.2)) (b:=false) η GU Tryz.underlying216 fj rfl rfl hm (hg.ow (j:=4) rfl))<|iT rfl rfl<|NK [] [0,4,8,13,17,20,24,28,33,37,40,44,48,53,56,62,64,70,74,76,82] [0,1,2,3] [0] aK σ fun _ σ=>lS 2 rfl<|gS 0 rfl<|lS 2 rfl<|gS 0 rfl<|lS 2 rfl<|eS rfl<|meE 4 (fe ⟨h,kn,nx⟩ (op,((tr:Nat):Int),((ra:Nat):Int),((rb:Nat):Int),cn)) GU Tryz.underlying216 fj σ rfl hm fun _ σ=>sk (σ.pick [0,1,2,3] [0] ai).kn<|eS rfl<|msE (lm:=lm) 4 (fe ⟨h,kn,nx⟩ (op,((tr:Nat):Int),((ra:Nat):Int),((rb:Nat):Int),cn)) nx σ rfl fun _ σ=>sk (σ.pick [0,1,2,3] [0] ai).kn<|eS rfl<|meE 5 (fe ⟨h,kn,nx⟩ (op,((tr:Nat):Int),((ra:Nat):Int),((rb:Nat):Int),cn)) GU Tryz.underlying216 fj σ rfl ((hF _).trans hm) fun _ σ=>sk (σ.pick [0,1,2,3] [0] ai).kn<|eS rfl<|msE (lm:=lf) 5 (fe ⟨h,kn,nx⟩ (op,((tr:Nat):Int),((ra:Nat):Int),((rb:Nat):Int),cn)) nn σ rfl fun _ σ=>sk (σ.pick [0,1,2,3] [0] ai).kn<|lE 2 σ rfl<|Rf rfl ae<|eE rfl<|j0 2 σ rfl fun _ σ=>gY [] [0,4,8,13,17,21,24,28,32,37,41,45,48,52] aK σ fun _ σ=>lS 2 rfl<|gS 0 rfl<|sE rfl (fun η hg=>jD (lm:=(lm++[((fe ⟨h,kn,nx⟩ (op,((tr:Nat):Int),((ra:Nat):Int),((rb:Nat):Int),cn)),nx)])) (x:=(fe ⟨h,kn,nx⟩ (op,((tr:Nat):Int),((ra:Nat):Int),((rb:Nat):Int),cn))) false η GU Tryz.underlying216 fj rfl rfl (hg.ow (j:=4) rfl))<|lS 2 rfl<|gS 0 rfl<|sE rfl (fun η hg=>jD (lm:=(lf++[((fe ⟨h,kn,nx⟩ (op,((tr:Nat):Int),((ra:Nat):Int),((rb:Nat):Int),cn)),nn)])) (x:=(fe ⟨h,kn,nx⟩ (op,((tr:Nat):Int),((ra:Nat):Int),((rb:Nat):Int),cn))) false η GU Tryz.underlying216 fj rfl rfl (hg.ow (j:=5) rfl))<|o2 Tryz.results136 rfl<|by rw [ahe hK (by dsimp only; omega) hm,LN hm]; exact ⟨_,_,_,rfl,(σ.pick [2,3,4,5] [0] ai).pack 4,hK.add hm,fun x=>by rw [D8,D8,hF]⟩
  ·exact eE rfl<|eL gO σ rfl fun _ eZ σ=>eE rfl<|cX 0 σ rfl fun _ σ=>gY [] [0,4,8,13,17,21,24,28,32,36,40] aK σ fun _ σ=>lS 2 rfl<|gS 0 rfl<|sE rfl (fun η hg=>GV (lm:=lm) (x:=((fe ⟨h,kn,nx⟩ (op,((tr:Nat):Int),((ra:Nat):Int),((rb:Nat):Int),cn)).1,(fe ⟨h,kn,nx⟩ (op,((tr:Nat):Int),((ra:Nat):Int),((rb:Nat):Int),cn)).2.1,(fe ⟨h,kn,nx⟩ (op,((tr:Nat):Int),((ra:Nat):Int),((rb:Nat):Int),cn)).2.2.1,(fe ⟨h,kn,nx⟩ (op,((tr:Nat):Int),((ra:Nat):Int),((rb:Nat):Int),cn)).2.2.2)) (b:=true) η GU Tryz.underlying216 fj rfl rfl hm (hg.ow (j:=4) rfl))<|iF rfl rfl<|gY [] [0,4,8,13,17,21,24,28,32,37,41,45,48,52] aK σ fun _ σ=>lS 2 rfl<|gS 0 rfl<|sE rfl (fun η hg=>jD (lm:=lm) (x:=(fe ⟨h,kn,nx⟩ (op,((tr:Nat):Int),((ra:Nat):Int),((rb:Nat):Int),cn))) false η GU Tryz.underlying216 fj rfl rfl (hg.ow (j:=4) rfl))<|lS 2 rfl<|gS 0 rfl<|sE rfl (fun η hg=>jD (lm:=lf) (x:=(fe ⟨h,kn,nx⟩ (op,((tr:Nat):Int),((ra:Nat):Int),((rb:Nat):Int),cn))) false η GU Tryz.underlying216 fj rfl rfl (hg.ow (j:=5) rfl))<|o2 Tryz.results136 rfl<|by rw [acT hK (by dsimp only; omega) hm]; exact ⟨_,_,_,rfl,(σ.pick [2,3,4,5] [0] ai).pack 4,hK,hF⟩
theorem ahf {h:List Int} {kn:List (Ky×Int)} {nx:Int} (e:IE):∃v Zq Ur,om ⟨h,kn,nx⟩ e=(v,⟨h,Zq,Ur⟩)/\nx<=Ur/\Ur<=nx+1:=by
 unfold om
 split
 ·exact ⟨_,_,_,rfl,Int.le_refl _,by omega⟩
 ·dsimp only
  split
  ·exact ⟨_,_,_,rfl,Int.le_refl _,by omega⟩
  ·exact ⟨_,_,_,rfl,by omega,Int.le_refl _⟩
section
variable {h:List Int} {kn Zq:List (Ky×Int)} {nx Ur v:Int} {st:List IE} {op ra rb cn:Int} {tr:Nat}
theorem WT (hr:om ⟨h,kn,nx⟩ (op,((tr:Nat):Int),ra,rb,cn)=(v,⟨h,Zq,Ur⟩)) (ht:h[tr]?=some v):gF (⟨h,kn,nx⟩,st) (op,((tr:Nat):Int),ra,rb,cn)=(⟨h,Zq,Ur⟩,st):=by
 unfold gF
 dsimp only
 rw [hr]
 dsimp only
 rw [aR (show Tb.at ⟨h,Zq,Ur⟩ ((tr:Nat):Int)=v from oO ht)]
theorem LP {x:Int} {y:IE} (hr:om ⟨h,kn,nx⟩ (op,((tr:Nat):Int),ra,rb,cn)=(v,⟨h,Zq,Ur⟩)) (ht:h[tr]?=some x) (hx:x≠v) (hy:(if 0<=mE h v then (1,((tr:Nat):Int),mE h v,0,0) else oG h (op,((tr:Nat):Int),ra,rb,cn))=y):gF (⟨h,kn,nx⟩,st) (op,((tr:Nat):Int),ra,rb,cn)=(⟨h.set tr v,Zq,Ur⟩,st++[y]):=by
 unfold gF
 dsimp only
 rw [hr]
 dsimp only
 rw [aQ (show ¬Tb.at ⟨h,Zq,Ur⟩ ((tr:Nat):Int)=v from fun q=>hx ((oO ht).symm.trans q)),hy]
 rfl
end
theorem Si {es:List IE} {s:Tb×List IE} {j:Nat} {e:IE} (h:es[j]?=some e):(es.drop j).foldl gF s=(es.drop (j+1)).foldl gF (gF s e):=by
 obtain ⟨hi,rfl⟩:=bU.1 h
 rw [gW hi]
 rfl
theorem Sj {f:Int->Int} {es:List Int} {j:Nat} {x:Int} (h:es[j]?=some x):(es.take j).map f++[f x]=(es.take (j+1)).map f:=by rw [take_one h,je]; rfl
theorem WU (i g:Nat):(Qh i g).held.length=g:=by unfold Qh; simp
theorem WV {w0:World} {i g:Nat} {A0 A1:Option Addr} {n0 c0 n1 c1:Nat} {es0:List IE} {es1:List Int} (h0:(jM A0 n0 c0 es0).P w0) (h1:(bE A1 n1 c1 es1).P w0) (bH:jc (i:Nat) (g:Nat) n0 n1 es0 es1):
  Calls Tryz.prog 90 #[.agg (u4 i g A0 n0 c0 A1 n1 c1)] w0 fun e w'=>∃A n c B d,e=.returned (.tuple #[.agg (u4 i g A n c B n1 d),aq 0])/\St w0 w' [aad A n c (l8 i g es0),aab B n1 d (kL i g es0 es1)] []/\(l8 i g es0).length=n:=by
 have q1:=bH.i1
 have q2:=bH.ln
 refine dp Tryz.func90 rfl Tryz.ntmps90 rfl fun σ=>?_
 have a8:=h0.2.1
 have ic:=h0.1.cap
 have bW:=h0.1.big
 unfold maxLen at bW
 have cY:=h1.2.1
 have kY:=h1.1.cap
 have eC:=h1.1.big
 unfold maxLen at eC
 replace σ:=σ.aE h0
 replace σ:=σ.aE h1
 refine eE rfl<|gN σ rfl fun _ bJ σ=>eE rfl<|eL bf σ rfl fun _ cJ σ=>gE 1 σ rfl<|eE rfl<|dx Tryz.call41 (iu σ.bC σ.aU bH) σ rfl fun _ σ=>ir rfl<|kB (b':=false) rfl<|iF rfl rfl<|gE 1 σ rfl<|eE rfl<|cS Tryz.call135 (acU (i:=i) (g:=g) (A0:=A0) (n0:=n0) (c0:=c0) (A1_:=A1) (n1:=n1) (c1_:=c1) ae ae) rfl ?_
 rintro _ _ ⟨t,oK,nv,k55,k56,rfl,wk⟩
 refine ⟨_,rfl,?_⟩
 replace σ:=σ.more wk
 replace σ:=σ.unpack
 refine lE 5 σ rfl<|lE 5 σ rfl<|vE rfl (fun η=>cK (c:=(u4 i g none 0 0 none 0 0)) eM η rfl rfl)<|eE rfl<|eL bf σ rfl fun _ z7 σ=>eE rfl<|cX 0 σ rfl fun _ σ=>lE 6 σ rfl<|?_
 replace σ:=(σ.cl ar 116 5)
 obtain ⟨k1,Bc⟩:∃x,x=k55:=⟨_,rfl⟩
 obtain ⟨k2,QL⟩:∃x,x=k56:=⟨_,rfl⟩
 subst Bc QL
 refine fX (fun mz l w=>∃j:Nat,∃A2:Option Addr,∃c2:Nat,∃n2:Nat,∃dL:List IE,∃A3:Option Addr,∃c3:Nat,∃nx:Int,∃h:List Int,∃kn:List (Ky×Int),∃lm:List (Ky×Int),∃lf:List (Ky×Int),n0 - j=mz/\l=[(34,ak j),(1,bB bJ),(2,bB cJ),(6,bB t),(7,bB z7),(32,.slice A0 n0 c0),(33,ak n0)]/\St w0 w [bk z7 (u4 i g A2 n2 c2 none 0 0) 28,aad A2 n2 c2 dL,bk t #[.slice A3 g c3,.map (some k1),.map (some k2),aq nx] 218,aab A3 g c3 h,qG Bx k1 lm,qG Bx k2 lf,bk cJ #[aq 0,aq 0,bA,bA] 28,bk bJ (u4 i g A0 n0 c0 A1 n1 c1) 28] [bE A1 n1 c1 es1,jM A0 n0 c0 es0]/\j<=n0/\(es0.drop j).foldl gF (⟨h,kn,nx⟩,dL)=kh i g es0/\h.length=g/\Se lm kn/\(∀x,rC x lf=rC x lm)/\(0<=nx/\nx<=i+1+j)/\dL.length=n2/\n2<=j) ⟨0,none,0,0,([]:List IE),oK,nv,((i+1:Nat):Int),(Qh i g).held,[],[],[],rfl,rfl,σ.pick [1,0,2,3,4,5,6,7] [0,1] ai,(bm _),rfl,(WU i g),Se.nil,(fun _=>rfl),ae,rfl,(aY _)⟩ ay ?_
 rintro _ _ _ ⟨j,A2,c2,n2,dL,A3,c3,nx,h,kn,lm,lf,rfl,rfl,σ,hj,hi,EJ,hK,hF,hnx,jb,gx⟩
 refine ei rfl<|wD (fun u6=>?_) fun u6=>?_
 ·have cD:j<n0:=ae
  obtain ⟨⟨op,D9,xy,vn,cn⟩,b5⟩:∃e,es0[j]?=some e:=⟨_,aw ae⟩
  have hM:=bH.may _ (aB b5)
  have xi:=hM
  unfold cN at xi
  dsimp only at xi
  obtain ⟨tr,rfl⟩:=dh (show 0<=D9 by omega)
  obtain ⟨ra,rfl⟩:=dh (show 0<=xy by omega)
  obtain ⟨rb,rfl⟩:=dh (show 0<=vn by omega)
  obtain ⟨v9,kn9,nx9,hrk,DM,Zr⟩:=ahf (h:=h) (kn:=kn) (nx:=nx) (op,((tr:Nat):Int),((ra:Nat):Int),((rb:Nat):Int),cn)
  obtain ⟨xt,hxt⟩:∃x,h[tr]?=some x:=⟨_,aw ae⟩
  refine iT rfl rfl<|vE rfl (fun η=>az (i:=j) η Tryz.underlying25 (an.size) rfl rfl ae rfl σ.bC.1)<|cE rfl (fun η=>bF (v:=#[aq op,ak tr,ak ra,ak rb,aq cn]) (i:=j) (e:=(op,((tr:Nat):Int),((ra:Nat):Int),((rb:Nat):Int),cn)) η an rfl rfl iR σ.bC.1 ae b5 rfl)<|eE rfl<|eL aI σ rfl fun _ Bt σ=>eE rfl<|cX 0 σ rfl fun _ σ=>gE 0 σ rfl<|?_
  replace σ:=(σ.pick [3,4,5,6,0,1,2,7,8] [0,1] ai).pack 4
  refine eE rfl<|cS Tryz.call136 (NL (kn:=kn) (nn:=((j:Nat):Int)) (σ.bO (k:=0) rfl []) EJ hK hF ae hM EJ) rfl ?_
  rintro _ _ ⟨y9,lm9,lf9,rfl,hS9,hK9,hF9⟩
  refine ⟨_,rfl,?_⟩
  rw [hrk] at hS9 hK9
  dsimp only at hS9 hK9
  rw [hrk]
  replace σ:=σ.j4 (k:=0) rfl hS9
  replace σ:=σ.unpack
  refine gE 4 σ rfl<|eE rfl<|dx Tryz.call137 (Sh σ.dm ⟨ax σ.fK,EJ,fun _ _=>trivial⟩ hM EJ) σ rfl fun _ σ=>eE rfl<|cX 4 σ rfl fun _ σ=>gY [] [0,4,8,13,16,21,24,29,32,36] aK σ fun _ σ=>lS 0 rfl<|lS 4 rfl<|vE rfl (fun η=>az (i:=tr) η Tryz.underlying26 (aD.size) rfl rfl ae rfl (ax σ.fK))<|sE rfl (fun η hg=>aJ (i:=tr) (j:=0) (e:=xt) η aD rfl rfl bn ai (ax (hg.ow (j:=1) rfl)) ae hxt rfl)<|cZ rfl<|wQ (fun wj=>?_) fun wj=>?_
  ·exact iT rfl rfl<|can (j:=1) rfl ae<|dF ⟨j+1,A2,c2,n2,dL,A3,c3,nx9,h,kn9,lm9,lf9,rfl,rfl,σ.pick [5,6,0,1,2,3,7,8] [0,1] ai,ae,(by rw [<- hi,Si b5,(WT hrk (by rw [hxt]; congr 1))]<;>rfl),EJ,hK9,hF9,ae,jb,ae⟩ ay ae
  ·refine iF rfl rfl<|eE rfl<|dx Tryz.call138 (oP (v:=v9) σ.dm ⟨ax σ.fK,EJ,fun _ _=>trivial⟩) σ rfl fun _ σ=>xd rfl<|wD (fun Jd=>?_) fun Jd=>?_
   ·exact iT rfl rfl<|lE 4 σ rfl<|vE rfl (fun η=>cK (c:=#[aq 1,ak tr,aq (mE h v9),aq 0,aq 0]) bG η rfl rfl)<|eE rfl<|cX 4 σ rfl fun _ σ=>lE 5 σ rfl<|gE 4 σ rfl<|eE rfl<|lr (z:=5) #[aq 1,ak tr,aq (mE h v9),aq 0,aq 0] σ (an.size) aI rfl aK fun _ WD σ=>eE rfl<|pT (new:=[((1:Int),((tr:Nat):Int),(mE h v9),(0:Int),(0:Int))]) 7 0 σ bT rfl (by unfold maxLen; omega) ae fun _ NM c65 σ=>eE rfl<|j0 6 σ rfl fun _ σ=>gY [8] [0,4,8,13,16,21,24,28,34] aK σ fun _ σ=>lS 1 rfl<|lS 5 rfl<|vE rfl (fun η=>az (i:=tr) η Tryz.underlying26 (aD.size) rfl rfl ae rfl (ax σ.lY))<|eS rfl<|qI 2 tr (e1:=v9) bn σ rfl rfl ae EJ fun _ σ=>sz rfl<|can (j:=1) rfl ae<|dF ⟨j+1,(bh NM),c65,(n2+1),(dL++[((1:Int),((tr:Nat):Int),(mE h v9),(0:Int),(0:Int))]),A3,c3,nx9,(h.set tr v9),kn9,lm9,lf9,rfl,rfl,σ.pick [6,7,1,2,3,4,8,9] [0,1] ai,ae,(by rw [<- hi,Si b5,(LP hrk hxt wj (aR ae))]<;>rfl),(by rw [cH]; exact EJ),hK9,hF9,ae,(by simp [jb]),ae⟩ ay ae
   ·exact iF rfl rfl<|lE 5 σ rfl<|gE 4 σ rfl<|eE rfl<|lr (z:=5) #[aq op,ak tr,aq ((oG h (op,((tr:Nat):Int),((ra:Nat):Int),((rb:Nat):Int),cn)).2.2.1),aq ((oG h (op,((tr:Nat):Int),((ra:Nat):Int),((rb:Nat):Int),cn)).2.2.2.1),aq cn] σ (an.size) aI rfl aK fun _ Zs σ=>eE rfl<|pT (new:=[(op,((tr:Nat):Int),(oG h (op,((tr:Nat):Int),((ra:Nat):Int),((rb:Nat):Int),cn)).2.2.1,(oG h (op,((tr:Nat):Int),((ra:Nat):Int),((rb:Nat):Int),cn)).2.2.2.1,cn)]) 7 0 σ bT rfl (by unfold maxLen; omega) ae fun _ g67 c68 σ=>eE rfl<|j0 6 σ rfl fun _ σ=>gY [8] [0,4,8,13,16,21,24,28,34] aK σ fun _ σ=>lS 1 rfl<|lS 5 rfl<|vE rfl (fun η=>az (i:=tr) η Tryz.underlying26 (aD.size) rfl rfl ae rfl (ax σ.lY))<|eS rfl<|qI 2 tr (e1:=v9) bn σ rfl rfl ae EJ fun _ σ=>sz rfl<|can (j:=1) rfl ae<|dF ⟨j+1,(bh g67),c68,(n2+1),(dL++[(op,((tr:Nat):Int),(oG h (op,((tr:Nat):Int),((ra:Nat):Int),((rb:Nat):Int),cn)).2.2.1,(oG h (op,((tr:Nat):Int),((ra:Nat):Int),((rb:Nat):Int),cn)).2.2.2.1,cn)]),A3,c3,nx9,(h.set tr v9),kn9,lm9,lf9,rfl,rfl,σ.pick [6,7,1,2,3,4,8,9] [0,1] ai,ae,(by rw [<- hi,Si b5,(LP hrk hxt wj (aQ ae))]<;>rfl),(by rw [cH]; exact EJ),hK9,hF9,ae,(by simp [jb]),ae⟩ ay ae
 ·have hT:kh i g es0=(⟨h,kn,nx⟩,dL):=by rw [<- hi,dM ae]; rfl
  refine iF rfl rfl<|lE 7 σ rfl<|?_
  replace σ:=(σ.cl ar 3 1)
  refine fX (fun mz l w=>∃u:Nat,∃B5:Option Addr,∃d5:Nat,n1 - u=mz/\l=[(86,ak u),(2,bB cJ),(6,bB t),(7,bB z7),(84,.slice A1 n1 c1),(85,ak n1)]/\St w0 w [bk z7 (u4 i g A2 n2 c2 B5 u d5) 28,aab B5 u d5 ((es1.take u).map (fun r=>mE h (h.getD r.toNat 0))),aad A2 n2 c2 dL,bk t #[.slice A3 g c3,.map (some k1),.map (some k2),aq nx] 218,aab A3 g c3 h,qG Bx k1 lm,qG Bx k2 lf,bk cJ #[aq 0,aq 0,bA,bA] 28,bk bJ (u4 i g A0 n0 c0 A1 n1 c1) 28] [bE A1 n1 c1 es1,jM A0 n0 c0 es0]/\u<=n1) ⟨0,none,0,rfl,rfl,σ.pick [1,0,2,3,4,5,6,7,8] [0,1] ai,(bm _)⟩ ay ?_
  rintro _ _ _ ⟨u,B5,d5,rfl,rfl,σ,hu⟩
  refine ei rfl<|wD (fun h69=>?_) fun h69=>?_
  ·have hlu:u<n1:=ae
   obtain ⟨r0,iH⟩:∃e,es1[u]?=some e:=⟨_,aw ae⟩
   have hr8:=bH.out _ (aB iH)
   obtain ⟨r9,rfl⟩:=dh hr8.1
   obtain ⟨xr,xG⟩:∃x,h[r9]?=some x:=⟨_,aw ae⟩
   refine iT rfl rfl<|vE rfl (fun η=>az (i:=u) η Tryz.underlying26 (aD.size) rfl rfl ae rfl σ.aU.1)<|cE rfl (fun η=>aJ (i:=u) (j:=0) (e:=((r9:Nat):Int)) η aD rfl rfl bn ai σ.aU.1 ae iH rfl)<|gY [12,14] [0,5,8,12,16,20,25,28,32,37,42,46,50,52,58] aK σ fun _ σ=>lS 0 rfl<|lS 3 rfl<|vE rfl (fun η=>az (i:=r9) η Tryz.underlying26 (aD.size) rfl rfl ae rfl (ax σ.Bl))<|sE rfl (fun η hg=>aJ (i:=r9) (j:=0) (e:=xr) η aD rfl rfl bn ai (ax (hg.ow (j:=4) rfl)) ae xG rfl)<|eS rfl<|dx Tryz.call138 (oP (v:=xr) σ.tw ⟨ax σ.Bl,EJ,fun _ _=>trivial⟩) σ rfl fun _ σ=>sk σ.kn<|eS rfl<|lr (z:=1) #[aq (mE h xr)] σ (aD.size) dc rfl aK fun _ g70 σ=>sk (σ.kd 1 0)<|eS rfl<|pT (new:=[(mE h xr)]) 2 0 σ du rfl (by unfold maxLen; omega) ae fun _ g71 c72 σ=>sz rfl<|?_
   rw [show mE h xr=(fun r=>mE h (h.getD r.toNat 0)) ((r9:Nat):Int) by dsimp only; rw [oO xG],Sj iH] at σ
   exact eS rfl<|j0 1 σ rfl fun _ σ=>sz rfl<|can (j:=1) rfl ae<|dF ⟨u+1,(bh g71),c72,rfl,rfl,σ.pick [1,2,3,4,5,6,7,8,9] [0,1] ai,ae⟩ ay ae
  ·obtain rfl:n1=u:=ae
   rw [bD (by omega)] at σ
   exact iF rfl rfl<|gE 0 σ rfl<|eE rfl<|cX 7 σ rfl fun _ σ=>oR (fun e=>gC Tryz.results90 (RV.cell e aO rfl (σ.nA (k:=7) rfl) rfl) (RV.tmp e rfl))<|by rw [show l8 i g es0=dL by unfold l8; rw [hT],show kL i g es0 es1=es1.map (fun r=>mE h (h.getD r.toNat 0)) by unfold kL; rw [hT]; rfl]; exact ⟨_,_,_,_,_,rfl,σ.pick [2,1] [] ai,jb⟩
abbrev xH (x:Int):Value:=aq x
theorem AL:Sc Tryz.prog 3 xH:=kyI Tryz.underlying3
def Oz (s k:Nat) (A:Option Addr) (n c:Nat) (fr:List Bool) (lm:List (Int×Int)):PF:=star [bk s #[.map (some k),.slice A n c] 227,aal A n c fr,qG xH k lm]
theorem WW {p:Pk} {j:Nat} (h:∀x,x<j->p.free[x]?=some false) (hj:p.free[j]?=some true):fq p=(((j:Nat):Int),(⟨p.at_++[((j:Nat):Int)],p.free.set j false⟩:Pk)):=by
 obtain ⟨hl,hv⟩:=bU.1 hj
 have:p.free.findIdx? id=some j:=tc.2 ⟨hl,hv,fun k hk=>by
  have:=h k hk
  rw [aw ae] at this
  simpa using this⟩
 unfold fq
 rw [this]
theorem WX {p:Pk} {n:Nat} (hn:p.free.length=n) (h:∀x,x<n->p.free[x]?=some false):fq p=(((n:Nat):Int),(⟨p.at_++[((n:Nat):Int)],p.free++[false]⟩:Pk)):=by
 have:p.free.findIdx? id=none:=Bf.2 fun x hx=>by
  obtain ⟨i,hi⟩:=lV hx
  have:=h i (by have:=(bU.1 hi).1; omega)
  rw [hi] at this
  simpa using this
 unfold fq
 rw [this,hn]
theorem WY {fr:List Bool} {j:Nat} (h:∀x,x<j->fr[x]?=some false) (hj:fr[j]?=some false):∀x,x<j+1->fr[x]?=some false:=fun x hx=>by
 rcases dr x j with c | c
 ·exact h x c
 ·obtain rfl:x=j:=ae
  exact hj
def D' (lm:List (Int×Int)) (at_:List Int):Prop:=(∀v:Nat,v<at_.length->EI ((v:Nat):Int) lm=gi at_ v)/\∀v:Nat,at_.length<=v->rC ((v:Nat):Int) lm=false
theorem WZ {α:Type} [DecidableEq α] {x k:α} {v:Int} {l:List (α×Int)} (h:k≠x):EI x (l++[(k,v)])=EI x l:=by
 unfold EI
 rw [u7,aQ h]
 cases yo x l 0<;>rfl
theorem Sl {l:List Int} {v:Nat} {w:Int} (h:v<l.length):gi (l++[w]) v=gi l v:=by
 unfold gi; rw [aF,aF,jg ae]
theorem Sm {l:List Int} {w:Int}:gi (l++[w]) (l.length:Nat)=w:=by
 unfold gi; rw [aF,mJ,j8 (aY _),mR]; rfl
theorem D'.add {lm:List (Int×Int)} {at_:List Int} (h:D' lm at_) (r:Int):D' (lm++[(((at_.length:Nat):Int),r)]) (at_++[r]):=by
 refine ⟨fun v hv=>?_,fun v hv=>?_⟩
 ·rw [aP,dG] at hv
  rcases dr v at_.length with c | c
  ·rw [WZ ae,h.1 v c,Sl c]
  ·obtain rfl:v=at_.length:=ae
   rw [LN (h.2 _ (aY _)),Sm]
 ·rw [aP,dG] at hv
  rw [D8,h.2 v ae,bR ae]
  rfl
theorem Sn {w0:World} {i g r n0 c0 n1 c1:Nat} {A0 A1:Option Addr}:
  Calls Tryz.prog 186 #[.agg (u4 i g A0 n0 c0 A1 n1 c1),ak r] w0 fun e w'=>e=.returned (ak (min r i))/\Below w0.heap.size w0 w':=by
 exact dp Tryz.func186 rfl Tryz.ntmps186 rfl fun σ=>eE rfl<|gN σ rfl fun _ bJ σ=>lE 0 σ rfl<|vE rfl (fun η=>LO η rfl rfl)<|o1 Tryz.results186 rfl<|⟨rfl,σ.below⟩
theorem So {w0 w1:World} {s k n c:Nat} {A:Option Addr} {lm:List (Int×Int)} {fr:List Bool} {v u:Int} (hS:St w0 w1 [Oz s k A n c fr lm] [bP w1 (Oz s k A n c fr lm)]) (hl:fr.length=n) (hn:n<=100000) (hx:rC v lm=false):
  Calls Tryz.prog 142 #[bB s,aq v,aq u] w1 fun e w'=>∃A' c',e=.returned (.tuple #[])/\St w0 w' [Oz s k A' (n+1) c' (fr++[decide (u<0)]) (lm++[(v,((n:Nat):Int))])] [bP w1 (Oz s k A n c fr lm)]:=by
 refine dp Tryz.func142 rfl Tryz.ntmps142 rfl fun σ=>?_
 replace σ:=hS
 replace σ:=σ.unpack
 exact NK [] [0,4,8,13,16,20,24,28,33,36,42] [0] [0] aK σ fun _ σ=>lS 0 rfl<|lS 0 rfl<|eS rfl<|muE 2 v ((n:Nat):Int) AL Tryz.underlying225 σ rfl hx fun _ σ=>sk (σ.pick [0] [0] ai).kn<|lE 0 σ rfl<|ei rfl<|eE rfl<|lr #[.bool (decide (u<(0:Int)))] σ (bQ.size) BV rfl aK fun _ bJ σ=>eE rfl<|pT 2 0 σ ni rfl (by unfold maxLen; omega) ae fun _ cJ wh σ=>eE rfl<|j0 1 σ rfl fun _ σ=>Bu Tryz.results142<|⟨_,_,rfl,(σ.pick [1,2,3] [0] ai).pack 3⟩
theorem LQ {w0 w1:World} {s k n c:Nat} {A:Option Addr} {lm:List (Int×Int)} {p:Pk} {v:Int} (hS:St w0 w1 [Oz s k A n c p.free lm] [bP w1 (Oz s k A n c p.free lm)]) (hl:p.free.length=n) (hn:n<=100000) (hx:rC v lm=false):
  Calls Tryz.prog 143 #[bB s,aq v] w1 fun e w'=>∃A' n' c',e=.returned (aq (fq p).1)/\St w0 w' [Oz s k A' n' c' (fq p).2.free (lm++[(v,(fq p).1)])] [bP w1 (Oz s k A n c p.free lm)]/\(fq p).2.free.length=n':=by
 refine dp Tryz.func143 rfl Tryz.ntmps143 rfl fun σ=>?_
 replace σ:=hS
 replace σ:=σ.unpack
 refine We rfl<|lE 0 σ rfl<|fX (fun mz l w=>∃j:Nat,n - j=mz/\l=[(12,ak j),(0,bB s),(1,aq v),(10,.slice A n c),(11,ak n)]/\St w0 w [bk s #[.map (some k),.slice A n c] 227,aal A n c p.free,qG xH k lm] [bP w1 (Oz s k A n c p.free lm)]/\j<=n/\(∀x,x<j->p.free[x]?=some false)) ⟨0,rfl,rfl,σ,(bm _),(fun _ h=>absurd h (ks _))⟩ ay ?_
 rintro _ _ _ ⟨j,rfl,rfl,σ,hj,sY⟩
 refine ei rfl<|wD (fun iz=>?_) fun iz=>?_
 ·have cD:j<n:=ae
  obtain ⟨bj,b5⟩:∃e,p.free[j]?=some e:=⟨_,aw ae⟩
  refine iT rfl rfl<|vE rfl (fun η=>az (i:=j) η Tryz.underlying219 (bQ.size) rfl rfl ae rfl (ax σ.fK))<|cE rfl (fun η=>aJ (i:=j) (j:=0) (e:=bj) η bQ rfl rfl fi ai (ax σ.fK) ae b5 rfl)<|wB (fun jG=>?_) fun jG=>?_
  ·subst jG
   exact iF rfl rfl<|NK [] [0,4,8,13,16,20,24,28,33,36,40,46,48,54,56,62] [0] [0] aK σ fun _ σ=>lS 0 rfl<|lS 0 rfl<|eS rfl<|meE 2 v AL Tryz.underlying225 fj σ rfl hx fun _ σ=>sk (σ.pick [0] [0] ai).kn<|eS rfl<|msE (lm:=lm) 2 v ((j:Nat):Int) σ rfl fun _ σ=>sk (σ.pick [0] [0] ai).kn<|vE rfl (fun η=>az (i:=j) η Tryz.underlying219 (bQ.size) rfl rfl ae rfl (ax σ.fK))<|eS rfl<|qI 1 j (e1:=false) fi σ rfl rfl ae hl fun _ σ=>sk (σ.pick [0] [0] ai).kn<|o1 Tryz.results143 rfl<|by rw [WW sY b5]; exact ⟨_,_,_,rfl,(σ.pick [0,1,2] [0] ai).pack 3,by rw [cH]; exact hl⟩
  ·subst jG
   exact iT rfl rfl<|can (j:=1) rfl ae<|dF ⟨j+1,rfl,rfl,σ,ae,(WY sY b5)⟩ ay ae
 ·obtain rfl:n=j:=ae
  exact iF rfl rfl<|NK [] [0,4,8,13,16,20,24,28,33,36,42] [0] [0] aK σ fun _ σ=>lS 0 rfl<|lS 0 rfl<|eS rfl<|muE 2 v ((n:Nat):Int) AL Tryz.underlying225 σ rfl hx fun _ σ=>sk (σ.pick [0] [0] ai).kn<|lE 0 σ rfl<|eE rfl<|lr (z:=1) #[.bool false] σ (bQ.size) BV rfl aK fun _ fo σ=>eE rfl<|pT (new:=[false]) 2 0 σ ni rfl (by unfold maxLen; omega) ae fun _ eZ sF σ=>eE rfl<|j0 1 σ rfl fun _ σ=>lE 1 σ rfl<|xD (j:=1) rfl ae<|o1 Tryz.results143 rfl<|by rw [WX hl sY]; exact ⟨_,_,_,by congr 2<;>omega,(σ.pick [1,2,3] [0] ai).pack 3,by rw [aP,hl]<;>rfl⟩
open Go.RowKit Anv
theorem Sr {α:Type} {l:List α} {j m:Nat} {x z:α} (hj:l.length=j):(l++List.replicate (m+1) z).set j x=(l++[x])++List.replicate m z:=by
 subst hj
 rw [EX _ _ (aY _),mR,qN,List.set_cons_zero,cG]
 rfl
def nH {α:Type} (l:List α) (j n:Nat) (z:α):List α:=l.take j++List.replicate (n - j) z
theorem iv {α:Type} {l:List α} {j n:Nat} {z:α} (h1:j<=n) (h2:n=l.length):(nH l j n z).length=n:=by unfold nH; simp; omega
theorem Js {α:Type} (l:List α) (n:Nat) (z:α):nH l 0 n z=List.replicate n z:=by unfold nH; simp
theorem wA {α:Type} {l:List α} {n:Nat} {z:α} (h:l.length=n):nH l n n z=l:=by unfold nH; rw [bD (by omega)]; simp
theorem lR {α:Type} {l:List α} {j n:Nat} {x z:α} (h:l[j]?=some x) (hn:j<n):(nH l j n z).set j x=nH l (j+1) n z:=by
 unfold nH
 have hj:=(bU.1 h).1
 rw [show n - j=(n - (j+1))+1 by omega,Sr (by rw [fg]; omega),List.take_add_one,h]
 rfl
theorem yp {α:Type} {l:List α} {j n k:Nat} {z:α} {x:α} (h:l[k]?=some x) (hk:k<j):(nH l j n z)[k]?=some x:=by
 unfold nH
 rw [jg (by rw [fg]; have:=(bU.1 h).1; omega),qh hk,h]
def lvB (i k:Nat) (h:List Int):Prop:=∀x∈h,0<=x/\x<((i+1+k:Nat):Int)
theorem ahj (i g:Nat):lvB i 0 (bu i g):=fun x hx=>by
 obtain ⟨r,_,rfl⟩:=ff.1 hx
 omega
theorem LR {i k:Nat} {h:List Int} (hb:lvB i k h) (t:Nat):lvB i (k+1) (h.set t ((i+1+k:Nat):Int)):=fun x hx=>by
 rcases kr hx with h1 | h1
 ·have:=hb x h1; omega
 ·omega
theorem nw {h:List Int} {r:Nat} {x:Int} (hx:h[r]?=some x):gi h ((r:Nat):Int)=x:=oO hx
theorem Jt:∀(l:List (Int×Int)) (u:List Int) (k:Nat),(uR u k l).length=u.length+l.length
 | [],u,k=>rfl
 | q::l,u,k=>by rw [uR,Jt l]; unfold uS; simp; omega
theorem Ea:∀{l:List (Int×Int)} {u:List Int} {k j:Nat} {q:Int×Int},l[j]?=some q->uR u k (l.take (j+1))=uS (uR u k (l.take j)) (k+j) q
 | [],_,_,_,_,h=>by simp at h
 | d::l,u,k,0,q,h=>by cases h; rfl
 | d::l,u,k,j+1,q,h=>by
  rw [xo,xo,uR,uR,Ea (j:=j) (by simpa using h),show k+1+j=k+(j+1) by omega]
theorem W0 {u:List Int} {n:Nat} {vs:List Int} {j:Nat} {v:Int} (h:vs[j]?=some v):uO u n (vs.take (j+1))=(uO u n (vs.take j)).set v.toNat n:=by
 unfold uO
 rw [take_one h,List.foldl_append]
 rfl
theorem Ss (n:Nat):∀(vs:List Int) (u:List Int),(uO u n vs).length=u.length
 | [],u=>rfl
 | v::vs,u=>by show (uO (u.set v.toNat n) n vs).length=_; rw [Ss n vs,cH]
section
variable {P:Program} {fn:Func} {R:Ending->World->Prop} {T:Gi P} {mix:P.follows .mixedOrders=true} {N:Nat} {w:World} {l:List (Nat×Value)} {v1 v2:Value} {t1 t2:Nat}
theorem oM2 {D:Nat} {ok:yc (Uq P fn R)} (h:fn.results=#[.tmp t1,.tmp t2]) (h1:(look l t1,look l t2)=(some v1,some v2)) (hD:w.heap[D]?=some (.deferred (some []))) (hR:R (.returned (.tuple #[v1,v2])) (w.putObj D (.deferred none))):jB ⟨T,mix,none,9,[{ target:=.collected D,args:=#[] }],N,Uq P fn R,ok⟩ w (.fin .ret) [] l:=⟨fun _ e=>rT e hD (gC h (RV.tmp e (aM (·.1) h1)) (RV.tmp e (aM (·.2) h1))) hR⟩
end
theorem NN {w0:World} {i:Int} {g:Nat} {A0 A1:Option Addr} {n0 c0 n1 c1:Nat} {es0:List IE} {es1:List Int} (h0:(jM A0 n0 c0 es0).P w0) (h1:(bE A1 n1 c1 es1).P w0) (bH:jc i (g:Nat) n0 n1 es0 es1):
  Calls Tryz.prog 185 #[.agg #[aq i,ak g,.slice A0 n0 c0,.slice A1 n1 c1]] w0 fun e w'=>∃A c,e=.returned (.tuple #[.slice A n0 c,aq 0])/\St w0 w' [av ar 4 1 A n0 c (fl fO (gG es1 es0).1)] []:=by
 have k1:=bH.i1
 have k2:=bH.ln
 have hR:=CC bH
 refine enM tb mixed Tryz.func185 rfl Tryz.ntmps185 rfl fun σ=>?_
 have a8:=h0.2.1
 have ic:=h0.1.cap
 have bW:=h0.1.big
 unfold maxLen at bW
 have cY:=h1.2.1
 have kY:=h1.1.cap
 have eC:=h1.1.big
 unfold maxLen at eC
 replace σ:=σ.aE h0
 replace σ:=σ.aE h1
 refine eE rfl<|gN σ rfl fun _ bJ σ=>gE 0 σ rfl<|eE rfl<|dx Tryz.call212 (GQ σ.bC σ.aU bH) σ rfl fun _ σ=>iF rfl rfl<|lE 0 σ rfl<|eE rfl<|yg fO false ar σ ni rfl ae (by unfold maxLen; omega) fun _ cJ σ=>eE rfl<|eL pD σ rfl fun _ fo σ=>eE rfl<|j0 0 σ rfl fun _ σ=>lE 2 σ rfl<|eE rfl<|yg fO false ar σ ni rfl ae (by unfold maxLen; omega) fun _ eZ σ=>eE rfl<|eL pD σ rfl fun _ oo σ=>eE rfl<|j0 0 σ rfl fun _ σ=>lE 4 σ rfl<|?_
 rw [Ql,show oZ g (fun _=>false)=oZ g (Cj (fun _=>false) (es1.take 0)) from pK fun r=>(DB (fun _=>false) r).symm] at σ
 refine fX (fun mz l w=>∃j:Nat,n1 - j=mz/\l=[(25,ak j),(1,bB bJ),(4,bB fo),(5,bB oo),(23,.slice A1 n1 c1),(24,ak n1)]/\St w0 w [bk oo #[.slice (bh eZ) g g] 219,aal (bh eZ) g g (oZ g (Cj (fun _=>false) (es1.take j))),bk fo #[.slice (bh cJ) n0 n0] 219,aal (bh cJ) n0 n0 (List.replicate n0 false),bk bJ #[aq i,ak g,.slice A0 n0 c0,.slice A1 n1 c1] 28] [bE A1 n1 c1 es1,jM A0 n0 c0 es0]/\j<=n1) ⟨0,rfl,rfl,σ,(bm _)⟩ ay ?_
 rintro _ _ _ ⟨j,rfl,rfl,σ,hj⟩
 refine ei rfl<|wD (fun wa=>?_) fun wa=>?_
 ·have cD:j<n1:=ae
  obtain ⟨x,b5⟩:∃e,es1[j]?=some e:=⟨_,aw ae⟩
  have xG:=bH.out x (aB b5)
  obtain ⟨q,rfl⟩:=dh xG.1
  have hqg:q<g:=ae
  refine iT rfl rfl<|vE rfl (fun η=>az (i:=j) η Tryz.underlying26 (aD.size) rfl rfl ae rfl σ.aU.1)<|cE rfl (fun η=>aJ (i:=j) (j:=0) (e:=((q:Nat):Int)) η aD rfl rfl bn ai σ.aU.1 ae b5 rfl)<|lE 0 σ rfl<|vE rfl (fun η=>az (i:=q) η Tryz.underlying219 (bQ.size) rfl rfl ae rfl (ax σ.fK))<|eE rfl<|qI 1 q (e1:=true) fi σ rfl rfl ae (r8 _ _) fun _ σ=>?_
  rw [xV b5] at σ
  exact can (j:=1) rfl ae<|dF ⟨j+1,rfl,rfl,σ,ae⟩ ay ae
 ·rw [bD (by omega),KU] at σ
  refine iF rfl rfl<|?_
  rw [<- KT es1 a8,show (gG es1 []).2=(gG es1 (es0.drop n0)).2 by rw [dM ae]] at σ
  refine gE 4 σ rfl<|eE rfl<|cS Tryz.call184 (RU (i:=i) (g:=(g:Nat)) (A0:=A0) (n0:=n0) (c0:=c0) (A1:=A1) (n1:=n1) (c1:=c1)) rfl ?_
  rintro _ _ ⟨gB,rfl,hS,vG,hb⟩
  refine ⟨_,rfl,?_⟩
  replace σ:=σ.fresh hb (bk gB #[aq i,ak g,.slice A0 n0 c0,.slice A1 n1 c1] 28) hS (fun _ hb=>hb ▸ vG)
  refine nmE σ fun wL σ=>?_
  have mn:=σ.below.size
  have R8:=RY σ
  refine rgE (α:=YE) (encs:=fun x:YE=>#[ak x.1,.agg #[aq x.2.1,aq x.2.2.1,aq x.2.2.2.1,aq x.2.2.2.2.1,aq x.2.2.2.2.2]]) (V:=VB es0 n0) rfl Tryz.call211 (fun _=>rfl) (by exact ua rfl) (GR ⟨σ.aU,σ.cF,σ.bC⟩ hR) (GN) ((fun Y o o' h hc=>RX h hc)) (fun pre W=>St w0 W [bk oo #[.slice (bh eZ) g g] 219,aal (bh eZ) g g (oZ g (gG es1 (es0.drop (n0 - pre.length))).2),bk fo #[.slice (bh cJ) n0 n0] 219,aal (bh cJ) n0 n0 (wT es1 es0 (n0 - pre.length)),bk bJ #[aq i,ak g,.slice A0 n0 c0,.slice A1 n1 c1] 28] [bk gB #[aq i,ak g,.slice A0 n0 c0,.slice A1 n1 c1] 28,bE A1 n1 c1 es1,jM A0 n0 c0 es0]/\wL.heap.size<=W.heap.size) (fun x l W=>∃g4,wL.heap.size<=g4/\l=[(4,bB fo),(5,bB oo),(8,ak x.1),(9,bB g4)]/\(bk g4 #[aq x.2.1,aq x.2.2.1,aq x.2.2.2.1,aq x.2.2.2.2.1,aq x.2.2.2.2.2] 116).P W) (fun _ _ _ _ ⟨σ,tU⟩ hg hr=>⟨σ.grown mn ⟨bI,fc,bI,fc,bI,trivial⟩ ⟨bI,(fu (fun _ _ h=>h) ai),(fu (fun _ _ h=>h) ai),trivial⟩ hg hr,bq tU hg.size⟩) (fun x l s Y Z row ⟨g4,h1,h2,h3⟩ hg hr=>⟨g4,h1,h2,dC bI h3 hg hr⟩) ⟨σ.pick [0,1,2,3,4] [0,1,2] ai,aY _⟩ ?_ ?_ ?_
  ·rintro ix pre x W K hV ⟨hsi,tU⟩ hK
   have σ:=St.start W
   exact eE rfl<|eL aI σ rfl fun _ u5 σ=>eE rfl<|cX 0 σ rfl fun _ σ=>qaE fun a ea=>hK a [(4,bB fo),(5,bB oo),(8,ak x.1),(9,bB u5)] _ (ea.sub ay) (GM σ.below) (Zj σ.below) ⟨hsi.grown (B:=wL.heap.size) mn ⟨bI,fc,bI,fc,bI,trivial⟩ ⟨bI,(fu (fun _ _ h=>h) ai),(fu (fun _ _ h=>h) ai),trivial⟩ (jv σ.below) (fun r e=>by cases e),bq tU σ.below.size⟩ (⟨u5,bq tU (σ.oge (k:=0) rfl),rfl,σ.dj⟩)
  ·rintro ix pre ⟨xj,x1,x2,x3,x4,x5⟩ l W ⟨Ig,Ug,hex⟩ ⟨σ,tU⟩ ⟨g4,hg4,rfl,hgb⟩
   dsimp only at hex hgb Ug
   have hmy:cN (x1,x2,x3,x4,x5) g:=bH.may _ (aB hex)
   have Ov:=hmy
   unfold cN at Ov
   dsimp only at Ov
   obtain ⟨t,ht⟩:∃t:Nat,x2=t:=⟨x2.toNat,by omega⟩
   subst ht
   have htg:t<g:=ae
   have hak:=pY hmy
   have Zo:n0 - pre.length=xj+1:=ae
   have amF:xj<n0:=ae
   rw [Zo] at σ
   have tB:s5 wL.heap.size [bk oo #[.slice (bh eZ) g g] 219,aal (bh eZ) g g (oZ g (gG es1 (es0.drop (xj+1))).2),bk fo #[.slice (bh cJ) n0 n0] 219,aal (bh cJ) n0 n0 (wT es1 es0 (xj+1)),bk bJ #[aq i,ak g,.slice A0 n0 c0,.slice A1 n1 c1] 28]:=R8
   replace σ:=σ.Zi tB hg4 hgb
   replace σ:=σ.Zh tB
   obtain ⟨bt,R9⟩:∃bt,(gG es1 (es0.drop (xj+1))).2 ((t:Nat):Int)=bt:=⟨_,rfl⟩
   have hbe:(oZ g (gG es1 (es0.drop (xj+1))).2)[t]?=some bt:=by rw [Qk htg,R9]
   refine lE 0 σ rfl<|cE rfl (fun η=>aS η aD rfl (kg σ.bC) rfl)<|vE rfl (fun η=>az (i:=t) η Tryz.underlying219 (bQ.size) rfl rfl ae rfl (ax σ.fK))<|cE rfl (fun η=>aJ (i:=t) (j:=0) (e:=bt) η bQ rfl rfl fi ai (ax σ.fK) ae hbe rfl)<|wB (fun rB=>?_) fun rB=>?_
   ·subst rB
    refine iF rfl rfl<|NK [] [1,4,9,12,17,20,26,28,34] [0,2,4] [0,1,2,3,4] aK σ fun _ σ=>lS 1 rfl<|lS 0 rfl<|sE rfl (fun η hg=>aS η aD rfl (kg (hg.pt (j:=1) rfl)) rfl)<|vE rfl (fun η=>az (i:=xj) η Tryz.underlying219 (bQ.size) rfl rfl ae rfl (ax σ.tw))<|eS rfl<|qI 3 xj (e1:=true) fi σ rfl rfl ae ((KS ae).trans a8) fun _ σ=>sk (σ.pick [0,2,4] [0,1,2,3,4] ai).kn<|vE rfl (fun η=>az (i:=t) η Tryz.underlying219 (bQ.size) rfl rfl ae rfl (ax σ.fK))<|eS rfl<|qI 1 t (e1:=false) fi σ rfl rfl ae (r8 _ _) fun _ σ=>sk (σ.pick [0,2,4] [0,1,2,3,4] ai).kn<|cE rfl (fun η=>dX η an rfl (kg σ.bC) rfl)<|eE rfl<|cS Tryz.call121 (mB (op:=x1) (tr:=((t:Nat):Int)) (ra:=x3) (rb:=x4) (cn:=x5) ae) rfl ?_
    rintro _ _ ⟨LF,HJ,n61,rfl,wm,tQ⟩
    refine ⟨_,rfl,?_⟩
    replace σ:=σ.more wm
    have J1:=kJ x1 x3 x4
    rw [DA,show oZ g (fun r=>if r=((t:Nat):Int) then false else (gG es1 (es0.drop (xj+1))).2 r)=oZ g (Cj (fun r=>if r=((t:Nat):Int) then false else (gG es1 (es0.drop (xj+1))).2 r) ((cP x1 x3 x4).take 0)) from pK fun r=>(DB (fun r=>if r=((t:Nat):Int) then false else (gG es1 (es0.drop (xj+1))).2 r) r).symm] at σ
    refine fX (fun mz l w=>∃m:Nat,n61 - m=mz/\l=[(53,ak m),(5,bB oo),(51,.slice LF n61 HJ),(52,ak n61)]/\St w0 w [aab LF n61 HJ (cP x1 x3 x4),bk oo #[.slice (bh eZ) g g] 219,aal (bh eZ) g g (oZ g (Cj (fun r=>if r=((t:Nat):Int) then false else (gG es1 (es0.drop (xj+1))).2 r) ((cP x1 x3 x4).take m))),bk fo #[.slice (bh cJ) n0 n0] 219,aal (bh cJ) n0 n0 ((wT es1 es0 (xj+1)).set xj true),bk bJ #[aq i,ak g,.slice A0 n0 c0,.slice A1 n1 c1] 28] [kaF wL.heap.size W,bk g4 #[aq x1,ak t,aq x3,aq x4,aq x5] 116,bk gB #[aq i,ak g,.slice A0 n0 c0,.slice A1 n1 c1] 28,bE A1 n1 c1 es1,jM A0 n0 c0 es0]/\m<=n61) ⟨0,rfl,rfl,σ,(bm _)⟩ ay ?_
    rintro _ _ _ ⟨m,rfl,rfl,σ,hm⟩
    refine ei rfl<|wD (fun Gz=>?_) fun Gz=>?_
    ·have UG:m<(cP x1 x3 x4).length:=ae
     obtain ⟨x,b5⟩:∃e,(cP x1 x3 x4)[m]?=some e:=⟨_,aw UG⟩
     have xG:=hak x (aB b5)
     obtain ⟨q,rfl⟩:=dh xG.1
     have hqg:q<g:=ae
     refine iT rfl rfl<|vE rfl (fun η=>az (i:=m) η Tryz.underlying26 (aD.size) rfl rfl ae rfl (ax σ.dm))<|cE rfl (fun η=>aJ (i:=m) (j:=0) (e:=((q:Nat):Int)) η aD rfl rfl bn ai (ax σ.dm) ae b5 rfl)<|lE 1 σ rfl<|vE rfl (fun η=>az (i:=q) η Tryz.underlying219 (bQ.size) rfl rfl ae rfl (ax σ.lY))<|eE rfl<|qI 2 q (e1:=true) fi σ rfl rfl ae (r8 _ _) fun _ σ=>?_
     rw [xV b5] at σ
     exact can (j:=1) rfl ae<|dF ⟨m+1,rfl,rfl,σ,ae⟩ ay ae
    ·refine iF rfl rfl<|?_
     rw [show (wT es1 es0 (xj+1)).set xj true=wT es1 es0 xj from by rw [<- R9]; exact Dz hex,bD (show (cP x1 x3 x4).length<=m by omega),show oZ g (Cj (fun r=>if r=((t:Nat):Int) then false else (gG es1 (es0.drop (xj+1))).2 r) (cP x1 x3 x4))=oZ g (gG es1 (es0.drop xj)).2 from Qm hex rfl R9] at σ
     have cY:n0 - (pre++[((xj,x1,(t:Int),x3,x4,x5):YE)]).length=xj:=by rw [aP,dG]; omega
     rw [<- cY] at σ
     exact rdE ⟨σ.ka (k:=0) rfl,σ.kax (k:=0) rfl ⟨σ.cF,σ.jW,σ.eY⟩,⟨σ.pick [1,2,3,4,5] [2,3,4] ai,bq tU (σ.ka (k:=0) rfl).size⟩⟩
   ·subst rB
    refine iT rfl rfl<|?_
    rw [show wT es1 es0 (xj+1)=wT es1 es0 xj from LL hex R9,show (gG es1 (es0.drop (xj+1))).2=(gG es1 (es0.drop xj)).2 from (YO hex R9).symm] at σ
    have cY:n0 - (pre++[((xj,x1,(t:Int),x3,x4,x5):YE)]).length=xj:=by rw [aP,dG]; omega
    rw [<- cY] at σ
    exact rdE ⟨σ.ka (k:=0) rfl,σ.kax (k:=0) rfl ⟨σ.cF,σ.jW,σ.eY⟩,⟨σ.pick [0,1,2,3,4] [2,3,4] ai,bq tU (σ.ka (k:=0) rfl).size⟩⟩
  ·rintro D66 xs W acQ hS ⟨σ,tU⟩ Sa
   obtain rfl:=hS
   rw [ym,mR] at σ
   replace σ:=σ.Va ⟨bI,fc,bI,fc,bI,trivial⟩ Sa
   have Sb:=bq mn acQ
   refine lE 2 σ rfl<|?_
   have uE:=σ.Vb (k:=0) rfl Sb ⟨bI,fc,bI,fc,bI,trivial⟩ ⟨bI,(fu (fun _ _ h=>h) ai),(fu (fun _ _ h=>h) ai),trivial⟩
   exact oM2 Tryz.results185 rfl σ.aU ⟨_,_,rfl,uE.pick [3] [] ai⟩
theorem W1 {i g r:Nat} (h:r<g):(bu i g)[r]?=some ((min r i:Nat):Int):=by unfold bu; rw [bo,fQ h]; rfl
theorem Ju {n k:Nat} (h:k<n):(List.replicate n true)[k]?=some true:=by rw [iN,aR h]
def EK (i n:Nat):List Int:=(List.range n).map fun k=>((i+1+k:Nat):Int)
theorem Eb {i n k:Nat} (h:k<n):(EK i n)[k]?=some ((i+1+k:Nat):Int):=by unfold EK; rw [bo,fQ h]; rfl
theorem Ec (i n:Nat):(EK i n).length=n:=by simp [EK]
theorem Su {w0:World} {i g:Nat} {A0 A1:Option Addr} {n0 c0 n1 c1:Nat} {es0:List IE} {es1:List Int} (h0:(jM A0 n0 c0 es0).P w0) (h1:(bE A1 n1 c1 es1).P w0) (bH:jc (i:Nat) (g:Nat) n0 n1 es0 es1) (n8:(gG es1 es0).1=List.replicate n0 true):
  Calls Tryz.prog 141 #[.agg (u4 i g A0 n0 c0 A1 n1 c1)] w0 fun e w'=>∃L An cn ga gb gs B d Au cu,e=.returned (.tuple #[bB L,aq 0])/\St w0 w' [bk L #[ak i,ak g,.slice A0 n0 c0,.slice A1 n1 c1,.slice An n0 cn,.slice (bh ga) n0 n0,.slice (bh gb) n0 n0,.slice (bh gs) n0 n0,.slice B n1 d,.slice Au (i+1+n0) cu] 230,aal An n0 cn (List.replicate n0 true),aab (bh ga) n0 n0 ((iY i (bu i g) 0 es0).map Prod.fst),aab (bh gb) n0 n0 ((iY i (bu i g) 0 es0).map Prod.snd),aab (bh gs) n0 n0 (EK i n0),aab B n1 d (iD i g es0 es1),aab Au (i+1+n0) cu (fC i g es0 es1)] []:=by
 have q1:=bH.i1
 have q2:=bH.ln
 refine dp Tryz.func141 rfl Tryz.ntmps141 rfl fun σ=>?_
 have a8:=h0.2.1
 have ic:=h0.1.cap
 have bW:=h0.1.big
 unfold maxLen at bW
 have cY:=h1.2.1
 have kY:=h1.1.cap
 have eC:=h1.1.big
 unfold maxLen at eC
 replace σ:=σ.aE h0
 replace σ:=σ.aE h1
 refine eE rfl<|gN σ rfl fun _ bJ σ=>gE 0 σ rfl<|eE rfl<|cS Tryz.call185 (NN σ.bC σ.aU bH) rfl ?_
 rintro _ _ ⟨An,cn,rfl,hN⟩
 refine ⟨_,rfl,?_⟩
 rw [n8] at hN
 replace σ:=σ.more hN
 refine ir rfl<|kB (b':=false) rfl<|iF rfl rfl<|lE 1 σ rfl<|Wc 0 (fun l w=>∃gL:Nat,∃ga:Nat,∃gb:Nat,∃gs:Nat,l=[(7,bB gL),(1,bB bJ),(4,.slice An n0 cn),(6,ak n0)]/\St w0 w [bk gL #[ak i,ak g,.slice A0 n0 c0,.slice A1 n1 c1,.slice An n0 cn,.slice (bh ga) n0 n0,.slice (bh gb) n0 n0,.slice (bh gs) n0 n0,bA,bA] 230,aab (bh ga) n0 n0 (List.replicate n0 (0:Int)),aab (bh gb) n0 n0 (List.replicate n0 (0:Int)),aab (bh gs) n0 n0 (List.replicate n0 (0:Int)),aal An n0 cn (List.replicate n0 true),bk bJ (u4 i g A0 n0 c0 A1 n1 c1) 28] [bE A1 n1 c1 es1,jM A0 n0 c0 es0]) rfl ?_ ?_
 ·refine gY [] [1,4,8,16,24,3,0,0,0,0,0] aK σ fun _ σ=>gS 1 rfl<|brE [(3,[3,0,0,0,0]),(5,[3,0,0,0,0]),(7,[3,0,0,0,0])] aK cT ⟨⟨⟨_,_,_,_,_,rfl,?_⟩,by kernel_rfl,rfl⟩,⟨⟨_,_,_,_,_,rfl,?_⟩,by kernel_rfl,rfl⟩,⟨⟨_,_,_,_,_,rfl,?_⟩,by kernel_rfl,rfl⟩,trivial⟩
  ·refine yg fI (0:Int) ar σ du rfl ae (by unfold maxLen; omega) fun _ cJ σ=>sk (σ.kd 1 0)<|brE [(5,[30,32,38,40]),(7,[22,32,38,40])] aK cT ⟨⟨⟨_,_,_,_,_,rfl,?_⟩,by kernel_rfl,rfl⟩,⟨⟨_,_,_,_,_,rfl,?_⟩,by kernel_rfl,rfl⟩,trivial⟩
   ·exact yg fI (0:Int) ar σ du rfl ae (by unfold maxLen; omega) fun _ fo σ=>sk (σ.kd 2 0)<|eS rfl<|yg fI (0:Int) ar σ du rfl ae (by unfold maxLen; omega) fun _ eZ σ=>sk (σ.kd 3 0)<|vE rfl (fun η=>cK (c:=#[ak i,ak g,.slice A0 n0 c0,.slice A1 n1 c1,.slice An n0 cn,.slice (bh cJ) n0 n0,.slice (bh fo) n0 n0,.slice (bh eZ) n0 n0,bA,bA]) eN η rfl aK)<|eS rfl<|gN σ rfl fun _ oo σ=>sk (σ.kd 4 0)<|xf ⟨oo,cJ,fo,eZ,rfl,σ.pick [0,3,2,1,4,5] [0,1] ai⟩ ay
   ·exact yg fI (0:Int) ar σ du rfl ae (by unfold maxLen; omega) fun _ yi σ=>sk (σ.kd 2 0)<|eS rfl<|yg fI (0:Int) ar σ du rfl ae (by unfold maxLen; omega) fun _ u5 σ=>sk (σ.kd 3 0)<|vE rfl (fun η=>cK (c:=#[ak i,ak g,.slice A0 n0 c0,.slice A1 n1 c1,.slice An n0 cn,.slice (bh cJ) n0 n0,.slice (bh u5) n0 n0,.slice (bh yi) n0 n0,bA,bA]) eN η rfl aK)<|eS rfl<|gN σ rfl fun _ z7 σ=>sk (σ.kd 4 0)<|xf ⟨z7,cJ,u5,yi,rfl,σ.pick [0,3,1,2,4,5] [0,1] ai⟩ ay
  ·refine yg fI (0:Int) ar σ du rfl ae (by unfold maxLen; omega) fun _ B4 σ=>sk (σ.kd 1 0)<|brE [(3,[30,32,38,40]),(7,[14,32,38,40])] aK cT ⟨⟨⟨_,_,_,_,_,rfl,?_⟩,by kernel_rfl,rfl⟩,⟨⟨_,_,_,_,_,rfl,?_⟩,by kernel_rfl,rfl⟩,trivial⟩
   ·exact yg fI (0:Int) ar σ du rfl ae (by unfold maxLen; omega) fun _ Bt σ=>sk (σ.kd 2 0)<|eS rfl<|yg fI (0:Int) ar σ du rfl ae (by unfold maxLen; omega) fun _ GF σ=>sk (σ.kd 3 0)<|vE rfl (fun η=>cK (c:=#[ak i,ak g,.slice A0 n0 c0,.slice A1 n1 c1,.slice An n0 cn,.slice (bh Bt) n0 n0,.slice (bh B4) n0 n0,.slice (bh GF) n0 n0,bA,bA]) eN η rfl aK)<|eS rfl<|gN σ rfl fun _ g62 σ=>sk (σ.kd 4 0)<|xf ⟨g62,Bt,B4,GF,rfl,σ.pick [0,2,3,1,4,5] [0,1] ai⟩ ay
   ·exact yg fI (0:Int) ar σ du rfl ae (by unfold maxLen; omega) fun _ WD σ=>sk (σ.kd 2 0)<|eS rfl<|yg fI (0:Int) ar σ du rfl ae (by unfold maxLen; omega) fun _ NM σ=>sk (σ.kd 3 0)<|vE rfl (fun η=>cK (c:=#[ak i,ak g,.slice A0 n0 c0,.slice A1 n1 c1,.slice An n0 cn,.slice (bh NM) n0 n0,.slice (bh B4) n0 n0,.slice (bh WD) n0 n0,bA,bA]) eN η rfl aK)<|eS rfl<|gN σ rfl fun _ Ox σ=>sk (σ.kd 4 0)<|xf ⟨Ox,NM,B4,WD,rfl,σ.pick [0,1,3,2,4,5] [0,1] ai⟩ ay
  ·refine yg fI (0:Int) ar σ du rfl ae (by unfold maxLen; omega) fun _ Zs σ=>sk (σ.kd 1 0)<|brE [(3,[22,32,38,40]),(5,[14,32,38,40])] aK cT ⟨⟨⟨_,_,_,_,_,rfl,?_⟩,by kernel_rfl,rfl⟩,⟨⟨_,_,_,_,_,rfl,?_⟩,by kernel_rfl,rfl⟩,trivial⟩
   ·exact yg fI (0:Int) ar σ du rfl ae (by unfold maxLen; omega) fun _ g67 σ=>sk (σ.kd 2 0)<|eS rfl<|yg fI (0:Int) ar σ du rfl ae (by unfold maxLen; omega) fun _ g68 σ=>sk (σ.kd 3 0)<|vE rfl (fun η=>cK (c:=#[ak i,ak g,.slice A0 n0 c0,.slice A1 n1 c1,.slice An n0 cn,.slice (bh g67) n0 n0,.slice (bh g68) n0 n0,.slice (bh Zs) n0 n0,bA,bA]) eN η rfl aK)<|eS rfl<|gN σ rfl fun _ g69 σ=>sk (σ.kd 4 0)<|xf ⟨g69,g67,g68,Zs,rfl,σ.pick [0,2,1,3,4,5] [0,1] ai⟩ ay
   ·exact yg fI (0:Int) ar σ du rfl ae (by unfold maxLen; omega) fun _ g70 σ=>sk (σ.kd 2 0)<|eS rfl<|yg fI (0:Int) ar σ du rfl ae (by unfold maxLen; omega) fun _ g71 σ=>sk (σ.kd 3 0)<|vE rfl (fun η=>cK (c:=#[ak i,ak g,.slice A0 n0 c0,.slice A1 n1 c1,.slice An n0 cn,.slice (bh g71) n0 n0,.slice (bh g70) n0 n0,.slice (bh Zs) n0 n0,bA,bA]) eN η rfl aK)<|eS rfl<|gN σ rfl fun _ g72 σ=>sk (σ.kd 4 0)<|xf ⟨g72,g71,g70,Zs,rfl,σ⟩ ay
 rintro _ _ ⟨gL,ga,gb,gs,rfl,σ⟩
 refine lE 5 σ rfl<|eE rfl<|yg fI (0:Int) ar σ du rfl ae (by unfold maxLen; omega) fun _ W2 σ=>?_
 rw [<- Js (bu i g) g (0:Int)] at σ
 refine fX (fun mz l w=>∃j:Nat,g - j=mz/\l=[(40,ak j),(1,bB bJ),(4,.slice An n0 cn),(6,ak n0),(7,bB gL),(8,.slice (bh W2) g g),(39,ak g)]/\St w0 w [aab (bh W2) g g (nH (bu i g) j g 0),bk gL #[ak i,ak g,.slice A0 n0 c0,.slice A1 n1 c1,.slice An n0 cn,.slice (bh ga) n0 n0,.slice (bh gb) n0 n0,.slice (bh gs) n0 n0,bA,bA] 230,aab (bh ga) n0 n0 (List.replicate n0 (0:Int)),aab (bh gb) n0 n0 (List.replicate n0 (0:Int)),aab (bh gs) n0 n0 (List.replicate n0 (0:Int)),aal An n0 cn (List.replicate n0 true),bk bJ (u4 i g A0 n0 c0 A1 n1 c1) 28] [bE A1 n1 c1 es1,jM A0 n0 c0 es0]/\j<=g) ⟨0,rfl,rfl,σ,(bm _)⟩ ay ?_
 rintro _ _ _ ⟨j,rfl,rfl,σ,hj⟩
 refine ei rfl<|wD (fun Us=>?_) fun Us=>?_
 ·have cD:j<g:=ae
  refine iT rfl rfl<|gE 6 σ rfl<|eE rfl<|dx Tryz.call186 (Sn (i:=i) (g:=g) (r:=j) (n0:=n0) (c0:=c0) (n1:=n1) (c1:=c1) (A0:=A0) (A1:=A1)) σ rfl fun _ σ=>vE rfl (fun η=>az (i:=j) η Tryz.underlying26 (aD.size) rfl rfl ae rfl (ax σ.dm))<|eE rfl<|qI 0 j (e1:=(((min j i):Nat):Int)) bn σ rfl rfl ae (by rw [iv hj (gK i g).symm]) fun _ σ=>?_
  rw [lR (W1 cD) cD] at σ
  exact can (j:=1) rfl ae<|dF ⟨j+1,rfl,rfl,σ,ae⟩ ay ae
 ·obtain rfl:g=j:=ae
  rw [wA (gK i g)] at σ
  refine iF rfl rfl<|lE 6 σ rfl<|can (j:=1) rfl ae<|?_
  replace σ:=(σ.cl ar 3 1)
  refine fX (fun mz l w=>∃u:Nat,∃A6:Option Addr,∃c6:Nat,i+1 - u=mz/\l=[(53,ak u),(1,bB bJ),(4,.slice An n0 cn),(6,ak n0),(7,bB gL),(8,.slice (bh W2) g g),(52,ak (i+1))]/\St w0 w [bk gL #[ak i,ak g,.slice A0 n0 c0,.slice A1 n1 c1,.slice An n0 cn,.slice (bh ga) n0 n0,.slice (bh gb) n0 n0,.slice (bh gs) n0 n0,bA,.slice A6 u c6] 230,aab A6 u c6 (List.replicate u (-1:Int)),aab (bh W2) g g (bu i g),aab (bh ga) n0 n0 (List.replicate n0 (0:Int)),aab (bh gb) n0 n0 (List.replicate n0 (0:Int)),aab (bh gs) n0 n0 (List.replicate n0 (0:Int)),aal An n0 cn (List.replicate n0 true),bk bJ (u4 i g A0 n0 c0 A1 n1 c1) 28] [bE A1 n1 c1 es1,jM A0 n0 c0 es0]/\u<=i+1) ⟨0,none,0,rfl,rfl,σ.pick [2,0,1,3,4,5,6,7] [0,1] ai,(bm _)⟩ ay ?_
  rintro _ _ _ ⟨u,A6,c6,rfl,rfl,σ,hu⟩
  refine ei rfl<|wD (fun h75=>?_) fun h75=>?_
  ·refine iT rfl rfl<|lE 0 σ rfl<|eE rfl<|lr (z:=1) #[aq (-1)] σ (aD.size) dc rfl aK fun _ g76 σ=>eE rfl<|pT (new:=[(-1)]) 2 0 σ du rfl (by unfold maxLen; omega) ae fun _ g77 c78 σ=>?_
   rw [<- List.replicate_succ'] at σ
   exact eE rfl<|j0 1 σ rfl fun _ σ=>can (j:=1) rfl ae<|dF ⟨u+1,(bh g77),c78,rfl,rfl,σ.pick [1,2,3,4,5,6,7,8] [0,1] ai,ae⟩ ay ae
  ·obtain rfl:u=i+1:=ae
   refine iF rfl rfl<|lE 7 σ rfl<|?_
   refine nmE σ fun wL σ=>?_
   refine fX (fun mz l w=>∃k:Nat,∃A7:Option Addr,∃c7:Nat,n0 - k=mz/\l=[(68,ak k),(1,bB bJ),(4,.slice An n0 cn),(6,ak n0),(7,bB gL),(8,.slice (bh W2) g g),(66,.slice A0 n0 c0),(67,ak n0)]/\St w0 w [bk gL #[ak i,ak g,.slice A0 n0 c0,.slice A1 n1 c1,.slice An n0 cn,.slice (bh ga) n0 n0,.slice (bh gb) n0 n0,.slice (bh gs) n0 n0,bA,.slice A7 (i+1+k) c7] 230,aab (bh ga) n0 n0 (nH ((iY i (bu i g) 0 es0).map Prod.fst) k n0 0),aab (bh gb) n0 n0 (nH ((iY i (bu i g) 0 es0).map Prod.snd) k n0 0),aab (bh gs) n0 n0 (nH (EK i n0) k n0 0),aab (bh W2) g g (l9 i (bu i g) 0 (es0.take k)),aab A7 (i+1+k) c7 (uR (List.replicate (i+1) (-1)) 0 ((iY i (bu i g) 0 es0).take k)),aal An n0 cn (List.replicate n0 true),bk bJ (u4 i g A0 n0 c0 A1 n1 c1) 28] [bE A1 n1 c1 es1,jM A0 n0 c0 es0]/\k<=n0/\lvB i k (l9 i (bu i g) 0 (es0.take k))) ⟨0,A6,c6,rfl,rfl,σ.pick [0,3,4,5,2,1,6,7] [0,1] ai,(bm _),(ahj i g)⟩ ay ?_
   rintro _ _ _ ⟨k,A7,c7,rfl,rfl,σ,hk,hB⟩
   refine ei rfl<|wD (fun h79=>?_) fun h79=>?_
   ·have cD:k<n0:=ae
    obtain ⟨⟨op,D9,xy,vn,BA⟩,b5⟩:∃e,es0[k]?=some e:=⟨_,aw ae⟩
    have hM:=bH.may _ (aB b5)
    have xi:=hM
    unfold cN at xi
    dsimp only at xi
    obtain ⟨tr,rfl⟩:=dh (show 0<=D9 by omega)
    obtain ⟨ra,rfl⟩:=dh (show 0<=xy by omega)
    obtain ⟨rb,rfl⟩:=dh (show 0<=vn by omega)
    have hHl:(l9 i (bu i g) 0 (es0.take k)).length=g:=by rw [pN,gK]
    obtain ⟨xa,oQ⟩:∃x,(l9 i (bu i g) 0 (es0.take k))[ra]?=some x:=⟨_,aw ae⟩
    have hba:=hB _ (aB oQ)
    obtain ⟨va,rfl⟩:=dh hba.1
    have EC:(uR (List.replicate (i+1) (-1)) 0 ((iY i (bu i g) 0 es0).take k)).length=i+1+k:=by rw [Jt,jH,fg,gj]; omega
    have wJ:=rp i es0 (bu i g) 0 k _ b5
    have W4:((iY i (bu i g) 0 es0).map Prod.fst)[k]?=some ((va:Nat):Int):=by rw [bo,wJ]; exact aM some (nw oQ)
    refine iT rfl rfl<|vE rfl (fun η=>az (i:=k) η Tryz.underlying25 (an.size) rfl rfl ae rfl σ.bC.1)<|cE rfl (fun η=>bF (v:=#[aq op,ak tr,ak ra,ak rb,aq BA]) (i:=k) (e:=(op,((tr:Nat):Int),((ra:Nat):Int),((rb:Nat):Int),BA)) η an rfl rfl iR σ.bC.1 ae b5 rfl)<|eE rfl<|eL aI σ rfl fun _ g80 σ=>eE rfl<|cX 0 σ rfl fun _ σ=>vE rfl (fun η=>az (i:=k) η Tryz.underlying219 (bQ.size) rfl rfl ae rfl (ax σ.tx))<|cE rfl (fun η=>aJ (i:=k) (j:=0) (e:=true) η bQ rfl rfl fi ai (ax σ.tx) ae (Ju cD) rfl)<|iF rfl rfl<|NK [] [0,4,8,13,16,20,24,28,33,36,40,44,49,52,57,60,64,69,72,77,80,86,88,94] [0,1,4,5,6,7,8] [0,1] aK σ fun _ σ=>lS 1 rfl<|lS 1 rfl<|lS 0 rfl<|vE rfl (fun η=>az (i:=ra) η Tryz.underlying26 (aD.size) rfl rfl ae rfl (ax σ.MN))<|sE rfl (fun η hg=>aJ (i:=ra) (j:=0) (e:=((va:Nat):Int)) η aD rfl rfl bn ai (ax (hg.ow (j:=3) rfl)) ae oQ rfl)<|lS 0 rfl<|vE rfl (fun η=>az (i:=ra) η Tryz.underlying26 (aD.size) rfl rfl ae rfl (ax σ.MN))<|sE rfl (fun η hg=>aJ (i:=ra) (j:=0) (e:=((va:Nat):Int)) η aD rfl rfl bn ai (ax (hg.ow (j:=3) rfl)) ae oQ rfl)<|vE rfl (fun η=>az (i:=k) η Tryz.underlying26 (aD.size) rfl rfl ae rfl (ax σ.lY))<|eS rfl<|qI 2 k (e1:=((va:Nat):Int)) bn σ rfl rfl ae (iv hk (by rw [aZ,gj]; omega)) fun _ σ=>sk (σ.pick [0,1,4,5,6,7,8] [0,1] ai).kn<|vE rfl (fun η=>az (i:=k) η Tryz.underlying26 (aD.size) rfl rfl ae rfl (ax σ.tw))<|eS rfl<|qI 3 k (e1:=((va:Nat):Int)) bn σ rfl rfl ae (by first | exact iv hk (by rw [aZ,gj]; omega) | (rw [cH]; exact iv hk (by rw [aZ,gj]; omega))) fun _ σ=>sk (σ.pick [0,1,4,5,6,7,8] [0,1] ai).kn<|?_
    rw [lR W4 cD] at σ
    refine gE 0 σ rfl<|eE rfl<|cS Tryz.call121 (mB (op:=op) (tr:=((tr:Nat):Int)) (ra:=((ra:Nat):Int)) (rb:=((rb:Nat):Int)) (cn:=BA) ae) rfl ?_
    rintro _ _ ⟨A81,c82,Sv,rfl,amU,ahl⟩
    refine ⟨_,rfl,?_⟩
    replace σ:=σ.more amU
    have amV:=kJ op ((ra:Nat):Int) ((rb:Nat):Int)
    refine pd rfl<|wD (fun h87=>?_) fun h87=>?_
    ·have KY:(op=3∨op=4)↔1<Sv:=by rw [<- ahl]; unfold cP; split<;>(try split)<;>simp_all
     obtain ⟨xb,zD⟩:∃x,(l9 i (bu i g) 0 (es0.take k))[rb]?=some x:=⟨_,aw ae⟩
     have T5:=hB _ (aB zD)
     obtain ⟨vb,rfl⟩:=dh T5.1
     have Sw:((iY i (bu i g) 0 es0).map Prod.snd)[k]?=some ((vb:Nat):Int):=by rw [bo,wJ]; refine aM some ?_; dsimp only; rw [aR ae]; exact nw zD
     refine iT rfl rfl<|NK [] [0,4,8,13,16,20,24,29,32,37,40,46] [0,1,2,3,5,6,7,8,9] [0,1] aK σ fun _ σ=>lS 2 rfl<|lS 1 rfl<|vE rfl (fun η=>az (i:=rb) η Tryz.underlying26 (aD.size) rfl rfl ae rfl (ax σ.O'))<|sE rfl (fun η hg=>aJ (i:=rb) (j:=0) (e:=((vb:Nat):Int)) η aD rfl rfl bn ai (ax (hg.ow (j:=5) rfl)) ae zD rfl)<|vE rfl (fun η=>az (i:=k) η Tryz.underlying26 (aD.size) rfl rfl ae rfl (ax σ.Bl))<|eS rfl<|qI 4 k (e1:=((vb:Nat):Int)) bn σ rfl rfl ae (by first | exact iv hk (by rw [aZ,gj]; omega) | (rw [cH]; exact iv hk (by rw [aZ,gj]; omega))) fun _ σ=>sk (σ.pick [0,1,2,3,5,6,7,8,9] [0,1] ai).kn<|?_
     rw [List.set_set,lR Sw cD] at σ
     refine NK [] [0,4,8,13,16,20,24,29,32,36,41,44,48,52,57,60,64,68,73,76,80,85,88,92,96,102,104,110] [0,1,2,3,4,5,6,8,9] [0,1] aK σ fun _ σ=>lS 2 rfl<|lS 2 rfl<|vE rfl (fun η=>az (i:=k) η Tryz.underlying26 (aD.size) rfl rfl ae rfl (ax σ.tw))<|sE rfl (fun η hg=>aJ (i:=k) (j:=0) (e:=((va:Nat):Int)) η aD rfl rfl bn ai (ax (hg.ow (j:=3) rfl)) ae (yp W4 (qJ k)) rfl)<|lS 2 rfl<|lS 2 rfl<|vE rfl (fun η=>az (i:=k) η Tryz.underlying26 (aD.size) rfl rfl ae rfl (ax σ.Bl))<|sE rfl (fun η hg=>aJ (i:=k) (j:=0) (e:=((vb:Nat):Int)) η aD rfl rfl bn ai (ax (hg.ow (j:=4) rfl)) ae (yp Sw (qJ k)) rfl)<|vE rfl (fun η=>az (i:=va) η Tryz.underlying26 (aD.size) rfl rfl ae rfl (ax σ.tx))<|eS rfl<|qI 7 va (e1:=((k:Nat):Int)) bn σ rfl rfl ae (by first | exact EC | (rw [cH]; exact EC)) fun _ σ=>sk (σ.pick [0,1,2,3,4,5,6,8,9] [0,1] ai).kn<|vE rfl (fun η=>az (i:=vb) η Tryz.underlying26 (aD.size) rfl rfl ae rfl (ax σ.tx))<|eS rfl<|qI 7 vb (e1:=((k:Nat):Int)) bn σ rfl rfl ae (by first | exact EC | (rw [cH]; exact EC)) fun _ σ=>sk (σ.pick [0,1,2,3,4,5,6,8,9] [0,1] ai).kn<|NK [] [0,4,8,13,16,20,24,29,32,36,40,45,48,52,56,60,65,68,72,78,80,86] [0,1,2,3,4,7,8,9] [0,1] aK σ fun _ σ=>lS 2 rfl<|lS 1 rfl<|lS 2 rfl<|lS 2 rfl<|vE rfl (fun η=>az (i:=k) η Tryz.underlying26 (aD.size) rfl rfl ae rfl (ax σ.MN))<|eS rfl<|qI 5 k (e1:=((i+1+k:Nat):Int)) bn σ rfl rfl ae (iv hk (Ec i n0).symm) fun _ σ=>sk (σ.pick [0,1,2,3,4,7,8,9] [0,1] ai).kn<|vE rfl (fun η=>az (i:=tr) η Tryz.underlying26 (aD.size) rfl rfl ae rfl (ax σ.O'))<|eS rfl<|qI 6 tr (e1:=((i+1+k:Nat):Int)) bn σ rfl rfl ae hHl fun _ σ=>sk (σ.pick [0,1,2,3,4,7,8,9] [0,1] ai).kn<|?_
     rw [lR (Eb cD) cD,show (l9 i (bu i g) 0 (es0.take k)).set tr ((i+1+k:Nat):Int)=(l9 i (bu i g) 0 (es0.take (k+1))) from (jZ b5).symm] at σ
     refine lE 2 σ rfl<|eE rfl<|lr (z:=1) #[aq (-1)] σ (aD.size) dc rfl aK fun _ g88 σ=>eE rfl<|pT (new:=[(-1)]) 8 0 σ du rfl (by unfold maxLen; omega) ae fun _ g89 Wv σ=>eE rfl<|j0 3 σ rfl fun _ σ=>?_
     rw [show ((uR (List.replicate (i+1) (-1)) 0 ((iY i (bu i g) 0 es0).take k)).set va ((k:Nat):Int)).set vb ((k:Nat):Int)++[-1]=(uR (List.replicate (i+1) (-1)) 0 ((iY i (bu i g) 0 es0).take (k+1))) from by rw [Ea wJ]; unfold uS; dsimp only; rw [nw oQ,aR ae,nw zD,fz]; rfl] at σ
     exact can (j:=1) rfl ae<|dF ⟨k+1,(bh g89),Wv,rfl,rfl,σ.pick [3,4,5,6,7,8,9,10] [0,1] ai,ae,(by rw [jZ b5]; exact LR hB _)⟩ ay ae
    ·have KY:(op=3∨op=4)↔1<Sv:=by rw [<- ahl]; unfold cP; split<;>(try split)<;>simp_all
     have Sw:((iY i (bu i g) 0 es0).map Prod.snd)[k]?=some ((va:Nat):Int):=by rw [bo,wJ]; refine aM some ?_; dsimp only; rw [aQ ae]; exact nw oQ
     rw [lR Sw cD] at σ
     refine iF rfl rfl<|NK [] [0,4,8,13,16,20,24,29,32,36,41,44,48,52,57,60,64,68,73,76,80,85,88,92,96,102,104,110] [0,1,2,3,4,5,6,8,9] [0,1] aK σ fun _ σ=>lS 2 rfl<|lS 2 rfl<|vE rfl (fun η=>az (i:=k) η Tryz.underlying26 (aD.size) rfl rfl ae rfl (ax σ.tw))<|sE rfl (fun η hg=>aJ (i:=k) (j:=0) (e:=((va:Nat):Int)) η aD rfl rfl bn ai (ax (hg.ow (j:=3) rfl)) ae (yp W4 (qJ k)) rfl)<|lS 2 rfl<|lS 2 rfl<|vE rfl (fun η=>az (i:=k) η Tryz.underlying26 (aD.size) rfl rfl ae rfl (ax σ.Bl))<|sE rfl (fun η hg=>aJ (i:=k) (j:=0) (e:=((va:Nat):Int)) η aD rfl rfl bn ai (ax (hg.ow (j:=4) rfl)) ae (yp Sw (qJ k)) rfl)<|vE rfl (fun η=>az (i:=va) η Tryz.underlying26 (aD.size) rfl rfl ae rfl (ax σ.tx))<|eS rfl<|qI 7 va (e1:=((k:Nat):Int)) bn σ rfl rfl ae (by first | exact EC | (rw [cH]; exact EC)) fun _ σ=>sk (σ.pick [0,1,2,3,4,5,6,8,9] [0,1] ai).kn<|vE rfl (fun η=>az (i:=va) η Tryz.underlying26 (aD.size) rfl rfl ae rfl (ax σ.tx))<|eS rfl<|qI 7 va (e1:=((k:Nat):Int)) bn σ rfl rfl ae (by first | exact EC | (rw [cH]; exact EC)) fun _ σ=>sk (σ.pick [0,1,2,3,4,5,6,8,9] [0,1] ai).kn<|NK [] [0,4,8,13,16,20,24,29,32,36,40,45,48,52,56,60,65,68,72,78,80,86] [0,1,2,3,4,7,8,9] [0,1] aK σ fun _ σ=>lS 2 rfl<|lS 1 rfl<|lS 2 rfl<|lS 2 rfl<|vE rfl (fun η=>az (i:=k) η Tryz.underlying26 (aD.size) rfl rfl ae rfl (ax σ.MN))<|eS rfl<|qI 5 k (e1:=((i+1+k:Nat):Int)) bn σ rfl rfl ae (iv hk (Ec i n0).symm) fun _ σ=>sk (σ.pick [0,1,2,3,4,7,8,9] [0,1] ai).kn<|vE rfl (fun η=>az (i:=tr) η Tryz.underlying26 (aD.size) rfl rfl ae rfl (ax σ.O'))<|eS rfl<|qI 6 tr (e1:=((i+1+k:Nat):Int)) bn σ rfl rfl ae hHl fun _ σ=>sk (σ.pick [0,1,2,3,4,7,8,9] [0,1] ai).kn<|?_
     rw [lR (Eb cD) cD,show (l9 i (bu i g) 0 (es0.take k)).set tr ((i+1+k:Nat):Int)=(l9 i (bu i g) 0 (es0.take (k+1))) from (jZ b5).symm] at σ
     refine lE 2 σ rfl<|eE rfl<|lr (z:=1) #[aq (-1)] σ (aD.size) dc rfl aK fun _ g91 σ=>eE rfl<|pT (new:=[(-1)]) 8 0 σ du rfl (by unfold maxLen; omega) ae fun _ g92 c93 σ=>eE rfl<|j0 3 σ rfl fun _ σ=>?_
     rw [show ((uR (List.replicate (i+1) (-1)) 0 ((iY i (bu i g) 0 es0).take k)).set va ((k:Nat):Int)).set va ((k:Nat):Int)++[-1]=(uR (List.replicate (i+1) (-1)) 0 ((iY i (bu i g) 0 es0).take (k+1))) from by rw [Ea wJ]; unfold uS; dsimp only; rw [nw oQ,aQ ae,fz]; rfl] at σ
     exact can (j:=1) rfl ae<|dF ⟨k+1,(bh g92),c93,rfl,rfl,σ.pick [3,4,5,6,7,8,9,10] [0,1] ai,ae,(by rw [jZ b5]; exact LR hB _)⟩ ay ae
   ·obtain rfl:n0=k:=ae
    refine iF rfl rfl<|lE 7 σ rfl<|?_
    rw [bD (show es0.length<=n0 by omega)] at σ hB
    rw [bD (show (iY i (bu i g) 0 es0).length<=n0 by rw [gj]; omega)] at σ
    rw [wA (show ((iY i (bu i g) 0 es0).map Prod.fst).length=n0 by rw [aZ,gj]; exact a8),wA (show ((iY i (bu i g) 0 es0).map Prod.snd).length=n0 by rw [aZ,gj]; exact a8),wA (Ec i n0)] at σ
    replace σ:=(σ.cl ar 3 1)
    refine fX (fun mz l w=>∃wi:Nat,∃B8:Option Addr,∃d8:Nat,n1 - wi=mz/\l=[(174,ak wi),(6,ak n0),(7,bB gL),(8,.slice (bh W2) g g),(172,.slice A1 n1 c1),(173,ak n1)]/\St w0 w [bk gL #[ak i,ak g,.slice A0 n0 c0,.slice A1 n1 c1,.slice An n0 cn,.slice (bh ga) n0 n0,.slice (bh gb) n0 n0,.slice (bh gs) n0 n0,.slice B8 wi d8,.slice A7 (i+1+n0) c7] 230,aab B8 wi d8 ((iD i g es0 es1).take wi),aab A7 (i+1+n0) c7 (uO (uR (List.replicate (i+1) (-1)) 0 (iY i (bu i g) 0 es0)) n0 ((iD i g es0 es1).take wi)),aab (bh ga) n0 n0 ((iY i (bu i g) 0 es0).map Prod.fst),aab (bh gb) n0 n0 ((iY i (bu i g) 0 es0).map Prod.snd),aab (bh gs) n0 n0 (EK i n0),aab (bh W2) g g (l9 i (bu i g) 0 es0),aal An n0 cn (List.replicate n0 true),bk bJ (u4 i g A0 n0 c0 A1 n1 c1) 28] [bE A1 n1 c1 es1,jM A0 n0 c0 es0]/\wi<=n1) ⟨0,none,0,rfl,rfl,σ.pick [1,0,6,2,3,4,5,7,8] [0,1] ai,(bm _)⟩ ay ?_
    rintro _ _ _ ⟨wi,B8,d8,rfl,rfl,σ,hw⟩
    refine ei rfl<|wD (fun h94=>?_) fun h94=>?_
    ·have hlw:wi<n1:=ae
     obtain ⟨r0,iH⟩:∃e,es1[wi]?=some e:=⟨_,aw ae⟩
     have hr8:=bH.out _ (aB iH)
     obtain ⟨r9,rfl⟩:=dh hr8.1
     obtain ⟨xr,xG⟩:∃x,(l9 i (bu i g) 0 es0)[r9]?=some x:=⟨_,aw (by rw [pN,gK]; omega)⟩
     have Pu:=hB _ (aB xG)
     obtain ⟨vr,rfl⟩:=dh Pu.1
     have EC:(uO (uR (List.replicate (i+1) (-1)) 0 (iY i (bu i g) 0 es0)) n0 ((iD i g es0 es1).take wi)).length=i+1+n0:=by rw [Ss,Jt,jH,gj]; omega
     have AZ:(iD i g es0 es1)[wi]?=some ((vr:Nat):Int):=by unfold iD; rw [bo,iH]; exact aM some (nw xG)
     refine iT rfl rfl<|vE rfl (fun η=>az (i:=wi) η Tryz.underlying26 (aD.size) rfl rfl ae rfl σ.aU.1)<|cE rfl (fun η=>aJ (i:=wi) (j:=0) (e:=((r9:Nat):Int)) η aD rfl rfl bn ai σ.aU.1 ae iH rfl)<|gY [10,13] [0,4,8,12,17,20,24,28,33,38,42,44,48,54] aK σ fun _ σ=>lS 0 rfl<|vE rfl (fun η=>az (i:=r9) η Tryz.underlying26 (aD.size) rfl rfl ae rfl (ax σ.O'))<|sE rfl (fun η hg=>aJ (i:=r9) (j:=0) (e:=((vr:Nat):Int)) η aD rfl rfl bn ai (ax (hg.ow (j:=6) rfl)) ae xG rfl)<|eS rfl<|lr (z:=1) #[ak vr] σ (aD.size) dc rfl aK fun _ g95 σ=>sk (σ.kd 1 0)<|eS rfl<|pT (new:=[((vr:Nat):Int)]) 2 0 σ du rfl (by unfold maxLen; omega) ae fun _ g96 c97 σ=>sz rfl<|?_
     rw [<- take_one AZ] at σ
     refine eS rfl<|j0 1 σ rfl fun _ σ=>sz rfl<|NK [] [0,4,8,13,16,20,24,29,32,36,42] [0,1,2,4,5,6,7,8,9] [0,1] aK σ fun _ σ=>lS 1 rfl<|vE rfl (fun η=>az (i:=r9) η Tryz.underlying26 (aD.size) rfl rfl ae rfl (ax σ.tx))<|sE rfl (fun η hg=>aJ (i:=r9) (j:=0) (e:=((vr:Nat):Int)) η aD rfl rfl bn ai (ax (hg.ow (j:=6) rfl)) ae xG rfl)<|vE rfl (fun η=>az (i:=vr) η Tryz.underlying26 (aD.size) rfl rfl ae rfl (ax σ.tw))<|eS rfl<|qI 3 vr (e1:=((n0:Nat):Int)) bn σ rfl rfl ae (by first | exact EC | (rw [cH]; exact EC)) fun _ σ=>sk (σ.pick [0,1,2,4,5,6,7,8,9] [0,1] ai).kn<|?_
     rw [show (uO (uR (List.replicate (i+1) (-1)) 0 (iY i (bu i g) 0 es0)) n0 ((iD i g es0 es1).take wi)).set vr ((n0:Nat):Int)=uO (uR (List.replicate (i+1) (-1)) 0 (iY i (bu i g) 0 es0)) n0 ((iD i g es0 es1).take (wi+1)) from (W0 AZ).symm] at σ
     exact can (j:=1) rfl ae<|dF ⟨wi+1,(bh g96),c97,rfl,rfl,σ.pick [1,2,3,4,5,6,7,8,9] [0,1] ai,ae⟩ ay ae
    ·obtain rfl:n1=wi:=ae
     refine iF rfl rfl<|o2 Tryz.results141 rfl<|?_
     rw [bD (show (iD i g es0 es1).length<=n1 by unfold iD; rw [aZ]; omega)] at σ
     exact by rw [show fC i g es0 es1=uO (uR (List.replicate (i+1) (-1)) 0 (iY i (bu i g) 0 es0)) n0 (iD i g es0 es1) by unfold fC; rw [a8]]; exact ⟨_,_,_,_,_,_,_,_,_,_,rfl,σ.pick [0,7,3,4,5,1,2] [] ai⟩
def Sx (p:Pk):Prop:=∀x∈p.at_,0<=x/\x<p.free.length
theorem mH (u:List Int) (k:Nat) (p:Pk) (v:Int):(ew u k p v).at_=p.at_/\(ew u k p v).free.length=p.free.length:=by
 unfold ew
 split
 ·exact ⟨rfl,cH⟩
 ·exact ⟨rfl,rfl⟩
theorem AM {u:List Int} {k:Nat} {p:Pk} {v:Int} (h:Sx p):Sx (ew u k p v):=by
 obtain ⟨h1,h2⟩:=mH u k p v
 unfold Sx
 rw [h1,h2]
 exact h
theorem Sy {p:Pk} (h:Sx p):Sx (fq p).2/\(fq p).2.at_=p.at_++[(fq p).1]/\0<=(fq p).1/\((fq p).2.free.length:Int)=max (p.free.length:Int) ((fq p).1+1):=by
 obtain ⟨rn,h1,h2,_,h4,_,h6,_⟩:=xX p
 refine ⟨fun x hx=>?_,by rw [h4,h1],by omega,by rw [h6,h1]; omega⟩
 rw [h4] at hx
 rw [h6]
 rcases b6.1 hx with h7 | h7
 ·have:=h x h7; omega
 ·rw [cC.1 h7]; omega
theorem Zt {i:Nat} {u:List Int} (hi:1<=i):Sx (sC i u):=fun x hx=>by
 rw [uP]
 unfold sC at hx
 dsimp only at hx
 rcases b6.1 hx with h | h
 ·obtain ⟨v,hv,rfl⟩:=ff.1 h
  have:=nZ.1 hv
  split<;>omega
 ·rw [cC.1 h]
  split<;>omega
theorem SA (i:Nat) (u:List Int):(sC i u).at_.length=i+1:=by unfold sC; simp
theorem u9 {u:List Int} {k:Nat} {p:Pk} {es:List IE} {qs:List (Int×Int)} {j:Nat} {e:IE} {q:Int×Int} (he:es[j]?=some e) (hq:qs[j]?=some q):iZ u k p (es.drop j) (qs.drop j)=((iZ u (k+1) (np u k p e q).1 (es.drop (j+1)) (qs.drop (j+1))).1,(np u k p e q).2::(iZ u (k+1) (np u k p e q).1 (es.drop (j+1)) (qs.drop (j+1))).2):=by
 rw [kM he,kM hq,iZ]
theorem CD {u:List Int} {k:Nat} {p:Pk} {es:List IE} {qs:List (Int×Int)} {j:Nat} (h:es.length<=j):iZ u k p (es.drop j) qs=(p,[]):=by
 rw [dM h]
 cases qs<;>rfl
def upF:Nat->Nat->List Nat
 | _,0=>[]
 | n,k+1=>n::upF (n+1) k
def SE (ops:Array Oper):List Nat->Array Bool->Bool
 | [],ls=>(Region.ready .any ops ls).isEmpty
 | j::js,ls=>decide (Region.ready .any ops ls=[j]) && SE ops js (ls.setIfInBounds j true)
def SF (ops ot:Array Oper) (js:List Nat):Nat->Array Bool->Array Bool->Bool
 | 0,ls,lt=>(Region.ready .any ot lt).isEmpty && SE ops js ls
 | k+1,ls,lt=>(decide (Region.ready .any ops ls=Region.ready .any ot lt) && !(Region.ready .any ot lt).isEmpty) && (Region.ready .any ot lt).all fun i=>SF ops ot js k (ls.setIfInBounds i true) (lt.setIfInBounds i true)
section
variable {P:Program} {ro:Option Nat} {m:Nat} {Q:Exit->Act->World->Prop} {K:Act->World->Prop} {S:Nat->World->Prop}
theorem AP {os:List Oper}:∀(rest:List Oper) (n:Nat) (ls:Array Bool) (a:Act) (w:World),os.drop n=rest->SE os.toArray (upF n rest.length) ls=true->wpListIn (WF ro) m P os.toArray Q rest a w->wpAnyIn (WF ro) m P .any os.toArray Q rest.length ls a w
 | [],n,ls,a,w,_,h,hw=>⟨by simpa [upF,SE] using h,hw⟩
 | o::rest,n,ls,a,w,hd,h,hw=>by
  have Kr:os[n]?=some o:=by rw [<- List.head?_drop,hd]; rfl
  have hd2:os.drop (n+1)=rest:=by rw [<- List.tail_drop,hd]; rfl
  rw [dy,upF,SE,fB] at h
  have hr:=bX h.1
  refine ⟨fun h0=>(by rw [hr] at h0; cases h0),fun i hi=>?_⟩
  rw [hr,cC] at hi
  subst hi
  unfold wpListIn at hw
  unfold wpOpIn
  simp only [List.getElem?_toArray,Kr]
  split
  ·rename_i c
   rw [aR c] at hw
   exact Oper.wpIn_mono (fun a' w' h'=>AP rest (i+1) _ a' w' hd2 h.2 h') hw
  ·rename_i c
   rw [aQ c] at hw
   exact ⟨hw.1,AP rest (i+1) _ _ w hd2 h.2 hw.2⟩
theorem CE {os:List Oper} {n:Nat} (hQ:yc Q) (hd:uU os.toArray=true) (hg:(os.take n).all (fun o=>o.guard.isNone)=true) (hK:∀a w,K a w->wpListIn (WF ro) m P os.toArray Q (os.drop n) a w):
  ∀(k:Nat) (ls lt:Array Bool) (a:Act) (w:World),SF os.toArray (os.take n).toArray (upF n (os.drop n).length) k ls lt=true->jU P (os.take n).toArray (Exit.then K Q) S k lt a w->wpAnyIn (WF ro) m P .any os.toArray Q (k+(os.drop n).length) ls a w
 | 0,ls,lt,a,w,h,hs=>by
  rw [SF,fB] at h
  rw [fz]
  exact AP _ n _ _ _ rfl h.2 (hK _ _ hs.2)
 | k+1,ls,lt,a,w,h,hs=>by
  rw [SF,fB,fB] at h
  have hr:=bX h.1.1
  have sQ:=h.1.2
  rw [show k+1+(os.drop n).length=(k+(os.drop n).length)+1 by omega]
  refine ⟨fun h0=>?_,fun i hi=>?_⟩
  ·rw [<- hr,h0] at sQ
   cases sQ
  ·rw [hr] at hi
   have h1:=hs.2 i hi
   obtain ⟨_,o,ho,_⟩:=mem_ready.1 hi
   have MV:(os.take n)[i]?=some o:=by simpa using ho
   have km:i<n:=by
    rcases dr i n with q | q
    ·exact q
    ·rw [dz (by rw [fg]; omega)] at MV; cases MV
   have Hw:os[i]?=some o:=by rw [<- qh km]; exact MV
   have hgn:o.guard=none:=by
    have:=dP.1 hg o (aB MV)
    exact Option.isNone_iff_eq_none.1 this
   unfold wpOp at h1
   simp only [ho] at h1
   rw [aR (by simp [Region.wanted,hgn])] at h1
   unfold wpOpIn
   simp only [List.getElem?_toArray,Hw]
   rw [aR (by simp [Region.wanted,hgn])]
   have h2:o.wp P a w _ (Exit.then K Q):=h1.resolve_right fun ⟨_,a',w',hq⟩=>hQ.og _ _ hq
   have h3:=xQ (ro:=ro) (m:=m) (Gg hd (i:=i) (by simpa using Hw)) h2
   have h5:=dP.1 h.2 i hi
   exact xe (Q':=Q) (Q:=Exit.then K Q) ⟨fun _ _ _ h=>hQ.Uk _ _ _ h,fun _ _ h=>hQ.og _ _ h⟩ (fun a' w' h'=>CE hQ hd hg hK k _ _ a' w' h5 h'.2) h3
end
section
variable {P:Program} {X:Cx P} {w w0:World} {s:List wZ} {l:List (Nat×Value)} {own ps:List PF}
theorem drY {id:Nat} {os:List Oper} (n:Nat) (Z is:List Nat) (J:List (Nat×Value)->World->Prop)
  (e:(v7 (os.take n).toArray Z is (Array.replicate n false),uU os.toArray,(decide (is.length=n) && decide (n<=os.length)),SF os.toArray (os.take n).toArray (upF n (os.drop n).length) n (Array.replicate os.length false) (Array.replicate n false),(os.take n).all (fun o=>o.guard.isNone))=(true,true,true,true,true))
  (hs:St w0 w own ps) (h:∀w',St w0 w' own ps->Mq X w' 999 (.Be own ps Z (os.take n) is (Array.replicate n false)) (.q (KC X J)::s) l) (hb:∀l w,J l w->Mq X w 999 (.list os (os.drop n)) s l):jB X w (.code (.region id ⟨os⟩ true)) s l:=
 ⟨fun a he=>by
  have e1:=aM (·.1) e
  have e2:=aM (·.2.1) e
  have e3:=aM (·.2.2.1) e
  have e4:=aM (·.2.2.2.1) e
  have e5:=aM (·.2.2.2.2) e
  dsimp only at e1 e2 e3 e4 e5
  rw [fB] at e3
  have e6:=bX e3.1
  have e7:=bX e3.2
  refine wpIn_region_any X.mix ?_
  show wpAnyIn (WF X.ro) X.m P .any os.toArray (qD X s) os.length (Array.replicate os.length false) a w.drew
  have hl:os.length=n+(os.drop n).length:=by rw [j6]; omega
  have h1:=CE (ro:=X.ro) (m:=X.m) (K:=KC X J) (kP X s) e2 e5 (fun a w ⟨l',e',hJ⟩=>(ib _ (hb l' w hJ)).go a e') n _ _ a w.drew e4 (by
   have:=(ib _ (h w.drew hs.drew)).go a he e1 fun _=>hs.drew.kn
   rw [e6] at this
   exact this)
  rw [<- hl] at h1
  exact h1⟩
end
theorem size_put (w:World) (b:Nat) (o:Obj):(w.putObj b o).heap.size=w.heap.size:=by unfold World.putObj; simp
def Jz (r:Loop) (D:Nat):PF:=
 ⟨fun w=>AF r D w,fun b=>b=D+1∨b=D,fun h hb=>by rcases hb with rfl | rfl; exact lt_of_block h.1; exact lt_of_block h.2,fun h _ hk=>⟨(hk _ (.inl rfl)).trans h.1,(hk _ (.inr rfl)).trans h.2⟩⟩
section
variable {w0 w w':World} {own ps new:List PF} {o o':PF} {k D b:Nat} {r r':Loop}
theorem St.ac3 (h:St w0 w (Jz r D::own) ps):St w0 (w.putObj (D+1) (.loop r')) (Jz r' D::own) ps:=
 h.mf (k:=0) rfl (kT (h.owns (k:=0) rfl)) (fun _ hb=>.inl hb) rfl rfl rfl (nY (size_put _ _ _).symm) fun _ _ hb=>World.putObj_heap_other (fun e=>hb (.inl e))
theorem St.front (h:St w0 w own ps) (hk:own[k]?=some o):St w0 w (o::own.eraseIdx k) ps:=by
 have hm:∀e∈o::own.eraseIdx k,e∈own:=fun e he=>by
  rcases dW.1 he with rfl | he
  ·exact aB hk
  ·exact vw he
 refine ⟨h.below,fun e he=>h.mine e (hm e he),fun e he=>h.new e (hm e he),qe.2 ⟨fun e he=>?_,h.nd.sublist (yG ..)⟩,h.pers,fun p hp e he=>h.apart p hp e (hm e he)⟩
 obtain ⟨j,hj,EG⟩:=List.mem_eraseIdx_iff_getElem?.1 he
 exact h.one hk EG (qm hj)
theorem St.ahq (h:St w0 w (o::own) ps):St w0 w own ps:=
 ⟨h.below,fun e he=>h.mine e (cO _ he),fun e he=>h.new e (cO _ he),(qe.1 h.nd).2,h.pers,fun p hp e he=>h.apart p hp e (cO _ he)⟩
theorem St.ahr (h:St w0 w (o::own) ps):St w0 w [o] (bP w o::ps):=by
 have h1:St w0 w [o] ps:=⟨h.below,fun e he=>h.mine e (by rw [cC.1 he]; exact bS ..),fun e he=>h.new e (by rw [cC.1 he]; exact bS ..),List.pairwise_singleton ..,h.pers,fun p hp e he=>h.apart p hp e (by rw [cC.1 he]; exact bS ..)⟩
 exact h1.iB _ ⟨aY _,fun _ _ _=>rfl⟩ fun e he b h2 h3=>by
  rw [cC.1 he] at h2
  exact h3.2 h2
theorem St.ahs (h:St w0 w (Jz r D::own) ps):St w0 (w.putObj D (.deferred none)) own ps:=
 (show St w0 (w.putObj D (.deferred none)) (jY::own) ps from h.mf (k:=0) (e':=jY) rfl trivial (fun _ hb=>hb.elim) rfl rfl rfl (nY (size_put _ _ _).symm) fun _ _ hb=>World.putObj_heap_other (fun e=>hb (.inr e))).ahq
theorem St.anb (h:St w0 w own ps) (hk:own[k]?=some o) (h':St w0 w' (o'::new) [bP w o]):St w0 w' (o'::(new++own.eraseIdx k)) ps:=by
 have hr:St w0 w' [] [bP w o]:=⟨h'.below,fun e h=>by simp at h,fun e h=>by simp at h,List.Pairwise.nil,h'.pers,fun p _ e h=>by simp at h⟩
 have h2:=h.rest hk hr
 have hf:∀e∈o'::new,∀b,e.di b->o.di b∨w.heap.size<=b:=fun e he b hb=>by
  have h1:=h'.apart _ (bS ..) e he b hb
  rcases dr b w.heap.size with q | q
  ·exact .inl (qP fun hn=>h1 ⟨q,hn⟩)
  ·exact .inr q
 have hm:∀e∈own.eraseIdx k,(∀b,o.di b->¬e.di b)/\∀b,e.di b->b<w.heap.size:=fun e he=>by
  obtain ⟨j,hj,EG⟩:=List.mem_eraseIdx_iff_getElem?.1 he
  exact ⟨h.one hk EG (qm hj),fun b hb=>e.lt (h.owns EG) hb⟩
 refine ⟨h2.below,fun e he=>?_,fun e he=>?_,?_,h2.pers,fun p hp e he b hb Kj=>?_⟩
 ·rw [<- qj] at he
  rcases b6.1 he with he | he
  ·exact h'.mine e he
  ·exact h2.mine e he
 ·rw [<- qj] at he
  rcases b6.1 he with he | he
  ·exact h'.new e he
  ·exact h2.new e he
 ·rw [<- qj]
  refine List.pairwise_append.2 ⟨h'.nd,h2.nd,fun e he f On b hb Bj=>?_⟩
  rcases hf e he b hb with q | q
  ·exact (hm f On).1 b q Bj
  ·have:=(hm f On).2 b Bj; omega
 ·rw [<- qj] at he
  rcases b6.1 he with he | he
  ·rcases hf e he b hb with q | q
   ·exact h.apart p hp o (aB hk) b q Kj
   ·have:=p.lt (h.pers p hp) Kj; omega
  ·exact h2.apart p hp e he b hb Kj
end
def rsQ (w0:World) (D:Nat) (r:Loop) (R F:PF):Exit->Act->World->Prop
 | .normal,_,Z=>St w0 Z [Jz r D,R] [F]
 | _,_,_=>False
theorem ac4 {w0:World} {D:Nat} {r:Loop} {R F:PF}:yc (rsQ w0 D r R F):=⟨fun _ _ _ h=>h,fun _ _ h=>h⟩
section
variable {P:Program} {T:Gi P} {mix:P.follows .mixedOrders=true} {N m:Nat} {dq:List Deferred} {Q:Exit->Act->World->Prop} {ok:yc Q} {s:List wZ} {l:List (Nat×Value)} {w0 w:World} {own ps:List PF} {α σ:Type}
theorem rgS {z:Operand} {gf k:Nat} {pp:Array Tmp} {lb:Array Value} {assign body:Code} {encs:α->Array Value} {l2:α->List (Nat×Value)} {R:σ->PF} {s0:σ} {V:α->Prop} {G:σ->List PF->Prop}
  (hz:bV l z=some (.func (.func gf) #[] lb)) (eg:∀args w,(callFunc gf args).run P w=.ok (.enter gf args) w) (iI:∀x,(encs x).size=pp.size) (Ki:∀(a:Act) x,aW dq N a l->aW [] N { tmps:=(pp.zip (encs x)).foldl (fun t (p,v)=>t.setIfInBounds p v) a.tmps,defers:=[] } (l2 x))
  (st:σ->α->σ) (nz:St w0 w own ps) (hk:own[k]?=some (R s0))
  (hit:∀(J:σ->PF) (l0:Nat) (w1:World),(∀x s Y,V x->St w0 Y [J s] [bP Y (J s)]->YieldAt (WF none) 7 P l0 (encs x) Y fun e Z=>e=.returned (.bool true)/\St w0 Z [J (st s x)] [bP Y (J s)])->
   St w0 w1 [J s0] (bP w1 (J s0)::ps)->Calls P gf (#[.func (.yield l0) #[] #[]]++lb) w1 fun e Z=>(∃v,e=.returned v)/\∃s' new,G s' new/\St w0 Z (J s'::new) [bP w1 (J s0)])
  (A:α->σ->List PF->List (Nat×Value)->Prop)
  (pZ:∀(i D:Nat) (r:Loop) (F:PF) (x:α) (q:σ) (W:World) (K:Act->World->Prop),V x->St w0 W [Jz r D,R q] [F]->(∀a' l' W' jP,aW [] N a' l'->A x q jP l'->St w0 W' (Jz r D::jP) [F]->K a' W')->Mq ⟨T,mix,some i,7,[],N,noQ,R5⟩ W 999 (.code assign) [.q K] (l2 x))
  (AG:∀(i D:Nat) (r:Loop) (F:PF) (x:α) (q:σ) (jP:List PF) (l':List (Nat×Value)) (W:World),V x->A x q jP l'->St w0 W (Jz r D::jP) [F]->Mq ⟨T,mix,some i,7,[],N,rsQ w0 D r (R (st q x)) F,ac4⟩ W 999 (.code body) [] l')
  (AH:∀(D:Nat) (r:Loop) (s':σ) (new:List PF) (W:World),G s' new->W.heap[D]?=some (.deferred (some []))->St w0 W (Jz r D::R s'::(new++own.eraseIdx k)) ps->Mq ⟨T,mix,none,m,{ target:=.collected D,args:=#[] }::dq,N,Q,ok⟩ W 999 (.fin .normal) s l):
  jB ⟨T,mix,none,m,dq,N,Q,ok⟩ w (.code (.rangeFunc z pp assign body)) s l:=by
 refine ⟨fun a e=>(wpIn_wide (n:=m)).2 ((wpIn_wide (n:=9)).1 (wpIn_rangeFunc fun fn _=>?_))⟩
 obtain ⟨D,hD⟩:∃D,D=w.heap.size:=⟨_,rfl⟩
 obtain ⟨rr,W6⟩:∃rr,rr=fun (q:LoopState)=>CA fn a.tmps pp assign body D q none:=⟨_,rfl⟩
 obtain ⟨X,hX⟩:∃X,X=(w.alloc (.deferred (some []))).alloc (.loop (rr .ready)):=⟨_,rfl⟩
 have hbX:AF (rr .ready) D X:=by
  subst hX W6 hD
  refine ⟨?_,?_⟩
  ·have:=World.alloc_heap_new (w.alloc (.deferred (some []))) (.loop (CA fn a.tmps pp assign body w.heap.size .ready none))
   rwa [World.size_alloc] at this
  ·exact (Below.heap_alloc _ _ _ cT).trans (World.alloc_heap_new w _)
 have R4:Below w.heap.size w X:=hX ▸ (((Below.refl _ w).alloc (aY _) _).alloc cT _)
 have acF:St w0 X (Jz (rr .ready) D::own) ps:=nz.add R4 _ hbX fun b hb=>by
  have Dc:b=D+1∨b=D:=hb
  omega
 -- the two as one
 obtain ⟨J,hJ⟩:∃J:σ->PF,∀q,J q=star [R q,Jz (rr .ready) D]:=⟨_,fun _=>rfl⟩
 have uE:St w0 X (J s0::own.eraseIdx k) ps:=by
  have hpk:=(acF.front (k:=k+1) hk).pack 2
  rw [hJ]
  exact hpk
 have hYD:∀x q Y,V x->St w0 Y [J q] [bP Y (J q)]->YieldAt (WF none) 7 P (D+1) (encs x) Y fun e Z=>e=.returned (.bool true)/\St w0 Z [J (st q x)] [bP Y (J q)]:=fun x q Y hV hY=>by
  have hY1:St w0 Y [Jz (rr .ready) D,R q] [bP Y (J q)]:=by
   have:=hY
   rw [hJ] at this ⊢
   exact this.unpack.front (k:=1) rfl
  have hb:AF (rr .ready) D Y:=hY1.owns (k:=0) rfl
  refine ⟨fn,_,assign,body,(by have:=run_yield (P:=P) hb.1 (args:=encs x) (by rw [W6]; exact iI x); rw [W6] at this; exact this),roundIn_of_wpIn trivial ?_⟩
  have h1:=Ki a x e
  refine (ib _ (pZ (D+1) D (rr .ready) (bP Y (J q)) x q Y _ hV hY1 fun a' l' W' jP e' hA hS=>?_)).go _ h1
  have gx:AF (rr .ready) D W':=hS.owns (k:=0) rfl
  refine ⟨_,run_beginRound gx.1 (by rw [W6]; rfl),?_⟩
  have hS3:St w0 (W'.putObj (D+1) (.loop (rr .busy))) (Jz (rr .busy) D::jP) [bP Y (J q)]:=hS.ac3
  have e3:({ rr .ready with state:=.busy }:Loop)=rr .busy:=by rw [W6]; rfl
  rw [e3]
  refine wpIn_mono ((ib _ (AG (D+1) D (rr .busy) (bP Y (J q)) x q jP l' _ hV hA hS3)).go _ e') ?_
  intro e a3 Z hz
  cases e with
  | normal=>
   have hS4:St w0 Z [Jz (rr .busy) D,R (st q x)] [bP Y (J q)]:=hz
   have nD:AF (rr .busy) D Z:=hS4.owns (k:=0) rfl
   refine ⟨_,_,run_endRound none nD.1,rfl,?_⟩
   have e5:({ rr .busy with state:=if (none:Option Code).isNone then .ready else .done,pending:=none }:Loop)=rr .ready:=by rw [W6]; rfl
   rw [e5]
   have:=((hS4.ac3 (r':=rr .ready)).front (k:=1) rfl).pack 2
   rw [hJ (st q x)]
   exact this
  | ret=>exact hz.elim
  | exit id=>exact hz.elim
  | goto t=>exact hz.elim
  | panic _=>exact hz.elim
  | outgrown=>exact hz.elim
 have VN:a.eval z=.func (.func gf) #[] lb:=e.ev hz
 have hSi:St w0 X [J s0] (bP X (J s0)::ps):=by
  exact uE.ahr
 refine ⟨D+1,[{ target:=.collected D,args:=#[] }],X,{ target:=.fn (.func gf) lb,args:=#[.func (.yield (D+1)) #[] #[]] },X,gf,#[.func (.yield (D+1)) #[] #[]]++lb,X,
  (by subst hX W6 hD; exact run_enterLoop_outer fn a.tmps pp assign body),by simp only [resolve,VN]; simp [go_sem],fun _ _=>trivial,by simp [invoke,go_sem,eg],fun h=>(by cases h),pE (ro:=none) ?_⟩
 refine (hit J (D+1) X hYD hSi).mono fun e2 Z hZ=>?_
 obtain ⟨⟨v,rfl⟩,s',new,hG,hS5⟩:=hZ
 have hS6:=uE.anb (k:=0) rfl hS5
 rw [List.eraseIdx_cons_zero] at hS6
 have hS7:St w0 Z (Jz (rr .ready) D::R s'::(new++own.eraseIdx k)) ps:=by
  rw [hJ] at hS6
  exact hS6.unpack.front (k:=1) rfl
 have hb7:AF (rr .ready) D Z:=hS7.owns (k:=0) rfl
 have h9:=run_endLoop (P:=P) hb7.1 (by rw [W6]; intro h; cases h)
 rw [show (rr .ready).pending=none by rw [W6]; rfl] at h9
 refine ⟨none,_,h9,?_⟩
 have hS8:=hS7.ac3 (r':={ rr .ready with state:=.exhausted,pending:=none })
 have:=(ib _ (AH D _ s' new _ hG (hS8.owns (k:=0) rfl).2 hS8)).go _ (rh e _)
 rw [wz (dq:=dq) (dq':={ target:=.collected D,args:=#[] }::dq) s]
 exact this
end
section
variable {P:Program} {fn:Func} {R:Ending->World->Prop} {T:Gi P} {mix:P.follows .mixedOrders=true} {N:Nat} {w w0:World} {l:List (Nat×Value)} {v:Value}
theorem oMR {D:Nat} {r:Loop} {own ps:List PF} {ok:yc (Uq P fn R)} (nz:St w0 w (Jz r D::own) ps) (h:∀w',St w0 w' own ps->(∀a:Act,aW [{ target:=.collected D,args:=#[] }] N a l->(results fn a.tmps).run P w'=.ok v w')/\R (.returned v) w'):jB ⟨T,mix,none,9,[{ target:=.collected D,args:=#[] }],N,Uq P fn R,ok⟩ w (.fin .ret) [] l:=
 have h1:=h _ nz.ahs
 ⟨fun _ e=>rT e nz.dm.2 (h1.1 _ e) h1.2⟩
end
theorem JC {es:List NE} {xs:List Int} {j:Nat} {A:Option Addr} {c:Nat} {z:Int} (hz:es.map zz=xs) (he:es[j]?=some (A,c,z)):xs.take (j+1)=xs.take j++[z]:=
 take_one (by rw [<- hz,bo,he]; rfl)
theorem qV {z:Int} {k:Nat} (h:z.natAbs<4294967296 ^ 1):zl z<=k+1:=bq (cQ h) ae
theorem Xb {es fs:List NE} {xs:List Int} {j:Nat} {A B:Option Addr} {c d:Nat} {x y:Int} (h:es.map zz=xs) (k:fs.map zz=xs) (he:es[j]?=some (A,c,x)) (hf:fs[j]?=some (B,d,y)):x=y:=by
 have h1:xs[j]?=some x:=by rw [<- h,bo,he]; rfl
 have h2:xs[j]?=some y:=by rw [<- k,bo,hf]; rfl
 rw [h1] at h2
 exact dw h2
theorem Xc {A0:Option Addr} {n0 c0:Nat} {es0:List NE} {xs:List Int} {w0:World} (h0:(ag fN FN 2 A0 n0 c0 es0).P w0) (jF:es0.map zz=xs) (hn:n0<=100000000):
  Calls Tryz.prog 193 #[.slice A0 n0 c0] w0 fun e w'=>∃v,e=.returned v/\qC w0.heap.size w' v n0 (xs.map (- ·))/\Below w0.heap.size w0 w':=by
 subst jF
 refine enter Tryz.func193 rfl Tryz.ntmps193 rfl ?_
 intro a η σ
 have a8:=h0.2.1
 have bW:=bq h0.1.cap h0.1.big
 unfold maxLen at bW
 replace σ:=σ.aE h0
 clear h0
 refine wp_seq (aj ?_)
 refine sv (v:=bA) η rfl (aV η rfl) ?_
 clear η a; intro a η
 refine wpList_nil (aT (wp_seq (aj ?_)))
 refine sv (v:=.slice A0 n0 c0) η rfl (b7 η rfl) ?_
 clear η a; intro a η
 refine au rfl (cV η rfl Tryz.call226 rfl (Fw (E:=jY) (g:=(- ·)) (first:=#[]) (caps:=#[]) σ.aU trivial Tryz.call62 (fun _ _ _ _ _ _ _ hx=>oF cT (OW hx)) hn) ?_)
 rintro e w57 ⟨_,rfl,⟨Zm,Zn,ahH,rfl,hr,anz,SK⟩,hb⟩
 refine ⟨_,rfl,?_⟩
 clear η a; intro a η
 replace σ:=σ.lN hb hr (lh hr.2.1 ⟨aL,trivial⟩)
 clear hr
 clear hb
 refine sv (v:=.slice Zm n0 Zn) η rfl (aV η rfl) ?_
 clear η a; intro a η
 refine wpList_nil (aT (wp_ret ?_))
 refine leave η (dA Tryz.results193 (RV.tmp η rfl)) ?_
 exact ⟨_,rfl,⟨_,_,_,rfl,σ.newRow (k:=0) (j:=0) rfl rfl,anz,SK⟩,σ.below⟩
theorem vc (f:Nat->Int) (a:Nat):∀b,sg f (a+b)=sg f a+sg (fun u=>f (a+u)) b
 | 0=>(uj _).symm
 | b+1=>by rw [<- mc,sg,vc f a b,sg,Int.add_assoc]
theorem yr (F:Nat->Nat->Int) (n:Nat):∀m,sg (fun s=>sg (fun i=>F s i) n) m=sg (fun i=>sg (fun s=>F s i) m) n
 | 0=>(jA fun _ _=>rfl).symm
 | m+1=>by rw [sg,yr F n m,<- C']; rfl
theorem CF {G:Nat->Int} {i K T:Nat} (h:i+K<=T):sg (fun s=>if i<=s/\s<i+K then G s else 0) T=sg (fun j=>G (i+j)) K:=by
 obtain ⟨r,rfl⟩:∃r,T=i+(K+r):=⟨T - i - K,by omega⟩
 rw [vc,jA fun s hs=>aQ ae,Int.zero_add,vc,jA (n:=r) fun u _=>aQ ae,uj]
 exact gJ fun j hj=>aR ae
def sh (a:Nat) (f:Nat->Int) (t:Nat):Int:=if a<=t then f (t - a) else 0
theorem ahL (a b:Nat) (f:Nat->Int) (t:Nat):sh a (sh b f) t=sh (a+b) f t:=by
 unfold sh
 by_cases h:a<=t
 ·rw [aR h]
  by_cases h2:b<=t - a
  ·rw [aR h2,aR ae,Nat.sub_sub]
  ·rw [aQ h2,aQ ae]
 ·rw [aQ h,aQ ae]
theorem Ei {a:Nat} {f g:Nat->Int} (h:∀t,f t=g t) (t:Nat):sh a f t=sh a g t:=by unfold sh; rw [h]
theorem ahM (a:Nat) (F:Nat->Nat->Int) (n t:Nat):sh a (fun c=>sg (fun i=>F i c) n) t=sg (fun i=>sh a (F i) t) n:=by
 unfold sh
 by_cases h:a<=t
 ·rw [aR h]; exact gJ fun i _=>(aR h).symm
 ·rw [aQ h]; exact (jA fun i _=>aQ h).symm
theorem Zz (a:Nat) (f g:Nat->Int) (t:Nat):cv (sh a f) g t=sh a (cv f g) t:=by
 unfold cv
 by_cases h:a<=t
 ·rw [show t+1=a+(t - a+1) by omega,vc,jA fun i hi=>by unfold sh; rw [aQ ae,jI],Int.zero_add,sh,aR h]
  exact gJ fun u hu=>by rw [sh,aR ae,show a+u - a=u by omega,show t - (a+u)=t - a - u by omega]
 ·rw [sh,aQ h]
  exact jA fun i hi=>by rw [sh,aQ ae,jI]
theorem adb (a:Nat) (f g:Nat->Int) (t:Nat):cv f (sh a g) t=sh a (cv f g) t:=by
 rw [sd,Zz]
 exact Ei (fun t=>sd g f t) t
theorem SV (F:Nat->Nat->Int) (g:Nat->Int) (n t:Nat):cv (fun c=>sg (fun i=>F i c) n) g t=sg (fun i=>cv (F i) g t) n:=by
 unfold cv
 rw [<- yr]
 exact gJ fun i _=>(V3 _ _ _).symm
theorem SW (F:Nat->Nat->Int) (f:Nat->Int) (n t:Nat):cv f (fun c=>sg (fun i=>F i c) n) t=sg (fun i=>cv f (F i) t) n:=by
 rw [sd,SV]
 exact gJ fun i _=>sd _ _ _
def ud (xs:List Int) (m k:Nat):List (List Int):=(List.range k).map (gz xs m)
theorem JE {xs:List Int} {m k i:Nat} (h:i<k):(ud xs m k).getD i []=gz xs m i:=by
 rw [ud,aF,bo,fQ h]; rfl
theorem yu (xs:List Int) (m k:Nat):(ud xs m k).length=k:=by rw [ud,aZ,mK]
theorem lx (xs:List Int) (m j:Nat):(gz xs m j).length=m:=by
 rw [gz,aP,fg,jH]
 omega
theorem Ej (xs:List Int) (m j u:Nat):co (gz xs m j) u=if u<m then co xs (j*m+u) else 0:=by
 by_cases h:u<m
 ·rw [aR h,gz]
  unfold co
  rw [aF,aF,s9]
  by_cases h2:u<((xs.drop (j*m)).take m).length
  ·rw [aR h2,yC,aR h,List.getElem?_drop]
  ·rw [aQ h2,iN]
   rw [fg,j6] at h2
   rw [dz (show xs.length<=j*m+u by omega)]
   split<;>rfl
 ·rw [aQ h]
  exact fx (by rw [lx]; omega)
theorem G6 {xs:List Int} {m k:Nat} (hm:1<=m) (hx:xs.length<=k*m) (t:Nat):sg (fun i=>sh (i*m) (co (gz xs m i)) t) k=co xs t:=by
 have hd:=Nat.div_add_mod t m
 have hr:t%m<m:=kx _ ae
 rw [iO] at hd
 have ahN:∀i,i≠t / m->sh (i*m) (co (gz xs m i)) t=0:=fun i hi=>by
  unfold sh
  by_cases h:i*m<=t
  ·rw [aR h,Ej,aQ]
   intro h2
   rcases Nat.lt_or_gt_of_ne hi with q | q
   ·have:=eh m (show i+1<=t / m from q)
    rw [iM] at this
    omega
   ·have:=eh m (show t / m+1<=i from q)
    rw [iM] at this
    omega
  ·rw [aQ h]
 by_cases hk:t / m<k
 ·rw [IW hk fun i _ hi=>ahN i hi]
  unfold sh
  rw [aR ae,Ej,aR ae,show t / m*m+(t - t / m*m)=t by omega]
 ·rw [jA fun i hi=>ahN i ae,fx]
  have:=eh m (show k<=t / m by omega)
  omega
theorem ZA {mw:List (List Int)} {k T t:Nat}:∀{n:Nat},(∀i,i<n->i*k+(mw.getD i []).length<=T)->co (Gd mw k T n) t=sg (fun i=>sh (i*k) (co (mw.getD i [])) t) n
 | 0,_=>by
  show co (List.replicate T 0) t=0
  unfold co
  rw [aF,iN]
  split<;>rfl
 | n+1,h=>by
  rw [Gd,Lo,ZA fun i hi=>h i ae,sg,uT]
  congr 1
  have:=h n ae
  unfold sh
  by_cases h1:n*k<=t
  ·rw [aR h1]
   by_cases h2:t<n*k+(mw.getD n []).length
   ·rw [aR ⟨h1,h2,by omega⟩]
   ·rw [aQ (fun q=>h2 q.2.1),fx ae]
  ·rw [aQ h1,aQ (fun q=>h1 q.1)]
theorem Xj {mw:List (List Int)} {k N n:Nat} {zs:List Int} (h:∀t,sg (fun i=>sh (i*k) (co (mw.getD i [])) t) n=co zs t) (hl:zs.length=N):mx (Gd mw k (Ll mw k N n) n)<=N/\(Gd mw k (Ll mw k N n) n).take N=zs:=by
 have hc:∀t,co (Gd mw k (Ll mw k N n) n) t=co zs t:=fun t=>(ZA fun i hi=>QY mw k N hi).trans (h t)
 refine ⟨(se _ _).2 fun t ht=>by rw [hc,fx ae],DN ?_ fun t=>?_⟩
 ·have:=IQ mw k N n
  rw [fg,uT,hl]
  omega
 ·by_cases ht:t<N
  ·rw [<- hc]
   unfold co
   rw [aF,yC,aR ht,<- aF]
  ·rw [fx (by rw [fg]; omega),fx ae]
def acJ (X:List Int) (yss:List (List Int)) (p:Nat) (l:List (List Int)):Nat->List (List Int)
 | 0=>l
 | j+1=>(acJ X yss p l j).set (p+j) (alg ((acJ X yss p l j).getD (p+j) []) (iy X (yss.getD j [])))
def acI (xss yss:List (List Int)) (K T:Nat):Nat->List (List Int)
 | 0=>List.replicate T []
 | i+1=>acJ (xss.getD i []) yss i (acI xss yss K T i) K
def Zc (k:Nat) (xs:List Int):Prop:=∀i,zl (co xs i)<=k
theorem Zk.zc {k:Nat} {xs:List Int} (h:Zk k xs):Zc k xs:=fun i=>by
 unfold co
 rw [aF]
 cases e:xs[i]? with
 | none=>show zl 0<=k; rw [mo]; omega
 | some x=>exact h x (aB e)
def Wd (t:List UInt8) (z p q:Int):Prop:=(p=0/\q=0/\Rz t z)∨(p=6/\∃b:Nat,q=b/\Rb t b)
def Wr (t:List UInt8) (z b:Int):Prop:=(b=-1/\Rz t z)∨∃c:Nat,b=c/\Rb t c
def auY (zs:List Int):List UInt8:=91::zs.flatMap fun z=>Cb z++[32]
end Go.Proofs.YtgopcdagnicekaaGreatDoor.W
