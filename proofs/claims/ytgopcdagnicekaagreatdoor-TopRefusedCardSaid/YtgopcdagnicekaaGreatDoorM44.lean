/- Package eval: Program and its closures. Printed by pv/gen_u3.py. Of the table math/bits.deBruijn64tab its cells are asked. -/
import Derived.Test.YtgopcdagnicekaaGreatDoorM43
import Derived.Sort.OwnSortedInts
set_option linter.all false
open Go.Proofs.Tryz
set_option maxRecDepth 100000
set_option maxHeartbeats 4000000
namespace Go.Proofs.YtgopcdagnicekaaGreatDoor.W
open Go.RowKit Anv Go.Lib
def Ww (g:Nat) (i r:Int) (A:Option Addr) (n c:Nat) (B:Option Addr) (m d:Nat) (es:List IE):PF:=star [bk g #[aG i,aG r,.slice A n c,.slice B m d] 28,dQ A n c es]
variable {w0 w w1 w' W:World} {ps:List PF} {A B A0 A2 A1:Option Addr} {n c m d i j k r g kk n0 c0 e nI b n2 c2 E c1 n1 k1 k2 s:Nat} {es X T es0:List IE} {os u es1 h at_:List Int} {t o f op tr ra rb cn a v x pa pb a1 a2 b1 b2 nx:Int} {q:Pt} {p:Pk} {ws l:List Pt} {th bs fr:List Bool} {z y:Operand} {a0:Addr} {lb:Array Value} {assign body:Code} {Kp:World->World->Prop} {kn:List (Ky×Int)} {qs:List (Int×Int)}
theorem adH {own:List PF} (h:St w0 w own ps) (hi:own[i]?=some (dQ A n c es)) (hj:own[j]?=some (cI B m d os)) (hn:i≠j):acP w0.heap.size w A n c es B m d os:=by
 refine ⟨⟨h.owns hi,fun _ _=>trivial,fun a ha=>h.new _ (ah hi) _ (by subst ha; rfl)⟩,⟨h.owns hj,fun _ _=>trivial,fun a ha=>h.new _ (ah hj) _ (by subst ha; rfl)⟩,fun a b ha hb e=>?_⟩
 subst ha hb
 exact h.one hi hj hn a.block I (by show (Value.ownBlock _)=_; rw [e]; rfl)
theorem xV {es:List Pt} {e1:List IE} (he:es[j]?=some q) (hi:e1++k7 k t j (es.drop j)=T) (hp:Dm k t ((k+j:Nat):Int) q=X):(e1++X)++k7 k t (j+1) (es.drop (j+1))=T:=by
 obtain ⟨hj,rfl⟩:=aE.1 he
 rw [<- hi,cA hj,k7,hp,aH]
theorem ais (h:k=1):Dm k t o q=[]:=by unfold Dm; rw [au h]
theorem ait {A B:Int} (h:k≠1) (ha:A=0) (hb:B=0):Dm k t o (A,B)=[(4,o,0,0,0)]:=by unfold Dm; rw [ak h,au ⟨ha,hb⟩]
theorem aiu {A B:Int} (h:k≠1) (ha:A=0) (hb:B≠0):Dm k t o (A,B)=ze o 0 B (k - 1):=by unfold Dm; rw [ak h,ak (fun q=>hb q.2),au ha]
theorem aiv {A B:Int} (h:k≠1) (ha:A≠0) (hb:B=0):Dm k t o (A,B)=ze o ((k - 1:Nat):Int) A (k - 1):=by unfold Dm; rw [ak h,ak (fun q=>ha q.1),ak ha,au hb]
theorem anM {A B:Int} (h:k≠1) (ha:A≠0) (hb:B≠0):Dm k t o (A,B)=EG k o t A B ((k - 1:Nat):Int) (k - 1):=by unfold Dm; rw [ak h,ak (fun q=>ha q.1),ak ha,ak hb]
theorem aiw {A B:Int} (h:B=1∨(B=-1/\(k - 1 - j)%2=0)):MF k o t A B f j=yk (sd o f A)++[(3,o,o,(j:Int),0)]:=by unfold MF; rw [au h]
theorem anN {A B:Int} (h:¬(B=1∨(B=-1/\(k - 1 - j)%2=0))) (hb:B=-1):MF k o t A B f j=yk (sd o f A)++[(4,o,o,(j:Int),0)]:=by unfold MF; rw [ak h,au hb]
theorem anO {A B:Int} (h:¬(B=1∨(B=-1/\(k - 1 - j)%2=0))) (hb:B≠-1):MF k o t A B f j=yk (sd o f A)++(ze t (j:Nat) B (k - 1 - j)++[(3,o,o,t,0)]):=by unfold MF; rw [ak h,ak hb]
theorem AE {A B:Int} {e2:List IE} (hi:e2++EG k o t A B f (m+1)=T) (hp:MF k o t A B f m=X):(e2++X)++EG k o t A B o m=T:=by
 rw [<- hi,EG,hp,aH]
theorem aix (h:os=lQ k j) (hk:k=1):(os++[((k+j:Nat):Int)]).set j 0=lQ k (j+1):=by
 subst h
 unfold lQ
 rw [au hk,au hk,List.replicate_succ']
 rw [kg _ _ fW]
 simp
theorem Nd (h:os=lQ k j) (hk:k≠1):os++[((k+j:Nat):Int)]=lQ k (j+1):=by
 subst h
 unfold lQ
 rw [ak hk,ak hk,iw,cD]
 rfl
theorem Yn (k j:Nat):(lQ k j).length=j:=by unfold lQ; split<;>simp
theorem wV {i r:Int} (hS:St w0 w1 [Ww g i r A n c B m d es] [dA w1 (Ww g i r A n c B m d es)]) (hl:es.length=n) (hn:n<=100000):
  Calls prog 83 #[.agg #[aG op,aG tr,aG ra,aG rb,aG cn],cY g] w1 fun e w'=>∃A' c' n',e=.returned (.tuple #[])/\St w0 w' [Ww g i r A' n' c' B m d (es++yk (op,tr,ra,rb,cn))] [dA w1 (Ww g i r A n c B m d es)]/\(es++yk (op,tr,ra,rb,cn)).length=n':=by
 refine gQ func83 I ntmps83 I fun σ=>?_
 replace σ:=hS.unpack
 refine eE I<|ll σ I fun _ de σ=>lE 0 σ I<|lK I<|wN (fun mX=>?_) fun mX=>?_
 ·exact iT I I<|lE 1 σ I<|gE 0 σ I<|eE I<|mi (z:=5) #[aG op,aG tr,aG ra,aG rb,aG cn] σ (aF.size) bm I bI fun _ jh σ=>eE I<|oO (new:=[(op,tr,ra,rb,cn)]) 3 0 σ dK I (by unfold maxLen; omega) ae fun _ jY uL σ=>eE rfl<|mK 2 σ rfl fun _ σ=>Dp results83<|by rw [tn ae]; exact ⟨_,_,_,rfl,(σ.pick [2,3] [0] aB).pack 2,by rw [ai,hl]; rfl⟩
 ·refine lE 0 σ I<|lE 0 σ I<|lK I<|wN (fun wU=>?_) fun wU=>?_
  ·exact iT I I<|lE 1 σ I<|gE 0 σ I<|eE I<|mi (z:=5) #[aG op,aG tr,aG ra,aG rb,aG cn] σ (aF.size) bm I bI fun _ xW σ=>eE I<|oO (new:=[(op,tr,ra,rb,cn)]) 3 0 σ dK I (by unfold maxLen; omega) ae fun _ qt c59 σ=>eE rfl<|mK 2 σ rfl fun _ σ=>Dp results83<|by rw [tn ae]; exact ⟨_,_,_,rfl,(σ.pick [2,3] [0] aB).pack 2,by rw [ai,hl]; rfl⟩
  ·exact iF I I<|Dp results83<|by rw [adx ⟨by omega,by omega⟩,bq]; exact ⟨_,_,_,rfl,(σ.pick [1,2] [0] aB).pack 2,hl⟩
theorem yK {i r:Int} {g7 mm:Nat} (hS:St w0 w1 [Ww g i r A n c B m d es] [dA w1 (Ww g i r A n c B m d es),bk g7 #[.func (.func 83) #[] #[cY g]] 161,oP]) (hl:es.length=n) (hn:n+mm<=100000) (b1:-512<=cn) (b2:cn<=512):
  Calls prog 84 #[aG tr,aG ra,aG cn,aM mm,cY g7] w1 fun e w'=>∃A' c' n',e=.returned (.tuple #[])/\St w0 w' [Ww g i r A' n' c' B m d (es++ze tr ra cn mm)] [dA w1 (Ww g i r A n c B m d es)]/\(es++ze tr ra cn mm).length=n':=by
 refine gQ func84 I ntmps84 I fun σ=>?_
 replace σ:=hS
 refine ks (fun mz l w=>∃j:Nat,∃ra1:Int,∃A1:Option Addr,∃c1:Nat,∃n1:Nat,∃es1:List IE,mm - j=mz/\l=[(1,aG ra1),(10,aM j),(0,aG tr),(2,aG cn),(4,cY g7),(9,aM mm)]/\St w0 w [Ww g i r A1 n1 c1 B m d es1] [dA w1 (Ww g i r A n c B m d es),bk g7 #[.func (.func 83) #[] #[cY g]] 161,oP]/\j<=mm/\es1++ze tr ra1 cn (mm - j)=es++ze tr ra cn mm/\es1.length=n1/\n1+(mm - j)<=100000) ⟨0,ra,A,c,n,es,I,I,σ,(av _),I,hl,hn⟩ aT ?_
 rintro _ _ _ ⟨j,ra1,A1,c1,n1,es1,rfl,rfl,σ,hj,hi,mJ,hb⟩
 refine il I<|wD (fun lC=>?_) fun lC=>?_
 ·refine iT I I<|lj [5] [1,4,8,12,18,22] bI σ fun _ σ=>sE I (fun η hg=>cC η jK I (ou (hg.pt (j:=1) I)) I)<|eS I<|gV call85 (Is σ.fX ae ae) σ I fun _ σ=>sk σ.kn<|eS I<|sH call83 I (wV (σ.cF (k:=0) I []) mJ ae) I ?_
  rintro _ _ ⟨zk,wW,n54,rfl,tp,zO⟩
  refine ⟨_,I,?_⟩
  replace σ:=σ.kL (k:=0) I tp
  have Tv:=Al (sd tr ra1 cn)
  have Cr:(es1++yk (sd tr ra1 cn)).length=n54:=zO
  rw [ai,mJ] at Cr
  exact sz I<|can (j:=1) I ae<|gI ⟨j+1,tr,zk,wW,n54,(es1++yk (sd tr ra1 cn)),I,I,σ,ae,(by rw [<- hi,show mm - j=(mm - (j+1))+1 by omega,aH]; rfl),zO,ae⟩ aT ae
 ·exact iF I I<|Dp results84<|by rw [show es++ze tr ra cn mm=es1 by rw [<- hi,show mm - j=0 by omega]; exact bq _]; exact ⟨_,_,_,rfl,σ.pick [0] [0] aB,mJ⟩
theorem Cs {es0:List Pt} (h0:(jD A0 n0 c0 es0).P w0) (hD:me w0) (zL:1<=kk) (hk8:kk<=8) (hP:Co es0):
  Calls prog 47 #[aM kk,.slice A0 n0 c0] w0 fun e w'=>∃A n c B d,e=.returned (.tuple #[.agg #[aM kk,aM (kk+n0+1),.slice A n c,.slice B n0 d],aG 0])/\acP w0.heap.size w' A n c (k7 kk ((kk+n0:Nat):Int) 0 es0) B n0 d (lQ kk n0)/\(k7 kk ((kk+n0:Nat):Int) 0 es0).length=n/\Below w0.heap.size w0 w':=by
 have hP1:=hP.1
 have hP2:=hP.2.1
 refine gQ func47 I ntmps47 I fun σ=>?_
 replace σ:=σ.nG hD
 have cQ:=h0.2.1
 have lu:=h0.1.cap
 have eN:=h0.1.big
 unfold maxLen at eN
 replace σ:=σ.aY h0
 refine eE I<|iR cM σ I fun _ de σ=>Wu I<|il I<|kB (b':=false) (aC ae)<|sG I<|kB (b':=false) (aC ae)<|eE I<|gV call82 (D4 σ.bW) σ I fun _ σ=>kB (b':=true) (a8 hP)<|iF I I<|can I ae<|can (j:=1) I ae<|vE I (fun η=>eV (c:=#[aM kk,aM ((kk+n0)+1),bM,bM]) jq η I I)<|eE I<|iR cM σ I fun _ eQ σ=>eE I<|fB 0 σ I fun _ σ=>vE I (fun η=>fi (us:=#[]) (vs:=#[cY eQ]) η I I)<|eE I<|iR um σ I fun _ jh σ=>eE I<|mK 0 σ I fun _ σ=>?_
 replace σ:=σ.Md (k:=0) I
 refine can I ae<|vE I (fun η=>fi (us:=#[]) (vs:=#[cY jh]) η I I)<|?_
 replace σ:=(σ.fp dD 3 1)
 replace σ:=(σ.fp dD 116 5)
 refine ks (fun mz l w=>∃j:Nat,∃A1:Option Addr,∃c1:Nat,∃n1:Nat,∃es1:List IE,∃B1:Option Addr,∃d1:Nat,∃Gt:List Int,n0 - j=mz/\l=[(43,aM j),(0,aM kk),(4,cY de),(6,cY eQ),(7,cY jh),(8,aM (kk+n0)),(9,.func (.func 84) #[] #[cY jh]),(41,.slice A0 n0 c0),(42,aM n0)]/\St w0 w [bk de #[aG 0,aG 0,bM,bM] 28,bk eQ #[aM kk,aM ((kk+n0)+1),.slice A1 n1 c1,.slice B1 j d1] 28,dQ A1 n1 c1 es1,cI B1 j d1 Gt] [bk jh #[.func (.func 83) #[] #[cY eQ]] 161,jD A0 n0 c0 es0,oP]/\j<=n0/\es1++k7 kk ((kk+n0:Nat):Int) j (es0.drop j)=k7 kk ((kk+n0:Nat):Int) 0 es0/\Gt=lQ kk j/\es1.length=n1/\n1<=64*j) ⟨0,none,0,0,([]:List IE),none,0,([]:List Int),I,I,σ.pick [3,2,0,1] [0,1,2] aB,(av _),I,(by unfold lQ; split<;>rfl),rfl,aB⟩ aT ?_
 rintro _ _ _ ⟨j,A1,c1,n1,es1,B1,d1,Gt,rfl,rfl,σ,hj,hi,ho,mJ,hb⟩
 refine il I<|wD (fun rP=>?_) fun rP=>?_
 ·have fh:j<n0:=ae
  obtain ⟨⟨pa,pb⟩,eG⟩:∃e,es0[j]?=some e:=⟨_,ag ae⟩
  obtain ⟨⟨b1,b2⟩,b3,b4⟩:=hP.2.2 _ (ah eG)
  dsimp only at b1 b2 b3 b4
  refine iT I I<|vE I (fun η=>aX (i:=j) η underlying22 (aO.size) I I ae I σ.dw.1)<|cE I (fun η=>cX (i:=j) (e:=(pa,pb)) η aO I I iX σ.dw.1 ae eG I)<|eE I<|iR b6 σ I fun _ sf σ=>eE I<|fB 0 σ I fun _ σ=>can I ae<|lE 2 σ I<|eE I<|mi (z:=1) #[aM (kk+j)] σ (bn.size) gY I bI fun _ zo σ=>eE I<|oO (new:=[((kk+j:Nat):Int)]) 5 0 σ iv I (by unfold maxLen; omega) ae fun _ xW KD σ=>eE rfl<|mK 3 σ rfl fun _ σ=>gj rfl<|wQ (fun wX=>?_) fun wX=>?_
  ·exact iT I I<|lE 3 σ I<|vE I (fun η=>aX (i:=j) η underlying26 (bn.size) I I ae I (aZ σ.JW))<|eE I<|uH 5 j (e1:=(0:Int)) di σ I I ae (by rw [ai,ho,Yn]; rfl) fun _ σ=>can (j:=1) rfl ae<|gI ⟨j+1,A1,c1,n1,es1,cS xW,KD,((Gt++[((kk+j:Nat):Int)]).set j (0:Int)),rfl,rfl,σ.pick [2,3,4,5] [0,1,2] aB,ae,(by have:=xV eG hi (ais ae); rwa [bq] at this),(aix ho ae),mJ,ae⟩ aT ae
  ·refine iF I I<|lE 1 σ I<|gj I<|wQ (fun wh=>?_) fun wh=>?_
   ·refine lE 1 σ I<|gj I<|wQ (fun yL=>?_) fun yL=>?_
    ·refine iT I I<|cE I (fun η=>cC η jK I (ou σ.bW) I)<|vE I (fun η=>eV (c:=#[aG 4,aM (kk+j),aG 0,aG 0,aG 0]) dg η I I)<|?_
     replace σ:=(σ.pick [3,4,0,1,2,5] [0,1,2] aB).pack 2
     refine eE I<|sH call83 I (wV (σ.cF (k:=0) I []) mJ ae) I ?_
     rintro _ _ ⟨A62,c63,n64,rfl,Iu,Tw⟩
     refine ⟨_,I,?_⟩
     rw [tn (op:=4) ae] at Iu Tw
     replace σ:=σ.kL (k:=0) I Iu
     have adJ:=Tw
     rw [ai,mJ,bh] at adJ
     replace σ:=σ.unpack
     exact can (j:=1) I ae<|gI ⟨j+1,A62,c63,n64,(es1++[((4:Int),((kk+j:Nat):Int),(0:Int),(0:Int),(0:Int))]),cS xW,KD,(Gt++[((kk+j:Nat):Int)]),I,I,σ.pick [4,0,1,5] [0,1,2] aB,ae,(xV eG hi (ait ae wh yL)),(Nd ho ae),Tw,ae⟩ aT ae
    ·refine iF I I<|lE 1 σ I<|gj I<|kB (b':=true) (eA.2 wh)<|iT I I<|lE 1 σ I<|zN (j:=1) I ae<|?_
     replace σ:=(σ.pick [3,4,0,1,2,5] [0,1,2] aB).pack 2
     refine eE I<|sH call84 I (yK (mm:=kk - 1) (σ.cF (k:=0) I [0,2]) mJ ae ae ae) I ?_
     rintro _ _ ⟨A67,c68,n69,rfl,Tx,Tz⟩
     refine ⟨_,I,?_⟩
     replace σ:=σ.kL (k:=0) I Tx
     have adL:=tf ((kk+j:Nat):Int) pb (kk - 1) (0:Int)
     have adM:(es1++(ze ((kk+j:Nat):Int) (0:Int) pb (kk - 1))).length=n69:=Tz
     rw [ai,mJ] at adM
     replace σ:=σ.unpack
     exact can (j:=1) I ae<|gI ⟨j+1,A67,c68,n69,(es1++(ze ((kk+j:Nat):Int) (0:Int) pb (kk - 1))),cS xW,KD,(Gt++[((kk+j:Nat):Int)]),I,I,σ.pick [4,0,1,5] [0,1,2] aB,ae,(xV eG hi (aiu ae wh yL)),(Nd ho ae),Tz,ae⟩ aT ae
   ·refine iF I I<|lE 1 σ I<|gj I<|kB (b':=false) (du.2 wh)<|iF I I<|lE 1 σ I<|gj I<|wQ (fun Yo=>?_) fun Yo=>?_
    ·refine iT I I<|zN (j:=1) I ae<|lE 1 σ I<|zN (j:=1) I ae<|?_
     replace σ:=(σ.pick [3,4,0,1,2,5] [0,1,2] aB).pack 2
     refine eE I<|sH call84 I (yK (mm:=kk - 1) (σ.cF (k:=0) I [0,2]) mJ ae ae ae) I ?_
     rintro _ _ ⟨A73,c74,n75,rfl,anQ,aiA⟩
     refine ⟨_,I,?_⟩
     replace σ:=σ.kL (k:=0) I anQ
     have anR:=tf ((kk+j:Nat):Int) pa (kk - 1) ((kk - 1:Nat):Int)
     have adO:(es1++(ze ((kk+j:Nat):Int) ((kk - 1:Nat):Int) pa (kk - 1))).length=n75:=aiA
     rw [ai,mJ] at adO
     replace σ:=σ.unpack
     exact can (j:=1) I ae<|gI ⟨j+1,A73,c74,n75,(es1++(ze ((kk+j:Nat):Int) ((kk - 1:Nat):Int) pa (kk - 1))),cS xW,KD,(Gt++[((kk+j:Nat):Int)]),I,I,σ.pick [4,0,1,5] [0,1,2] aB,ae,(xV eG hi (aiv ae wh Yo)),(Nd ho ae),aiA,ae⟩ aT ae
    ·refine iF I I<|zN (j:=1) I ae<|zN (j:=2) I ae<|ks (fun mz l w=>∃m:Nat,∃z:Int,∃fr:Int,∃A2:Option Addr,∃c2:Nat,∃n2:Nat,∃jU:List IE,m=mz/\l=[(13,aG fr),(14,aG z),(0,aM kk),(4,cY de),(6,cY eQ),(7,cY jh),(8,aM (kk+n0)),(9,.func (.func 84) #[] #[cY jh]),(11,cY sf),(12,aM (kk+j)),(41,.slice A0 n0 c0),(42,aM n0),(43,aM j)]/\St w0 w [bk sf #[aG pa,aG pb] 61,bk de #[aG 0,aG 0,bM,bM] 28,cI (cS xW) (j+1) KD (Gt++[((kk+j:Nat):Int)]),bk eQ #[aM kk,aM ((kk+n0)+1),.slice A2 n2 c2,.slice (cS xW) (j+1) KD] 28,dQ A2 n2 c2 jU] [bk jh #[.func (.func 83) #[] #[cY eQ]] 161,jD A0 n0 c0 es0,oP]/\z=((m:Nat):Int) - 1/\m+1<=kk/\jU++EG kk ((kk+j:Nat):Int) ((kk+n0:Nat):Int) pa pb fr m=es1++EG kk ((kk+j:Nat):Int) ((kk+n0:Nat):Int) pa pb ((kk - 1:Nat):Int) (kk - 1)/\jU.length=n2/\n2+9*m<=64*j+63) ⟨(kk - 1),((kk - 2:Nat):Int),((kk - 1:Nat):Int),A1,c1,n1,es1,I,I,σ.pick [1,2,5,3,4] [0,1,2] aB,ae,ae,I,mJ,ae⟩ aT ?_
     rintro _ _ _ ⟨m,z,fr,A2,c2,n2,jU,rfl,rfl,σ,hz,hmk,xi,mr,kY⟩
     refine xo I<|wD (fun h78=>?_) fun h78=>?_
     ·obtain ⟨m2,rfl⟩:∃m2,m=m2+1:=⟨m-1,by omega⟩
      obtain rfl:z=((m2:Nat):Int):=ae
      refine iT I I<|lj [6] [1,4,8,12,17,22,26] bI σ fun _ σ=>sE I (fun η hg=>cC η jK I (ou (hg.pt (j:=0) I)) I)<|lS 0 I<|eS I<|gV call85 (Is σ.fX ae ae) σ I fun _ σ=>sk σ.kn<|?_
      replace σ:=(σ.pick [3,4,0,1,2] [0,1,2] aB).pack 2
      refine eS I<|sH call83 I (wV (σ.cF (k:=0) I []) mr ae) I ?_
      rintro _ _ ⟨A79,c80,n81,rfl,adQ,wY⟩
      refine ⟨_,I,?_⟩
      replace σ:=σ.kL (k:=0) I adQ
      have adR:=Al (sd ((kk+j:Nat):Int) fr pa)
      have KE:(jU++yk (sd ((kk+j:Nat):Int) fr pa)).length=n81:=wY
      rw [ai,mr] at KE
      replace σ:=σ.unpack
      refine sz I<|zN (j:=1) I ae<|zN I ae<|lE 2 σ I<|gj I<|wQ (fun h84=>?_) fun h84=>?_
      ·refine iT I I<|iT I I<|cE I (fun η=>cC η jK I (ou σ.bW) I)<|vE I (fun η=>eV (c:=#[aG 3,aM (kk+j),aM (kk+j),aM m2,aG 0]) dg η I I)<|?_
       replace σ:=σ.pack 2
       refine eE I<|sH call83 I (wV (σ.cF (k:=0) I []) wY ae) I ?_
       rintro _ _ ⟨A85,c86,n87,rfl,Yp,Fi⟩
       refine ⟨_,I,?_⟩
       rw [tn (op:=3) ae] at Yp Fi
       replace σ:=σ.kL (k:=0) I Yp
       have adS:=Fi
       rw [ai,wY,bh] at adS
       replace σ:=σ.unpack
       exact xq I ae<|gI ⟨m2,(((m2:Nat):Int) - (1:Int)),((kk+j:Nat):Int),A85,c86,n87,((jU++yk (sd ((kk+j:Nat):Int) fr pa))++[((3:Int),((kk+j:Nat):Int),((kk+j:Nat):Int),((m2:Nat):Int),(0:Int))]),I,I,σ.pick [2,3,4,0,1] [0,1,2] aB,I,ae,(by have:=AE xi (aiw (.inl h84)); simpa only [aH] using this),Fi,ae⟩ aT ae
      ·refine iF I I<|lE 2 σ I<|gj I<|wQ (fun h90=>?_) fun h90=>?_
       ·refine vE I (fun η=>uu η I I aB (xC ((kk - 1) - m2) 2))<|gj I<|wQ (fun h91=>?_) fun h91=>?_
        ·refine iT I I<|cE I (fun η=>cC η jK I (ou σ.bW) I)<|vE I (fun η=>eV (c:=#[aG 3,aM (kk+j),aM (kk+j),aM m2,aG 0]) dg η I I)<|?_
         replace σ:=σ.pack 2
         refine eE I<|sH call83 I (wV (σ.cF (k:=0) I []) wY ae) I ?_
         rintro _ _ ⟨A92,c93,n94,rfl,aiE,adT⟩
         refine ⟨_,I,?_⟩
         rw [tn (op:=3) ae] at aiE adT
         replace σ:=σ.kL (k:=0) I aiE
         have adU:=adT
         rw [ai,wY,bh] at adU
         replace σ:=σ.unpack
         exact xq I ae<|gI ⟨m2,(((m2:Nat):Int) - (1:Int)),((kk+j:Nat):Int),A92,c93,n94,((jU++yk (sd ((kk+j:Nat):Int) fr pa))++[((3:Int),((kk+j:Nat):Int),((kk+j:Nat):Int),((m2:Nat):Int),(0:Int))]),I,I,σ.pick [2,3,4,0,1] [0,1,2] aB,I,ae,(by have:=AE xi (aiw (.inr ⟨h90,by omega⟩)); simpa only [aH] using this),adT,ae⟩ aT ae
        ·refine iF I I<|lE 2 σ I<|gj I<|kB (b':=true) (eA.2 h90)<|iT I I<|cE I (fun η=>cC η jK I (ou σ.bW) I)<|vE I (fun η=>eV (c:=#[aG 4,aM (kk+j),aM (kk+j),aM m2,aG 0]) dg η I I)<|?_
         replace σ:=σ.pack 2
         refine eE I<|sH call83 I (wV (σ.cF (k:=0) I []) wY ae) I ?_
         rintro _ _ ⟨A97,c98,n99,rfl,Nf,TB⟩
         refine ⟨_,I,?_⟩
         rw [tn (op:=4) ae] at Nf TB
         replace σ:=σ.kL (k:=0) I Nf
         have Yq:=TB
         rw [ai,wY,bh] at Yq
         replace σ:=σ.unpack
         exact xq I ae<|gI ⟨m2,(((m2:Nat):Int) - (1:Int)),((kk+j:Nat):Int),A97,c98,n99,((jU++yk (sd ((kk+j:Nat):Int) fr pa))++[((4:Int),((kk+j:Nat):Int),((kk+j:Nat):Int),((m2:Nat):Int),(0:Int))]),I,I,σ.pick [2,3,4,0,1] [0,1,2] aB,I,ae,(by have:=AE xi (anN (fun q=>ae) h90); simpa only [aH] using this),TB,ae⟩ aT ae
       ·refine iF I I<|lE 2 σ I<|gj I<|kB (b':=false) (du.2 h90)<|iF I I<|lE 2 σ I<|?_
        replace σ:=σ.pack 2
        refine eE I<|sH call84 I (yK (mm:=(kk - 1) - m2) (σ.cF (k:=0) I [0,2]) wY ae ae ae) I ?_
        rintro _ _ ⟨aiF,Pe,n104,rfl,Iv,D5⟩
        refine ⟨_,I,?_⟩
        replace σ:=σ.kL (k:=0) I Iv
        have Yr:=tf ((kk+n0:Nat):Int) pb ((kk - 1) - m2) ((m2:Nat):Int)
        have Fj:((jU++yk (sd ((kk+j:Nat):Int) fr pa))++(ze ((kk+n0:Nat):Int) ((m2:Nat):Int) pb ((kk - 1) - m2))).length=n104:=D5
        rw [ai,wY] at Fj
        replace σ:=σ.unpack
        refine cE I (fun η=>cC η jK I (ou σ.bW) I)<|vE I (fun η=>eV (c:=#[aG 3,aM (kk+j),aM (kk+j),aM (kk+n0),aG 0]) dg η I I)<|?_
        replace σ:=σ.pack 2
        refine eE I<|sH call83 I (wV (σ.cF (k:=0) I []) D5 ae) I ?_
        rintro _ _ ⟨aiG,Ys,n109,rfl,Ng,D6⟩
        refine ⟨_,I,?_⟩
        rw [tn (op:=3) ae] at Ng D6
        replace σ:=σ.kL (k:=0) I Ng
        have Fk:=D6
        rw [ai,D5,bh] at Fk
        replace σ:=σ.unpack
        exact xq I ae<|gI ⟨m2,(((m2:Nat):Int) - (1:Int)),((kk+j:Nat):Int),aiG,Ys,n109,(((jU++yk (sd ((kk+j:Nat):Int) fr pa))++(ze ((kk+n0:Nat):Int) ((m2:Nat):Int) pb ((kk - 1) - m2)))++[((3:Int),((kk+j:Nat):Int),((kk+j:Nat):Int),((kk+n0:Nat):Int),(0:Int))]),I,I,σ.pick [2,3,4,0,1] [0,1,2] aB,I,ae,(by have:=AE xi (anO (fun q=>ae) h90); simpa only [aH] using this),D6,ae⟩ aT ae
     ·obtain rfl:m=0:=ae
      have mf:jU=es1++EG kk ((kk+j:Nat):Int) ((kk+n0:Nat):Int) pa pb ((kk - 1:Nat):Int) (kk - 1):=by rw [<- xi]; exact (bq _).symm
      exact iF I I<|can (j:=1) I ae<|gI ⟨j+1,A2,c2,n2,jU,cS xW,KD,(Gt++[((kk+j:Nat):Int)]),I,I,σ.pick [1,3,4,2] [0,1,2] aB,ae,(by rw [mf]; exact xV eG hi (anM ae wh Yo)),(Nd ho ae),mr,ae⟩ aT ae
 ·obtain rfl:j=n0:=ae
  refine iF I I<|gE 1 σ I<|eE I<|fB 0 σ I fun _ σ=>oR (fun e=>lk results47 (RV.cell e bC I σ.gq I) (RV.tmp e I))<|?_
  have hi9:es1=k7 kk ((kk+j:Nat):Int) 0 es0:=by rw [<- hi,bo ae]; exact (bq _).symm
  exact by rw [<- hi9,<- ho]; exact ⟨_,_,_,_,_,rfl,adH σ (i:=2) (j:=3) rfl rfl aB,mJ,σ.below⟩
def tq (g n:Nat) (A:Option Addr) (nI c:Nat) (B:Option Addr) (m d:Nat) (es:List IE):PF:=star [bk g #[aM n,.slice A nI c,.slice B m d] 264,dQ A nI c es]
theorem anV {c:Int} (h:c=0):lq t a c=[(4,t,a,a,0)]:=by unfold lq; rw [au h]
theorem aiH {c:Int} (h:c=1) (ht:t=a):lq t a c=[]:=by unfold lq; rw [ak ae,au h,au ht]
theorem anW {c:Int} (h:c=1) (ht:t≠a):lq t a c=[(1,t,a,0,0)]:=by unfold lq; rw [ak ae,au h,ak ht]
theorem anX {c:Int} (h:c=-1):lq t a c=[(2,t,a,0,0)]:=by unfold lq; rw [ak ae,ak ae,au h]
theorem anY {c:Int} (h0:c≠0) (h1:c≠1) (h2:c≠-1):lq t a c=[(5,t,a,0,c)]:=by unfold lq; rw [ak h0,ak h1,ak h2]
theorem jH (t a c:Int):(lq t a c).length<=1:=by unfold lq; split; simp; split; split<;>simp; split<;>simp
theorem AF (t c:Int):(xm t c).length<=1:=by unfold xm; split; simp; split<;>simp
theorem Ct (t c:Int):∀(n:Nat) (a k:Int),(Cb t c a k n).length<=n+1
 | 0,a,k=>jH t a k
 | n+1,a,k=>by
  unfold Cb
  split
  ·rw [ai]
   have:=jH t a k
   have:=Ct t c n t c
   omega
  ·have:=Ct t c n a (k*c)
   omega
theorem Iw (t a c:Int) (e:Nat):(xn t a c e).length<=e+1:=by
 unfold xn
 split
 ·have:=jH t a (if c=-1/\e%2=0 then 1 else c)
  omega
 ·exact Ct t c e a 1
theorem anZ {c:Int} (h:(c=0/\0<e)∨c=1∨c=-1) (h2:c=-1/\e%2=0):xn t a c e=lq t a 1:=by unfold xn; rw [au h,au h2]
theorem adV {c:Int} (h:(c=0/\0<e)∨c=1∨c=-1) (h2:¬(c=-1/\e%2=0)):xn t a c e=lq t a c:=by unfold xn; rw [au h,ak h2]
theorem TC {k c:Int} (h1:-512<=k/\k<=512) (h2:-512<=c/\c<=512):-262144<=k*c/\k*c<=262144:=by
 have h3:(k*c).natAbs<=512*512:=by
  rw [dL]
  exact bR ae ae
 omega
theorem qV (hS:St w0 w1 [tq g n A nI c B m d es] [dA w1 (tq g n A nI c B m d es)]) (hl:es.length=nI) (hn:nI<=100000):
  Calls prog 204 #[cY g,aG op,aG tr,aG ra,aG rb,aG cn] w1 fun e w'=>∃A' c' n',e=.returned (.tuple #[])/\St w0 w' [tq g n A' n' c' B m d (es++[(op,tr,ra,rb,cn)])] [dA w1 (tq g n A nI c B m d es)]/\(es++[(op,tr,ra,rb,cn)]).length=n':=by
 refine gQ func204 I ntmps204 I fun σ=>?_
 replace σ:=hS
 replace σ:=σ.unpack
 exact lE 0 σ I<|vE I (fun η=>eV dg η I I)<|eE I<|mi #[aG op,aG tr,aG ra,aG rb,aG cn] σ (aF.size) bm I bI fun _ de σ=>eE I<|oO 2 0 σ dK I (by unfold maxLen; omega) ae fun _ eQ wW σ=>eE rfl<|mK 1 σ rfl fun _ σ=>Dp results204<|⟨_,_,_,rfl,(σ.pick [1,2] [0] aB).pack 2,by rw [ai,hl]; rfl⟩
theorem jC (hS:St w0 w1 [tq g n A nI c B m d es] [dA w1 (tq g n A nI c B m d es)]) (hl:es.length=nI) (hn:nI<=100000):
  Calls prog 177 #[cY g,aG tr,aG ra,aG cn] w1 fun e w'=>∃A' c' n',e=.returned (.tuple #[])/\St w0 w' [tq g n A' n' c' B m d (es++lq tr ra cn)] [dA w1 (tq g n A nI c B m d es)]/\(es++lq tr ra cn).length=n':=by
 refine gQ func177 I ntmps177 I fun σ=>?_
 replace σ:=hS
 refine gj I<|wQ (fun lC=>?_) fun lC=>?_
 ·refine iT I I<|eE I<|fk call204 (qV (σ.cF (k:=0) I []) hl ae) I ?_
  rintro _ _ ⟨zk,wW,n54,rfl,tp,zO⟩
  refine ⟨_,I,?_⟩
  replace σ:=σ.kL (k:=0) I tp
  have Tv:=bh (a:=((4:Int),tr,ra,ra,(0:Int)))
  have Cr:(es++[((4:Int),tr,ra,ra,(0:Int))]).length=n54:=zO
  rw [ai,hl] at Cr
  exact Dp results177<|by rw [anV ae]; exact ⟨_,_,_,rfl,σ,zO⟩
 ·refine iF I I<|gj I<|wQ (fun yM=>?_) fun yM=>?_
  ·refine gj I<|wQ (fun tt=>?_) fun tt=>?_
   ·exact iT I I<|Dp results177<|by rw [aiH ae ae,bq]; exact ⟨_,_,_,rfl,σ,hl⟩
   ·refine iF I I<|gj I<|kB (b':=true) (eA.2 yM)<|iT I I<|eE I<|fk call204 (qV (σ.cF (k:=0) I []) hl ae) I ?_
    rintro _ _ ⟨Qm,JF,n61,rfl,KF,aiI⟩
    refine ⟨_,I,?_⟩
    replace σ:=σ.kL (k:=0) I KF
    have an0:=bh (a:=((1:Int),tr,ra,(0:Int),(0:Int)))
    have adW:(es++[((1:Int),tr,ra,(0:Int),(0:Int))]).length=n61:=aiI
    rw [ai,hl] at adW
    exact Dp results177<|by rw [anW ae ae]; exact ⟨_,_,_,rfl,σ,aiI⟩
  ·refine iF I I<|gj I<|kB (b':=false) (du.2 yM)<|iF I I<|gj I<|wQ (fun JG=>?_) fun JG=>?_
   ·refine iT I I<|eE I<|fk call204 (qV (σ.cF (k:=0) I []) hl ae) I ?_
    rintro _ _ ⟨A65,c66,n67,rfl,Cu,Fl⟩
    refine ⟨_,I,?_⟩
    replace σ:=σ.kL (k:=0) I Cu
    have TD:=bh (a:=((2:Int),tr,ra,(0:Int),(0:Int)))
    have Cv:(es++[((2:Int),tr,ra,(0:Int),(0:Int))]).length=n67:=Fl
    rw [ai,hl] at Cv
    exact Dp results177<|by rw [anX ae]; exact ⟨_,_,_,rfl,σ,Fl⟩
   ·refine iF I I<|eE I<|fk call204 (qV (σ.cF (k:=0) I []) hl ae) I ?_
    rintro _ _ ⟨A70,X7,n72,rfl,Fm,Iy⟩
    refine ⟨_,I,?_⟩
    replace σ:=σ.kL (k:=0) I Fm
    have TF:=bh (a:=((5:Int),tr,ra,(0:Int),cn))
    have Cw:(es++[((5:Int),tr,ra,(0:Int),cn)]).length=n72:=Iy
    rw [ai,hl] at Cw
    exact Dp results177<|by rw [anY ae ae ae]; exact ⟨_,_,_,rfl,σ,Iy⟩
theorem AG (hS:St w0 w1 [tq g n A nI c B m d es] [dA w1 (tq g n A nI c B m d es)]) (hl:es.length=nI) (hn:nI<=100000):
  Calls prog 175 #[cY g,aG tr,aG cn] w1 fun e w'=>∃A' c' n',e=.returned (.tuple #[])/\St w0 w' [tq g n A' n' c' B m d (es++xm tr cn)] [dA w1 (tq g n A nI c B m d es)]/\(es++xm tr cn).length=n':=by
 refine gQ func175 I ntmps175 I fun σ=>?_
 replace σ:=hS
 refine gj I<|wQ (fun lC=>?_) fun lC=>?_
 ·exact iT I I<|Dp results175<|by rw [show xm tr cn=[] by unfold xm; rw [au ae],bq]; exact ⟨_,_,_,rfl,σ,hl⟩
 ·refine iF I I<|gj I<|wQ (fun mX=>?_) fun mX=>?_
  ·refine iT I I<|eE I<|fk call204 (qV (σ.cF (k:=0) I []) hl ae) I ?_
   rintro _ _ ⟨si,rk,n55,rfl,uM,Cy⟩
   refine ⟨_,I,?_⟩
   replace σ:=σ.kL (k:=0) I uM
   have adY:=bh (a:=((2:Int),tr,tr,(0:Int),(0:Int)))
   have KG:(es++[((2:Int),tr,tr,(0:Int),(0:Int))]).length=n55:=Cy
   rw [ai,hl] at KG
   exact Dp results175<|by rw [show xm tr cn=[(2,tr,tr,0,0)] by unfold xm; rw [ak ae,au ae]]; exact ⟨_,_,_,rfl,σ,Cy⟩
  ·refine iF I I<|eE I<|fk call204 (qV (σ.cF (k:=0) I []) hl ae) I ?_
   rintro _ _ ⟨A58,c59,n60,rfl,wZ,Yt⟩
   refine ⟨_,I,?_⟩
   replace σ:=σ.kL (k:=0) I wZ
   have an1:=bh (a:=((6:Int),tr,tr,(0:Int),cn))
   have adZ:(es++[((6:Int),tr,tr,(0:Int),cn)]).length=n60:=Yt
   rw [ai,hl] at adZ
   exact Dp results175<|by rw [show xm tr cn=[(6,tr,tr,0,cn)] by unfold xm; rw [ak ae,ak ae]]; exact ⟨_,_,_,rfl,σ,Yt⟩
theorem Iz {q:Nat} (hS:St w0 w1 [tq g n A nI c B m d es] [dA w1 (tq g n A nI c B m d es)]) (hl:es.length=nI) (hn:nI+q<=99000) (hcn:-512<=cn/\cn<=512):
  Calls prog 206 #[cY g,aG tr,aG ra,aG cn,aM q] w1 fun e w'=>∃A' c' n',e=.returned (.tuple #[])/\St w0 w' [tq g n A' n' c' B m d (es++xn tr ra cn q)] [dA w1 (tq g n A nI c B m d es)]/\(es++xn tr ra cn q).length=n':=by
 refine gQ func206 I ntmps206 I fun σ=>?_
 replace σ:=hS
 refine gj I<|wQ (fun lC=>?_) fun lC=>?_
 ·refine sG I<|wD (fun mX=>?_) fun mX=>?_
  ·refine iT I I<|gj I<|kB (b':=false) (by rw [lC]; rfl)<|iF rfl rfl<|eE rfl<|fk call177 (jC (σ.cF (k:=0) rfl []) hl ae) rfl ?_
   rintro _ _ ⟨si,rk,n55,rfl,uM,Cy⟩
   refine ⟨_,I,?_⟩
   replace σ:=σ.kL (k:=0) I uM
   have adY:=jH tr ra cn
   have KG:(es++lq tr ra cn).length=n55:=Cy
   rw [ai,hl] at KG
   exact o0 results206<|by rw [adV ae ae]; exact ⟨_,_,_,rfl,σ,Cy⟩
  ·refine gj I<|kB (b':=false) (by rw [lC]; rfl)<|gj rfl<|kB (b':=false) (by rw [lC]; rfl)<|iF rfl rfl<|ks (fun mz l w=>∃j:Nat,∃fr:Int,∃k:Int,∃A1:Option Addr,∃c1:Nat,∃n1:Nat,∃es1:List IE,q - j=mz/\l=[(10,aG fr),(11,aG k),(40,aM j),(0,cY g),(1,aG tr),(3,aG cn),(39,aM q)]/\St w0 w [tq g n A1 n1 c1 B m d es1] [dA w1 (tq g n A nI c B m d es)]/\j<=q/\es1++Cb tr cn fr k (q - j)=es++Cb tr cn ra 1 q/\es1.length=n1/\n1+(q - j)<=100000/\(-512<=k/\k<=512)) ⟨0,ra,1,A,c,nI,es,rfl,rfl,σ,(av _),rfl,hl,ae,aB⟩ aT ?_
   rintro _ _ _ ⟨j,fr,k,A1,c1,n1,es1,rfl,rfl,σ,hj,hi,mJ,hb,hk⟩
   have hkc:=TC hk hcn
   refine il I<|wD (fun tt=>?_) fun tt=>?_
   ·refine iT I I<|ym I ae<|sG I<|wD (fun wX=>?_) fun wX=>?_
    ·refine iT I I<|eE I<|fk call177 (jC (σ.cF (k:=0) I []) mJ ae) I ?_
     rintro _ _ ⟨Cz,xv,n62,rfl,Fo,xc⟩
     refine ⟨_,I,?_⟩
     replace σ:=σ.kL (k:=0) I Fo
     have Fp:=jH tr fr k
     have CA:(es1++lq tr fr k).length=n62:=xc
     rw [ai,mJ] at CA
     exact ym I ae<|can (j:=1) I ae<|gI ⟨j+1,tr,(1*cn),Cz,xv,n62,(es1++lq tr fr k),I,I,σ,ae,(by have h9:=hi; rw [show q - j=(q - (j+1))+1 by omega,Cb,au ae] at h9; rw [<- h9,eZ,aH]),xc,ae,ae⟩ aT ae
    ·refine ym I ae<|il I<|wD (fun IA=>?_) fun IA=>?_
     ·refine iT I I<|eE I<|fk call177 (jC (σ.cF (k:=0) I []) mJ ae) I ?_
      rintro _ _ ⟨Yu,TG,n68,rfl,Fq,CB⟩
      refine ⟨_,I,?_⟩
      replace σ:=σ.kL (k:=0) I Fq
      have ad0:=jH tr fr k
      have KH:(es1++lq tr fr k).length=n68:=CB
      rw [ai,mJ] at KH
      exact ym I ae<|can (j:=1) I ae<|gI ⟨j+1,tr,(1*cn),Yu,TG,n68,(es1++lq tr fr k),I,I,σ,ae,(by have h9:=hi; rw [show q - j=(q - (j+1))+1 by omega,Cb,au ae] at h9; rw [<- h9,eZ,aH]),CB,ae,ae⟩ aT ae
     ·exact iF I I<|ym I ae<|can (j:=1) I ae<|gI ⟨j+1,fr,(k*cn),A1,c1,n1,es1,I,I,σ,ae,(by have h9:=hi; rw [show q - j=(q - (j+1))+1 by omega,Cb,ak ae] at h9; exact h9),mJ,ae,ae⟩ aT ae
   ·have h8:=hi
    rw [show q - j=0 by omega] at h8
    refine iF I I<|eE I<|fk call177 (jC (σ.cF (k:=0) I []) mJ ae) I ?_
    rintro _ _ ⟨A71,c72,n73,rfl,ad1,aiJ⟩
    refine ⟨_,I,?_⟩
    replace σ:=σ.kL (k:=0) I ad1
    have an2:=jH tr fr k
    have ad2:(es1++lq tr fr k).length=n73:=aiJ
    rw [ai,mJ] at ad2
    exact Dp results206<|by rw [show xn tr ra cn q=Cb tr cn ra 1 q by unfold xn; rw [ak ae],<- h8]; exact ⟨_,_,_,rfl,σ,aiJ⟩
 ·refine gj I<|wQ (fun h76=>?_) fun h76=>?_
  ·refine iT I I<|gj I<|kB (b':=false) (by rw [h76]; rfl)<|iF rfl rfl<|eE rfl<|fk call177 (jC (σ.cF (k:=0) rfl []) hl ae) rfl ?_
   rintro _ _ ⟨A77,TH,n79,rfl,TI,KI⟩
   refine ⟨_,I,?_⟩
   replace σ:=σ.kL (k:=0) I TI
   have ad3:=jH tr ra cn
   have KK:(es++lq tr ra cn).length=n79:=KI
   rw [ai,hl] at KK
   exact o0 results206<|by rw [adV ae ae]; exact ⟨_,_,_,rfl,σ,KI⟩
  ·refine gj I<|wQ (fun Yv=>?_) fun Yv=>?_
   ·refine iT I I<|gj I<|kB (b':=true) (eA.2 Yv)<|vE I (fun η=>uu η I I aB (xC q 2))<|gj I<|wQ (fun h83=>?_) fun h83=>?_
    ·refine iT I I<|eE I<|fk call177 (jC (σ.cF (k:=0) I []) hl ae) I ?_
     rintro _ _ ⟨A84,c85,n86,rfl,ad4,Pf⟩
     refine ⟨_,I,?_⟩
     replace σ:=σ.kL (k:=0) I ad4
     have ad5:=jH tr ra (1:Int)
     have KL:(es++lq tr ra (1:Int)).length=n86:=Pf
     rw [ai,hl] at KL
     exact o0 results206<|by rw [anZ ae ae]; exact ⟨_,_,_,rfl,σ,Pf⟩
    ·refine iF I I<|eE I<|fk call177 (jC (σ.cF (k:=0) I []) hl ae) I ?_
     rintro _ _ ⟨A89,Yw,Pg,rfl,KM,yN⟩
     refine ⟨_,I,?_⟩
     replace σ:=σ.kL (k:=0) I KM
     have KN:=jH tr ra cn
     have xd:(es++lq tr ra cn).length=Pg:=yN
     rw [ai,hl] at xd
     exact o0 results206<|by rw [adV ae ae]; exact ⟨_,_,_,rfl,σ,yN⟩
   ·refine iF I I<|ks (fun mz l w=>∃j:Nat,∃fr:Int,∃k:Int,∃A1:Option Addr,∃c1:Nat,∃n1:Nat,∃es1:List IE,q - j=mz/\l=[(10,aG fr),(11,aG k),(40,aM j),(0,cY g),(1,aG tr),(3,aG cn),(39,aM q)]/\St w0 w [tq g n A1 n1 c1 B m d es1] [dA w1 (tq g n A nI c B m d es)]/\j<=q/\es1++Cb tr cn fr k (q - j)=es++Cb tr cn ra 1 q/\es1.length=n1/\n1+(q - j)<=100000/\(-512<=k/\k<=512)) ⟨0,ra,1,A,c,nI,es,I,I,σ,(av _),I,hl,ae,aB⟩ aT ?_
    rintro _ _ _ ⟨j,fr,k,A1,c1,n1,es1,rfl,rfl,σ,hj,hi,mJ,hb,hk⟩
    have hkc:=TC hk hcn
    refine il I<|wD (fun h94=>?_) fun h94=>?_
    ·refine iT I I<|ym I ae<|sG I<|wD (fun h95=>?_) fun h95=>?_
     ·refine iT I I<|eE I<|fk call177 (jC (σ.cF (k:=0) I []) mJ ae) I ?_
      rintro _ _ ⟨A96,c97,n98,rfl,aiL,aiM⟩
      refine ⟨_,I,?_⟩
      replace σ:=σ.kL (k:=0) I aiL
      have an6:=jH tr fr k
      have ad7:(es1++lq tr fr k).length=n98:=aiM
      rw [ai,mJ] at ad7
      exact ym I ae<|can (j:=1) I ae<|gI ⟨j+1,tr,(1*cn),A96,c97,n98,(es1++lq tr fr k),I,I,σ,ae,(by have h9:=hi; rw [show q - j=(q - (j+1))+1 by omega,Cb,au ae] at h9; rw [<- h9,eZ,aH]),aiM,ae,ae⟩ aT ae
     ·refine ym I ae<|il I<|wD (fun an7=>?_) fun an7=>?_
      ·refine iT I I<|eE I<|fk call177 (jC (σ.cF (k:=0) I []) mJ ae) I ?_
       rintro _ _ ⟨aiF,Pe,n104,rfl,Iv,D5⟩
       refine ⟨_,I,?_⟩
       replace σ:=σ.kL (k:=0) I Iv
       have Yr:=jH tr fr k
       have Fj:(es1++lq tr fr k).length=n104:=D5
       rw [ai,mJ] at Fj
       exact ym I ae<|can (j:=1) I ae<|gI ⟨j+1,tr,(1*cn),aiF,Pe,n104,(es1++lq tr fr k),I,I,σ,ae,(by have h9:=hi; rw [show q - j=(q - (j+1))+1 by omega,Cb,au ae] at h9; rw [<- h9,eZ,aH]),D5,ae,ae⟩ aT ae
      ·exact iF I I<|ym I ae<|can (j:=1) I ae<|gI ⟨j+1,fr,(k*cn),A1,c1,n1,es1,I,I,σ,ae,(by have h9:=hi; rw [show q - j=(q - (j+1))+1 by omega,Cb,ak ae] at h9; exact h9),mJ,ae,ae⟩ aT ae
    ·have h8:=hi
     rw [show q - j=0 by omega] at h8
     refine iF I I<|eE I<|fk call177 (jC (σ.cF (k:=0) I []) mJ ae) I ?_
     rintro _ _ ⟨aiG,Ys,n109,rfl,Ng,D6⟩
     refine ⟨_,I,?_⟩
     replace σ:=σ.kL (k:=0) I Ng
     have alW:=jH tr fr k
     have Fk:(es1++lq tr fr k).length=n109:=D6
     rw [ai,mJ] at Fk
     exact Dp results206<|by rw [show xn tr ra cn q=Cb tr cn ra 1 q by unfold xn; rw [ak ae],<- h8]; exact ⟨_,_,_,rfl,σ,D6⟩
theorem nj (hg:(bk g #[aM n,.slice A nI c,.slice B m d] 264).P w0) (hb:n+j<=100000):
  Calls prog 178 #[cY g,aM j] w0 fun e w'=>e=.returned (aG (pl n j))/\Below w0.heap.size w0 w':=by
 refine gQ func178 I ntmps178 I fun σ=>?_
 replace σ:=σ.lZ _ hg
 exact cE I (fun η=>cC η bn I (ou σ.bW) I)<|can I ae<|o1 results178 I<|⟨I,σ.below⟩
theorem oH (hg:(bk g #[aM n,.slice A nI c,.slice B m d] 264).P w0) (hb:n+j<=100000):
  Calls prog 209 #[cY g,aM j] w0 fun e w'=>e=.returned (aG (fm n j))/\Below w0.heap.size w0 w':=by
 refine gQ func209 I ntmps209 I fun σ=>?_
 replace σ:=σ.lZ _ hg
 exact cE I (fun η=>cC η bn I (ou σ.bW) I)<|cmn (i:=2) I ae<|can I ae<|o1 results209 I<|⟨I,σ.below⟩
theorem pA (hg:(bk g #[aM n,.slice A nI c,.slice B m d] 264).P w0) (hb:n<=100000):
  Calls prog 207 #[cY g] w0 fun e w'=>e=.returned (aG (pz n))/\Below w0.heap.size w0 w':=by
 refine gQ func207 I ntmps207 I fun σ=>?_
 replace σ:=σ.lZ _ hg
 exact cE I (fun η=>cC η bn I (ou σ.bW) I)<|cmn (i:=3) I ae<|o1 results207 I<|⟨I,σ.below⟩
theorem yO {p:Pt} {k:Int} (h:ws[i]?=some q):DY n p k e i (ws.drop i)=Qi n p q k (i:Nat) e++DY n p k e (i+1) (ws.drop (i+1)):=by
 obtain ⟨hi,rfl⟩:=aE.1 h
 rw [cA hi]
 rfl
theorem Fs {p:Pt} {k i:Int} (h:(bz p).2.1*q.1+(bz p).2.2*q.2≠0∨e=0):Qi n p q k i e=(xn (pz n) k ((bz p).2.1*q.1+(bz p).2.2*q.2) e++[(4,i,i,pz n,0)])++xm i (p.1*q.2 - q.1*p.2):=by unfold Qi; rw [au h]
theorem aa7 {p:Pt} {k i:Int} (h:¬((bz p).2.1*q.1+(bz p).2.2*q.2≠0∨e=0)):Qi n p q k i e=xm i (p.1*q.2 - q.1*p.2):=by unfold Qi; rw [ak h,cJ]
theorem ad8 {c:Int} (h:c=1):xm t c=[]:=by unfold xm; rw [au h]
theorem TJ {p:Pt} (h:MK p):¬(p.1=0/\p.2=0):=fun q=>by have:=h.one; rw [q.1,q.2] at this; omega
theorem TK (h:j<th.length):th[j]?=some (gb th j):=by
 unfold gb
 rw [aj,ag h]
 rfl
def rsM (n:Nat) (u v:Int):Nat->List Bool->List IE×List Bool
 | 0,th=>([],th)
 | j+1,th=>As n u v j th
theorem pP (n:Nat) (u v:Int) (j:Nat) (th:List Bool):rsM n u v (j+1) th=(HJ n u v j th++(rsM n u v j (vu u v j th)).1,(rsM n u v j (vu u v j th)).2):=by
 cases j with
 | zero=>simp [rsM,As]
 | succ j=>rfl
theorem aiN {u:Int} (h1:mF u j th=true) (h2:nV v j th=true):HJ n u v j th=lq (pz n) (fm n (j - 1)) u++(lq (fm n j) (fm n j) v++[(3,fm n j,fm n j,pz n,0)]):=by unfold HJ; rw [h1,h2]; rfl
theorem aiO {u:Int} (h1:mF u j th=true) (h2:nV v j th=false):HJ n u v j th=lq (pz n) (fm n (j - 1)) u++lq (fm n j) (pz n) 1:=by unfold HJ; rw [h1,h2]; rfl
theorem aiP {u:Int} (h1:mF u j th=false) (h2:nV v j th=true):HJ n u v j th=lq (fm n j) (fm n j) v:=by unfold HJ; rw [h1,h2]; rfl
theorem aiQ {u:Int} (h1:mF u j th=false) (h2:nV v j th=false):HJ n u v j th=[]:=by unfold HJ; rw [h1,h2]; rfl
theorem St.an8 {own:List PF} {x p q:PF} {a:Nat} (h:St w0 w own ps) (hi:own[i]?=some x) (ha:own[a]?=some p) (hb:own[b]?=some q) (hia:i≠a) (hib:i≠b) (hr:ps[r]?=some (dA w1 (star [p,q]))):∀c,x.gO c->w1.heap.size<=c:=fun c hx=>by
 rcases aV c w1.heap.size with hc | hc
 ·refine absurd ⟨hc,fun ⟨e,he,hf⟩=>?_⟩ (h.apart _ (ah hr) x (ah hi) c hx)
  rcases bf.1 he with rfl | he
  ·exact h.one hi ha hia c hx hf
  ·rw [aL.1 he] at hf
   exact h.one hi hb hib c hx hf
 ·exact hc
theorem St.an9 {own:List PF} {o o' x:PF} (h:St w0 w own ps) (hk:own[k]?=some o) (h':St w0 w' [o',x] [dA w o]) (hx:∀b,x.gO b->w.heap.size<=b):St w0 w' (x::own.set k o') ps:=by
 have h1:=h.kL hk (h'.pick [0] [0] aB)
 refine ⟨h1.below,fun e he=>?_,fun e he b hb=>?_,dR.2 ⟨fun f hf b qz kY=>?_,h1.nd⟩,h1.pers,fun p hp e he b qz kY=>?_⟩
 ·rcases bf.1 he with rfl | he
  ·exact h'.owns (k:=1) I
  ·exact h1.mine e he
 ·rcases bf.1 he with rfl | he
  ·exact h'.new _ (ah (i:=1) I) b hb
  ·exact h1.new e he b hb
 ·obtain ⟨j,hj⟩:=dO hf
  rw [gy] at hj
  split at hj
  ·split at hj
   ·cases hj
    exact h'.one (k:=1) (j:=0) I I aB b qz kY
   ·cases hj
  ·have:=f.lt (h.owns hj) kY
   have:=hx b qz
   omega
 ·rcases bf.1 he with rfl | he
  ·have:=p.lt (h.pers p hp) kY
   have:=hx b qz
   omega
  ·exact h1.apart p hp e he b qz kY
theorem D7 {u:Int} (h:mF u j th=true):0<j:=by
 unfold mF at h
 simp only [bL] at h
 exact aN h.1.1
def bkM (n:Nat) (A B:Int) (e:Nat):Nat->List IE
 | 0=>[]
 | j+1=>SL n A B e j
theorem CC (n:Nat) (A B:Int) (e j:Nat):bkM n A B e (j+1)=Kk n A B e j++bkM n A B e j:=by
 cases j with
 | zero=>simp [bkM,SL]
 | succ j=>rfl
theorem an' {A B:Int} (h:j=e):Kk n A B e j=lq (pl n j) (pl n (j - 1)) (-B):=by subst h; unfold Kk; rw [au rfl]
theorem aoa {A B:Int} (h:j≠e) (h0:0<j):Kk n A B e j=lq (pz n) (pl n (j - 1)) B++(lq (pl n j) (pl n j) A++[(4,pl n j,pl n j,pz n,0)]):=by unfold Kk; rw [ak h,au h0,au h0,aH]
theorem aob {A B:Int} (h:j≠e) (h0:¬0<j):Kk n A B e j=lq (pl n j) (pl n j) A:=by unfold Kk; rw [ak h,ak h0,ak h0,cJ,bq]
theorem Nh (h:j<th.length):zJ n j (th.drop j)=(if gb th j then [(3,pl n j,pl n j,fm n j,0)] else [])++zJ n (j+1) (th.drop (j+1)):=by
 rw [cA h,zJ]
 congr 2
 unfold gb
 rw [aj,ag h]
 rfl
theorem TL {p:Pt} {k:Int} (he:e<=14):(Cc n p k e).1.length<=1+45*e:=by
 unfold Cc
 dsimp only
 rw [ai]
 have h1:=jH (fm n 0) k 1
 have h2:=Ce n (bz p).2.1 (bz p).2.2 e 1 (Wm e)
 have h3:3*(1+e)*e<=45*e:=bB _ ae
 omega
theorem Yx {q i0:Nat} {ls:List Int} (hS:St w0 w1 [tq g n A nI c B m d es] [dA w1 (tq g n A nI c B m d es),jD B m d ws,fg A2 n2 c2 ls]) (hl:es.length=nI) (hn:nI+(q+4)*n2<=99000) (u9:ws.length=m) (hwn:m=n) (Wx:∀p∈ws,MK p) (uN:∀x,x<n2->ls[x]?=some ((i0+x:Nat):Int)) (hi0:i0+n2=n) (ad9:n<=15) (JH:ws[k]?=some (pa,pb)):
  Calls prog 176 #[cY g,aM k,.slice A2 n2 c2,aM q] w1 fun e w'=>∃A' c' n',e=.returned (.tuple #[])/\St w0 w' [tq g n A' n' c' B m d (es++DY n (pa,pb) ((k:Nat):Int) q i0 (ws.drop i0))] [dA w1 (tq g n A nI c B m d es)]/\(es++DY n (pa,pb) ((k:Nat):Int) q i0 (ws.drop i0)).length=n':=by
 refine gQ func176 I ntmps176 I fun σ=>?_
 replace σ:=hS
 have hkn:k<m:=by have:=(aE.1 JH).1; omega
 have JC:=Wx _ (ah JH)
 replace σ:=σ.unpack
 refine Wu I<|lE 0 σ I<|vE I (fun η=>aX (i:=k) η underlying22 (aO.size) I I ae I σ.dw.1)<|cE I (fun η=>cX (v:=#[aG pa,aG pb]) (i:=k) (e:=(pa,pb)) η aO I I iX σ.dw.1 ae JH I)<|eE I<|iR b6 σ I fun _ de σ=>eE I<|fB 0 σ I fun _ σ=>gE 0 σ I<|eE I<|gV call174 (yJ JC.tQ (TJ JC)) σ I fun _ σ=>ks (fun mz l w=>∃j:Nat,∃A1:Option Addr,∃c1:Nat,∃n1:Nat,∃es1:List IE,n2 - j=mz/\l=[(35,aM j),(0,cY g),(1,aM k),(3,aM q),(8,cY de),(10,aG ((bz (pa,pb)).2.1)),(11,aG ((bz (pa,pb)).2.2)),(33,.slice A2 n2 c2),(34,aM n2)]/\St w0 w [bk g #[aM n,.slice A1 n1 c1,.slice B m d] 264,dQ A1 n1 c1 es1,bk de #[aG pa,aG pb] 61] [dA w1 (tq g n A nI c B m d es),jD B m d ws,fg A2 n2 c2 ls]/\j<=n2/\es1++DY n (pa,pb) ((k:Nat):Int) q (i0+j) (ws.drop (i0+j))=es++DY n (pa,pb) ((k:Nat):Int) q i0 (ws.drop i0)/\es1.length=n1/\n1+(q+4)*(n2 - j)<=99000) ⟨0,A,c,nI,es,I,I,σ.pick [1,2,0] [0,1,2] aB,(av _),I,hl,hn⟩ aT ?_
 rintro _ _ _ ⟨j,A1,c1,n1,es1,rfl,rfl,σ,hj,hi,mJ,hb⟩
 refine il I<|wD (fun mX=>?_) fun mX=>?_
 ·have fh:j<n2:=ae
  have eG:=uN j fh
  obtain ⟨⟨qa,qb⟩,kf⟩:∃e,ws[(i0+j)]?=some e:=⟨_,ag ae⟩
  have hwq:=Wx _ (ah kf)
  obtain ⟨⟨y1,y2⟩,y3,y4⟩:=hwq.tQ
  dsimp only at y1 y2 y3 y4
  have qP:=tg JC.u ⟨y1,y2⟩
  have Qn:=tg JC.v ⟨y3,y4⟩
  have awu:(q+4)*(n2 - j)=(q+4)*(n2 - (j+1))+(q+4):=by rw [show n2 - j=(n2 - (j+1))+1 by omega,fZ]
  refine iT I I<|vE I (fun η=>aX (i:=j) η underlying26 (bn.size) I I ae I σ.fX.1)<|cE I (fun η=>bE (i:=j) (j:=0) (e:=((i0+j:Nat):Int)) η bn I I di aB σ.fX.1 ae eG I)<|lE 0 σ I<|vE I (fun η=>aX (i:=i0+j) η underlying22 (aO.size) I I ae I σ.dw.1)<|cE I (fun η=>cX (v:=#[aG qa,aG qb]) (i:=i0+j) (e:=(qa,qb)) η aO I I iX σ.dw.1 ae kf I)<|eE I<|iR b6 σ I fun _ jh σ=>eE I<|fB 0 σ I fun _ σ=>gE 3 σ I<|gE 0 σ I<|eE I<|gV call205 (adv JC.tQ hwq.tQ) σ I fun _ σ=>lE 0 σ I<|ym I ae<|lE 0 σ I<|ym I ae<|Tg I ae<|lK I<|wN (fun rP=>?_) fun rP=>?_
  ·refine iT I I<|eE I<|gV call207 (pA σ.l8 ae) σ I fun _ σ=>?_
   replace σ:=(σ.pick [1,2,0,3] [0,1,2] aB).pack 2
   refine eE I<|fk call206 (Iz (σ.cF (k:=0) I []) mJ ae ae) I ?_
   rintro _ _ ⟨A55,c56,n57,rfl,CD,Dr⟩
   refine ⟨_,I,?_⟩
   replace σ:=σ.kL (k:=0) I CD
   have ad':=Iw (pz n) ((k:Nat):Int) ((((bz (pa,pb)).2.1)*qa)+(((bz (pa,pb)).2.2)*qb)) q
   have aea:(es1++xn (pz n) ((k:Nat):Int) ((((bz (pa,pb)).2.1)*qa)+(((bz (pa,pb)).2.2)*qb)) q).length=n57:=Dr
   rw [ai,mJ] at aea
   replace σ:=σ.unpack
   refine eE I<|gV call207 (pA σ.jr ae) σ I fun _ σ=>?_
   replace σ:=σ.pack 2
   refine eE I<|fk call204 (qV (σ.cF (k:=0) I []) Dr ae) I ?_
   rintro _ _ ⟨Cz,xv,n62,rfl,Fo,xc⟩
   refine ⟨_,I,?_⟩
   replace σ:=σ.kL (k:=0) I Fo
   have Fp:=bh (a:=((4:Int),((i0+j:Nat):Int),((i0+j:Nat):Int),(pz n),(0:Int)))
   have CA:((es1++xn (pz n) ((k:Nat):Int) ((((bz (pa,pb)).2.1)*qa)+(((bz (pa,pb)).2.2)*qb)) q)++[((4:Int),((i0+j:Nat):Int),((i0+j:Nat):Int),(pz n),(0:Int))]).length=n62:=xc
   rw [ai,Dr] at CA
   replace σ:=σ.unpack
   refine gj I<|wQ (fun IA=>?_) fun IA=>?_
   ·exact iT I I<|can (j:=1) I ae<|gI ⟨j+1,Cz,xv,n62,((es1++xn (pz n) ((k:Nat):Int) ((((bz (pa,pb)).2.1)*qa)+(((bz (pa,pb)).2.2)*qb)) q)++[((4:Int),((i0+j:Nat):Int),((i0+j:Nat):Int),(pz n),(0:Int))]),I,I,σ.pick [0,1,3] [0,1,2] aB,ae,(by have h9:=hi; rw [yO kf,Fs (.inl rP),ad8 IA] at h9; simpa only [aH,cJ,bq,eu] using h9),xc,ae⟩ aT ae
   ·refine iF I I<|?_
    replace σ:=σ.pack 2
    refine eE I<|fk call175 (AG (σ.cF (k:=0) I []) xc ae) I ?_
    rintro _ _ ⟨Yu,TG,n68,rfl,Fq,CB⟩
    refine ⟨_,I,?_⟩
    replace σ:=σ.kL (k:=0) I Fq
    have ad0:=AF ((i0+j:Nat):Int) (pa*qb - qa*pb)
    have KH:(((es1++xn (pz n) ((k:Nat):Int) ((((bz (pa,pb)).2.1)*qa)+(((bz (pa,pb)).2.2)*qb)) q)++[((4:Int),((i0+j:Nat):Int),((i0+j:Nat):Int),(pz n),(0:Int))])++xm ((i0+j:Nat):Int) (pa*qb - qa*pb)).length=n68:=CB
    rw [ai,xc] at KH
    replace σ:=σ.unpack
    exact can (j:=1) I ae<|gI ⟨j+1,Yu,TG,n68,(((es1++xn (pz n) ((k:Nat):Int) ((((bz (pa,pb)).2.1)*qa)+(((bz (pa,pb)).2.2)*qb)) q)++[((4:Int),((i0+j:Nat):Int),((i0+j:Nat):Int),(pz n),(0:Int))])++xm ((i0+j:Nat):Int) (pa*qb - qa*pb)),I,I,σ.pick [0,1,3] [0,1,2] aB,ae,(by have h9:=hi; rw [yO kf,Fs (.inl rP)] at h9; simpa only [aH,cJ,bq,eu] using h9),CB,ae⟩ aT ae
  ·refine gj I<|wQ (fun h71=>?_) fun h71=>?_
   ·refine iT I I<|eE I<|gV call207 (pA σ.l8 ae) σ I fun _ σ=>?_
    replace σ:=(σ.pick [1,2,0,3] [0,1,2] aB).pack 2
    refine eE I<|fk call206 (Iz (σ.cF (k:=0) I []) mJ ae ae) I ?_
    rintro _ _ ⟨Wy,Wz,n74,rfl,TM,aeb⟩
    refine ⟨_,I,?_⟩
    replace σ:=σ.kL (k:=0) I TM
    have aoe:=Iw (pz n) ((k:Nat):Int) ((((bz (pa,pb)).2.1)*qa)+(((bz (pa,pb)).2.2)*qb)) q
    have aec:(es1++xn (pz n) ((k:Nat):Int) ((((bz (pa,pb)).2.1)*qa)+(((bz (pa,pb)).2.2)*qb)) q).length=n74:=aeb
    rw [ai,mJ] at aec
    replace σ:=σ.unpack
    refine eE I<|gV call207 (pA σ.jr ae) σ I fun _ σ=>?_
    replace σ:=σ.pack 2
    refine eE I<|fk call204 (qV (σ.cF (k:=0) I []) aeb ae) I ?_
    rintro _ _ ⟨A77,TH,n79,rfl,TI,KI⟩
    refine ⟨_,I,?_⟩
    replace σ:=σ.kL (k:=0) I TI
    have ad3:=bh (a:=((4:Int),((i0+j:Nat):Int),((i0+j:Nat):Int),(pz n),(0:Int)))
    have KK:((es1++xn (pz n) ((k:Nat):Int) ((((bz (pa,pb)).2.1)*qa)+(((bz (pa,pb)).2.2)*qb)) q)++[((4:Int),((i0+j:Nat):Int),((i0+j:Nat):Int),(pz n),(0:Int))]).length=n79:=KI
    rw [ai,aeb] at KK
    replace σ:=σ.unpack
    refine gj I<|wQ (fun Yv=>?_) fun Yv=>?_
    ·exact iT I I<|can (j:=1) I ae<|gI ⟨j+1,A77,TH,n79,((es1++xn (pz n) ((k:Nat):Int) ((((bz (pa,pb)).2.1)*qa)+(((bz (pa,pb)).2.2)*qb)) q)++[((4:Int),((i0+j:Nat):Int),((i0+j:Nat):Int),(pz n),(0:Int))]),I,I,σ.pick [0,1,3] [0,1,2] aB,ae,(by have h9:=hi; rw [yO kf,Fs (.inr ae),ad8 Yv] at h9; simpa only [aH,cJ,bq,eu] using h9),KI,ae⟩ aT ae
    ·refine iF I I<|?_
     replace σ:=σ.pack 2
     refine eE I<|fk call175 (AG (σ.cF (k:=0) I []) KI ae) I ?_
     rintro _ _ ⟨A83,c84,n85,rfl,TN,aiR⟩
     refine ⟨_,I,?_⟩
     replace σ:=σ.kL (k:=0) I TN
     have aof:=AF ((i0+j:Nat):Int) (pa*qb - qa*pb)
     have aed:(((es1++xn (pz n) ((k:Nat):Int) ((((bz (pa,pb)).2.1)*qa)+(((bz (pa,pb)).2.2)*qb)) q)++[((4:Int),((i0+j:Nat):Int),((i0+j:Nat):Int),(pz n),(0:Int))])++xm ((i0+j:Nat):Int) (pa*qb - qa*pb)).length=n85:=aiR
     rw [ai,KI] at aed
     replace σ:=σ.unpack
     exact can (j:=1) I ae<|gI ⟨j+1,A83,c84,n85,(((es1++xn (pz n) ((k:Nat):Int) ((((bz (pa,pb)).2.1)*qa)+(((bz (pa,pb)).2.2)*qb)) q)++[((4:Int),((i0+j:Nat):Int),((i0+j:Nat):Int),(pz n),(0:Int))])++xm ((i0+j:Nat):Int) (pa*qb - qa*pb)),I,I,σ.pick [0,1,3] [0,1,2] aB,ae,(by have h9:=hi; rw [yO kf,Fs (.inr ae)] at h9; simpa only [aH,cJ,bq,eu] using h9),aiR,ae⟩ aT ae
   ·refine iF I I<|gj I<|wQ (fun h88=>?_) fun h88=>?_
    ·exact iT I I<|can (j:=1) I ae<|gI ⟨j+1,A1,c1,n1,es1,I,I,σ.pick [1,2,3] [0,1,2] aB,ae,(by have h9:=hi; rw [yO kf,aa7 (fun q9=>q9.elim (fun x=>x rP) fun x=>ae),ad8 h88] at h9; simpa only [aH,cJ,bq,eu] using h9),mJ,ae⟩ aT ae
    ·refine iF I I<|?_
     replace σ:=(σ.pick [1,2,0,3] [0,1,2] aB).pack 2
     refine eE I<|fk call175 (AG (σ.cF (k:=0) I []) mJ ae) I ?_
     rintro _ _ ⟨A89,Yw,Pg,rfl,KM,yN⟩
     refine ⟨_,I,?_⟩
     replace σ:=σ.kL (k:=0) I KM
     have KN:=AF ((i0+j:Nat):Int) (pa*qb - qa*pb)
     have xd:(es1++xm ((i0+j:Nat):Int) (pa*qb - qa*pb)).length=Pg:=yN
     rw [ai,mJ] at xd
     replace σ:=σ.unpack
     exact can (j:=1) I ae<|gI ⟨j+1,A89,Yw,Pg,(es1++xm ((i0+j:Nat):Int) (pa*qb - qa*pb)),I,I,σ.pick [0,1,3] [0,1,2] aB,ae,(by have h9:=hi; rw [yO kf,aa7 (fun q9=>q9.elim (fun x=>x rP) fun x=>ae)] at h9; simpa only [aH,cJ,bq,eu] using h9),yN,ae⟩ aT ae
 ·obtain rfl:j=n2:=ae
  refine iF I I<|Dp results176<|?_
  have h9:=hi
  rw [bo ae] at h9
  exact by rw [<- h9,show DY n (pa,pb) ((k:Nat):Int) q (i0+j) []=[] from rfl,bq]; exact ⟨_,_,_,rfl,(σ.pick [0,1] [0] aB).pack 2,mJ⟩
theorem Pj {q:Nat} (hS:St w0 w1 [tq g n A nI c B m d es] [dA w1 (tq g n A nI c B m d es),jD B m d ws]) (hl:es.length=nI) (hn:nI+45*q+46<=99000) (u9:ws.length=m) (hwn:m=n) (Wx:∀p∈ws,MK p) (aee:q<=14) (ad9:n<=15) (JH:ws[k]?=some (pa,pb)):
  Calls prog 208 #[cY g,aM k,aM q] w1 fun e w'=>∃A' c' n' gD,e=.returned (.slice (cS gD) (q+1) (q+1))/\St w0 w' [tq g n A' n' c' B m d (es++(Cc n (pa,pb) ((k:Nat):Int) q).1),fc dD 4 1 (cS gD) (q+1) (q+1) (fl fO (Cc n (pa,pb) ((k:Nat):Int) q).2)] [dA w1 (tq g n A nI c B m d es)]/\(es++(Cc n (pa,pb) ((k:Nat):Int) q).1).length=n'/\w1.heap.size<=gD:=by
 refine gQ func208 I ntmps208 I fun σ=>?_
 replace σ:=hS
 have hkn:k<m:=by have:=(aE.1 JH).1; omega
 have JC:=Wx _ (ah JH)
 replace σ:=σ.unpack
 refine lE 0 σ I<|vE I (fun η=>aX (i:=k) η underlying22 (aO.size) I I ae I σ.dw.1)<|cE I (fun η=>cX (v:=#[aG pa,aG pb]) (i:=k) (e:=(pa,pb)) η aO I I iX σ.dw.1 ae JH I)<|eE I<|gV call174 (yJ JC.tQ (TJ JC)) σ I fun _ σ=>can (j:=1) I ae<|eE I<|Cn fO false dD σ qQ I ae (by unfold maxLen; omega) fun _ de σ=>?_
 have hgD:=σ.an8 (i:=0) (a:=1) (b:=2) (r:=0) rfl rfl rfl aB aB rfl de rfl
 refine vE I (fun η=>aX (i:=0) η underlying219 (eD.size) I I ae I (aZ σ.jr))<|eE I<|uH 0 0 (e1:=true) kH σ I I ae fW fun _ σ=>eE I<|gV call209 (oH (j:=0) σ.l8 ae) σ I fun _ σ=>?_
 replace σ:=(σ.pick [1,2,0] [0,1] aB).pack 2
 refine eE I<|fk call177 (jC (σ.cF (k:=0) I []) hl ae) I ?_
 rintro _ _ ⟨zk,wW,n54,rfl,tp,zO⟩
 refine ⟨_,I,?_⟩
 replace σ:=σ.kL (k:=0) I tp
 have Tv:=jH (fm n 0) ((k:Nat):Int) (1:Int)
 have Cr:(es++lq (fm n 0) ((k:Nat):Int) (1:Int)).length=n54:=zO
 rw [ai,hl] at Cr
 replace σ:=σ.unpack
 refine ks (fun mz l w=>∃dd:Nat,∃mm:Nat,∃Qo:List Bool,∃A1:Option Addr,∃c1:Nat,∃n1:Nat,∃es1:List IE,mm=mz/\l=[(12,aM dd),(0,cY g),(2,aM q),(8,aG ((bz (pa,pb)).2.1)),(9,aG ((bz (pa,pb)).2.2)),(11,.slice (cS de) (q+1) (q+1))]/\St w0 w [bk g #[aM n,.slice A1 n1 c1,.slice B m d] 264,dQ A1 n1 c1 es1,kX (cS de) (q+1) (q+1) Qo] [dA w1 (tq g n A nI c B m d es),jD B m d ws]/\dd+mm=q+1/\es1++(Kl n (bz (pa,pb)).2.1 (bz (pa,pb)).2.2 dd mm Qo).1=es++(Cc n (pa,pb) ((k:Nat):Int) q).1/\(Kl n (bz (pa,pb)).2.1 (bz (pa,pb)).2.2 dd mm Qo).2=(Cc n (pa,pb) ((k:Nat):Int) q).2/\es1.length=n1/\Qo.length=q+1/\n1+45*mm<=99000) ⟨1,q,((List.replicate (q+1) false).set 0 true),zk,wW,n54,(es++lq (fm n 0) ((k:Nat):Int) (1:Int)),I,I,σ,ae,(by rw [aH]; rfl),rfl,zO,fW,ae⟩ aT ?_
 rintro _ _ _ ⟨dd,mm,Qo,A1,c1,n1,es1,rfl,rfl,σ,hd,Jw,xi,mJ,aog,hb⟩
 refine Dn I<|wD (fun yM=>?_) fun yM=>?_
 ·obtain ⟨m9,rfl⟩:∃m9,mm=m9+1:=⟨mm-1,by omega⟩
  refine iT I I<|ks (fun mz l w=>∃mj:Nat,∃z:Int,∃vS:List Bool,∃A2:Option Addr,∃c2:Nat,∃n2:Nat,∃jU:List IE,mj=mz/\l=[(13,aG z),(0,cY g),(2,aM q),(8,aG ((bz (pa,pb)).2.1)),(9,aG ((bz (pa,pb)).2.2)),(11,.slice (cS de) (q+1) (q+1)),(12,aM dd)]/\St w0 w [bk g #[aM n,.slice A2 n2 c2,.slice B m d] 264,dQ A2 n2 c2 jU,kX (cS de) (q+1) (q+1) vS] [dA w1 (tq g n A nI c B m d es),jD B m d ws]/\z=((mj:Nat):Int) - 1/\mj<=dd+1/\jU++(rsM n (bz (pa,pb)).2.1 (bz (pa,pb)).2.2 mj vS).1=es1++(As n (bz (pa,pb)).2.1 (bz (pa,pb)).2.2 dd Qo).1/\(rsM n (bz (pa,pb)).2.1 (bz (pa,pb)).2.2 mj vS).2=(As n (bz (pa,pb)).2.1 (bz (pa,pb)).2.2 dd Qo).2/\jU.length=n2/\vS.length=q+1/\n2+3*mj+45*m9<=99000) ⟨(dd+1),((dd:Nat):Int),Qo,A1,c1,n1,es1,I,I,σ,ae,(ar _),I,I,mJ,aog,ae⟩ aT ?_
  rintro _ _ _ ⟨mj,z,vS,A2,c2,n2,jU,rfl,rfl,σ,hz,hm,Be,QH,mr,Ft,kY⟩
  refine xo I<|wD (fun tt=>?_) fun tt=>?_
  ·obtain ⟨j2,rfl⟩:∃j2,mj=j2+1:=⟨mj-1,by omega⟩
   obtain rfl:z=((j2:Nat):Int):=ae
   refine iT I I<|Wt 0 (fun l w=>∃lo:Bool,l=[(14,.bool lo),(0,cY g),(2,aM q),(8,aG ((bz (pa,pb)).2.1)),(9,aG ((bz (pa,pb)).2.2)),(11,.slice (cS de) (q+1) (q+1)),(12,aM dd),(13,aM j2)]/\St w0 w [bk g #[aM n,.slice A2 n2 c2,.slice B m d] 264,dQ A2 n2 c2 jU,kX (cS de) (q+1) (q+1) vS] [dA w1 (tq g n A nI c B m d es),jD B m d ws]/\mF (bz (pa,pb)).2.1 j2 vS=lo) I ?_ ?_
   ·refine sG I<|wD (fun wX=>?_) fun wX=>?_
    ·refine zN (j:=1) I ae<|vE I (fun η=>aX (i:=j2 - 1) η underlying219 (eD.size) I I ae I (aZ σ.pI))<|cE I (fun η=>bE (i:=j2 - 1) (j:=0) (e:=(gb vS (j2 - 1))) η eD I I kH aB (aZ σ.pI) ae (TK ae) I)<|wB (fun wh=>?_) fun wh=>?_
     ·refine lK I<|wN (fun yL=>?_) fun yL=>?_
      ·exact xu ⟨true,I,σ,(by unfold mF; rw [a8 (show 0<j2 by omega),wh,a8 yL]; rfl)⟩ aT
      ·exact xu ⟨false,I,σ,(by unfold mF; rw [aC (show ¬(bz (pa,pb)).2.1≠0 from fun x=>x yL),Bool.and_false])⟩ aT
     ·exact xu ⟨false,I,σ,(by unfold mF; rw [wh,Bool.and_false]; rfl)⟩ aT
    ·exact xu ⟨false,I,σ,(by unfold mF; rw [aC (show ¬0<j2 by omega)]; rfl)⟩ aT
   rintro _ _ ⟨lo,rfl,σ,C5⟩
   refine Wt 0 (fun l w=>∃ow:Bool,l=[(15,.bool ow),(0,cY g),(2,aM q),(8,aG ((bz (pa,pb)).2.1)),(9,aG ((bz (pa,pb)).2.2)),(11,.slice (cS de) (q+1) (q+1)),(12,aM dd),(13,aM j2),(14,.bool lo)]/\St w0 w [bk g #[aM n,.slice A2 n2 c2,.slice B m d] 264,dQ A2 n2 c2 jU,kX (cS de) (q+1) (q+1) vS] [dA w1 (tq g n A nI c B m d es),jD B m d ws]/\nV (bz (pa,pb)).2.2 j2 vS=ow) I ?_ ?_
   ·refine vE I (fun η=>aX (i:=j2) η underlying219 (eD.size) I I ae I (aZ σ.pI))<|cE I (fun η=>bE (i:=j2) (j:=0) (e:=(gb vS j2)) η eD I I kH aB (aZ σ.pI) ae (TK ae) I)<|wB (fun KO=>?_) fun KO=>?_
    ·refine lK I<|wN (fun Eu=>?_) fun Eu=>?_
     ·exact xu ⟨true,I,σ,(by unfold nV; rw [KO,a8 Eu]; rfl)⟩ aT
     ·exact xu ⟨false,I,σ,(by unfold nV; rw [aC (show ¬(bz (pa,pb)).2.2≠0 from fun x=>x Eu),Bool.and_false])⟩ aT
    ·exact xu ⟨false,I,σ,(by unfold nV; rw [KO]; rfl)⟩ aT
   rintro _ _ ⟨ow,rfl,σ,how⟩
   cases lo<;>cases ow
   ·exact iF I I<|iF I I<|iF I I<|iF I I<|vE I (fun η=>aX (i:=j2) η underlying219 (eD.size) I I ae I (aZ σ.pI))<|eE I<|uH 2 j2 (e1:=false) kH σ I I ae Ft fun _ σ=>xq I ae<|gI ⟨j2,(((j2:Nat):Int) - (1:Int)),(vS.set j2 false),A2,c2,n2,jU,I,I,σ,I,ae,(by have h9:=Be; rw [pP,aiQ C5 how] at h9; rw [show (vS.set j2 false)=vu (bz (pa,pb)).2.1 (bz (pa,pb)).2.2 j2 vS by unfold vu; rw [C5,how]; rfl]; simpa only [aH,cJ,bq] using h9),(by have h9:=QH; rw [pP] at h9; rw [show (vS.set j2 false)=vu (bz (pa,pb)).2.1 (bz (pa,pb)).2.2 j2 vS by unfold vu; rw [C5,how]; rfl]; exact h9),mr,(by rw [aP]; exact Ft),ae⟩ aT ae
   ·refine iF I I<|iF I I<|iT I I<|eE I<|gV call209 (oH (j:=j2) σ.jr ae) σ I fun _ σ=>eE I<|gV call209 (oH (j:=j2) σ.jr ae) σ I fun _ σ=>?_
    replace σ:=σ.pack 2
    refine eE I<|fk call177 (jC (σ.cF (k:=0) I []) mr ae) I ?_
    rintro _ _ ⟨A64,TO,n66,rfl,aef,aiS⟩
    refine ⟨_,I,?_⟩
    replace σ:=σ.kL (k:=0) I aef
    have aoi:=jH (fm n j2) (fm n j2) ((bz (pa,pb)).2.2)
    have aeg:(jU++lq (fm n j2) (fm n j2) ((bz (pa,pb)).2.2)).length=n66:=aiS
    rw [ai,mr] at aeg
    replace σ:=σ.unpack
    exact vE I (fun η=>aX (i:=j2) η underlying219 (eD.size) I I ae I (aZ σ.pI))<|eE I<|uH 2 j2 (e1:=true) kH σ I I ae Ft fun _ σ=>xq I ae<|gI ⟨j2,(((j2:Nat):Int) - (1:Int)),(vS.set j2 true),A64,TO,n66,(jU++lq (fm n j2) (fm n j2) ((bz (pa,pb)).2.2)),I,I,σ,I,ae,(by have h9:=Be; rw [pP,aiP C5 how] at h9; rw [show (vS.set j2 true)=vu (bz (pa,pb)).2.1 (bz (pa,pb)).2.2 j2 vS by unfold vu; rw [C5,how]; rfl]; simpa only [aH,cJ,bq] using h9),(by have h9:=QH; rw [pP] at h9; rw [show (vS.set j2 true)=vu (bz (pa,pb)).2.1 (bz (pa,pb)).2.2 j2 vS by unfold vu; rw [C5,how]; rfl]; exact h9),aiS,(by rw [aP]; exact Ft),ae⟩ aT ae
   ·have hj0:=D7 C5
    refine iT I I<|eE I<|gV call207 (pA σ.jr ae) σ I fun _ σ=>zN (j:=1) I ae<|eE I<|gV call209 (oH (j:=j2 - 1) σ.jr ae) σ I fun _ σ=>?_
    replace σ:=σ.pack 2
    refine eE I<|fk call177 (jC (σ.cF (k:=0) I []) mr ae) I ?_
    rintro _ _ ⟨A69,c70,n71,rfl,aeh,TP⟩
    refine ⟨_,I,?_⟩
    replace σ:=σ.kL (k:=0) I aeh
    have aoj:=jH (pz n) (fm n (j2 - 1)) ((bz (pa,pb)).2.1)
    have aei:(jU++lq (pz n) (fm n (j2 - 1)) ((bz (pa,pb)).2.1)).length=n71:=TP
    rw [ai,mr] at aei
    replace σ:=σ.unpack
    refine iF I I<|iF I I<|iT I I<|eE I<|gV call209 (oH (j:=j2) σ.jr ae) σ I fun _ σ=>eE I<|gV call207 (pA σ.jr ae) σ I fun _ σ=>?_
    replace σ:=σ.pack 2
    refine eE I<|fk call177 (jC (σ.cF (k:=0) I []) TP ae) I ?_
    rintro _ _ ⟨A74,c75,n76,rfl,KP,aiU⟩
    refine ⟨_,I,?_⟩
    replace σ:=σ.kL (k:=0) I KP
    have aol:=jH (fm n j2) (pz n) (1:Int)
    have aej:((jU++lq (pz n) (fm n (j2 - 1)) ((bz (pa,pb)).2.1))++lq (fm n j2) (pz n) (1:Int)).length=n76:=aiU
    rw [ai,TP] at aej
    replace σ:=σ.unpack
    exact vE I (fun η=>aX (i:=j2) η underlying219 (eD.size) I I ae I (aZ σ.pI))<|eE I<|uH 2 j2 (e1:=true) kH σ I I ae Ft fun _ σ=>xq I ae<|gI ⟨j2,(((j2:Nat):Int) - (1:Int)),(vS.set j2 true),A74,c75,n76,((jU++lq (pz n) (fm n (j2 - 1)) ((bz (pa,pb)).2.1))++lq (fm n j2) (pz n) (1:Int)),I,I,σ,I,ae,(by have h9:=Be; rw [pP,aiO C5 how] at h9; rw [show (vS.set j2 true)=vu (bz (pa,pb)).2.1 (bz (pa,pb)).2.2 j2 vS by unfold vu; rw [C5,how]; rfl]; simpa only [aH,cJ,bq] using h9),(by have h9:=QH; rw [pP] at h9; rw [show (vS.set j2 true)=vu (bz (pa,pb)).2.1 (bz (pa,pb)).2.2 j2 vS by unfold vu; rw [C5,how]; rfl]; exact h9),aiU,(by rw [aP]; exact Ft),ae⟩ aT ae
   ·have hj0:=D7 C5
    refine iT I I<|eE I<|gV call207 (pA σ.jr ae) σ I fun _ σ=>zN (j:=1) I ae<|eE I<|gV call209 (oH (j:=j2 - 1) σ.jr ae) σ I fun _ σ=>?_
    replace σ:=σ.pack 2
    refine eE I<|fk call177 (jC (σ.cF (k:=0) I []) mr ae) I ?_
    rintro _ _ ⟨A79,c80,n81,rfl,adQ,wY⟩
    refine ⟨_,I,?_⟩
    replace σ:=σ.kL (k:=0) I adQ
    have adR:=jH (pz n) (fm n (j2 - 1)) ((bz (pa,pb)).2.1)
    have KE:(jU++lq (pz n) (fm n (j2 - 1)) ((bz (pa,pb)).2.1)).length=n81:=wY
    rw [ai,mr] at KE
    replace σ:=σ.unpack
    refine iT I I<|eE I<|gV call209 (oH (j:=j2) σ.jr ae) σ I fun _ σ=>eE I<|gV call209 (oH (j:=j2) σ.jr ae) σ I fun _ σ=>?_
    replace σ:=σ.pack 2
    refine eE I<|fk call177 (jC (σ.cF (k:=0) I []) wY ae) I ?_
    rintro _ _ ⟨A84,c85,n86,rfl,ad4,Pf⟩
    refine ⟨_,I,?_⟩
    replace σ:=σ.kL (k:=0) I ad4
    have ad5:=jH (fm n j2) (fm n j2) ((bz (pa,pb)).2.2)
    have KL:((jU++lq (pz n) (fm n (j2 - 1)) ((bz (pa,pb)).2.1))++lq (fm n j2) (fm n j2) ((bz (pa,pb)).2.2)).length=n86:=Pf
    rw [ai,wY] at KL
    replace σ:=σ.unpack
    refine eE I<|gV call209 (oH (j:=j2) σ.jr ae) σ I fun _ σ=>eE I<|gV call209 (oH (j:=j2) σ.jr ae) σ I fun _ σ=>eE I<|gV call207 (pA σ.jr ae) σ I fun _ σ=>?_
    replace σ:=σ.pack 2
    refine eE I<|fk call204 (qV (σ.cF (k:=0) I []) Pf ae) I ?_
    rintro _ _ ⟨A89,Yw,Pg,rfl,KM,yN⟩
    refine ⟨_,I,?_⟩
    replace σ:=σ.kL (k:=0) I KM
    have KN:=bh (a:=((3:Int),(fm n j2),(fm n j2),(pz n),(0:Int)))
    have xd:(((jU++lq (pz n) (fm n (j2 - 1)) ((bz (pa,pb)).2.1))++lq (fm n j2) (fm n j2) ((bz (pa,pb)).2.2))++[((3:Int),(fm n j2),(fm n j2),(pz n),(0:Int))]).length=Pg:=yN
    rw [ai,Pf] at xd
    replace σ:=σ.unpack
    exact vE I (fun η=>aX (i:=j2) η underlying219 (eD.size) I I ae I (aZ σ.pI))<|eE I<|uH 2 j2 (e1:=true) kH σ I I ae Ft fun _ σ=>xq I ae<|gI ⟨j2,(((j2:Nat):Int) - (1:Int)),(vS.set j2 true),A89,Yw,Pg,(((jU++lq (pz n) (fm n (j2 - 1)) ((bz (pa,pb)).2.1))++lq (fm n j2) (fm n j2) ((bz (pa,pb)).2.2))++[((3:Int),(fm n j2),(fm n j2),(pz n),(0:Int))]),I,I,σ,I,ae,(by have h9:=Be; rw [pP,aiN C5 how] at h9; rw [show (vS.set j2 true)=vu (bz (pa,pb)).2.1 (bz (pa,pb)).2.2 j2 vS by unfold vu; rw [C5,how]; rfl]; simpa only [aH,cJ,bq] using h9),(by have h9:=QH; rw [pP] at h9; rw [show (vS.set j2 true)=vu (bz (pa,pb)).2.1 (bz (pa,pb)).2.2 j2 vS by unfold vu; rw [C5,how]; rfl]; exact h9),yN,(by rw [aP]; exact Ft),ae⟩ aT ae
  ·obtain rfl:mj=0:=ae
   replace QH:vS=(As n (bz (pa,pb)).2.1 (bz (pa,pb)).2.2 dd Qo).2:=QH
   have aek:jU=es1++(As n (bz (pa,pb)).2.1 (bz (pa,pb)).2.2 dd Qo).1:=by rw [<- Be]; exact (bq _).symm
   exact iF I I<|can (j:=1) I ae<|gI ⟨dd+1,m9,vS,A2,c2,n2,jU,I,I,σ,ae,(by rw [QH,aek,aH]; exact Jw),(by rw [QH]; exact xi),mr,Ft,ae⟩ aT ae
 ·obtain rfl:mm=0:=ae
  exact iF I I<|o1 results208 I<|by rw [<- Jw,<- xi,show Kl n (bz (pa,pb)).2.1 (bz (pa,pb)).2.2 dd 0 Qo=([],Qo) from rfl,bq]; exact ⟨_,_,_,_,rfl,(σ.pick [0,1,2] [0] aB).pack 2,mJ,hgD⟩
theorem Yy {q:Nat} (hS:St w0 w1 [tq g n A nI c B m d es] [dA w1 (tq g n A nI c B m d es),jD B m d ws]) (hl:es.length=nI) (hn:nI+70*q+200<=99000) (u9:ws.length=m) (hwn:m=n) (Wx:∀p∈ws,MK p) (Wf:1<=q) (aee:q<=14) (ad9:n<=15) (JH:ws[k]?=some (pa,pb)):
  Calls prog 179 #[cY g,aM k,aM q] w1 fun e w'=>∃A' c' n',e=.returned (.tuple #[])/\St w0 w' [tq g n A' n' c' B m d (es++Km n (pa,pb) ((k:Nat):Int) q)] [dA w1 (tq g n A nI c B m d es)]/\(es++Km n (pa,pb) ((k:Nat):Int) q).length=n':=by
 refine gQ func179 I ntmps179 I fun σ=>?_
 replace σ:=hS
 have hkn:k<m:=by have:=(aE.1 JH).1; omega
 have JC:=Wx _ (ah JH)
 obtain ⟨⟨b1,b2⟩,b3,b4⟩:=JC.tQ
 dsimp only at b1 b2 b3 b4
 have hrl:=E6 n (pa,pb) ((k:Nat):Int) q
 replace σ:=σ.unpack
 refine lE 0 σ I<|vE I (fun η=>aX (i:=k) η underlying22 (aO.size) I I ae I σ.dw.1)<|cE I (fun η=>cX (v:=#[aG pa,aG pb]) (i:=k) (e:=(pa,pb)) η aO I I iX σ.dw.1 ae JH I)<|eE I<|iR b6 σ I fun _ de σ=>eE I<|fB 0 σ I fun _ σ=>ks (fun mz l w=>∃mj:Nat,∃z:Int,∃A2:Option Addr,∃c2:Nat,∃n2:Nat,∃jU:List IE,mj=mz/\l=[(7,aG z),(0,cY g),(1,aM k),(2,aM q),(6,cY de)]/\St w0 w [bk g #[aM n,.slice A2 n2 c2,.slice B m d] 264,dQ A2 n2 c2 jU,bk de #[aG pa,aG pb] 61] [dA w1 (tq g n A nI c B m d es),jD B m d ws]/\z=((mj:Nat):Int) - 1/\mj<=q+1/\jU++bkM n pa pb q mj=es++SL n pa pb q q/\jU.length=n2/\n2+3*mj+60*q+100<=99000) ⟨(q+1),((q:Nat):Int),A,c,nI,es,I,I,σ.pick [1,2,0] [0,1] aB,ae,(ar _),I,hl,ae⟩ aT ?_
 rintro _ _ _ ⟨mj,z,A2,c2,n2,jU,rfl,rfl,σ,hz,hm,hi,mr,kY⟩
 refine xo I<|wD (fun mX=>?_) fun mX=>?_
 ·obtain ⟨j2,rfl⟩:∃j2,mj=j2+1:=⟨mj-1,by omega⟩
  obtain rfl:z=((j2:Nat):Int):=ae
  refine iT I I<|gj I<|wQ (fun oL=>?_) fun oL=>?_
  ·refine iT I I<|lj [11] [0,4,8,16,20,24,32,37,40,14,30,46] bI σ fun _ σ=>zN (j:=1) I ae<|lS 2 I<|Ye I ae<|eS I<|gV call178 (nj (j:=j2) σ.jr ae) σ I fun _ σ=>sk σ.kn<|eS I<|gV call178 (nj (j:=j2 - 1) σ.jr ae) σ I fun _ σ=>sk σ.kn<|?_
   replace σ:=σ.pack 2
   refine eS I<|fk call177 (jC (σ.cF (k:=0) I []) mr ae) I ?_
   rintro _ _ ⟨xe,uL,n56,rfl,ael,zP⟩
   refine ⟨_,I,?_⟩
   replace σ:=σ.kL (k:=0) I ael
   have TQ:=jH (pl n j2) (pl n (j2 - 1)) (-pb)
   have aem:(jU++lq (pl n j2) (pl n (j2 - 1)) (-pb)).length=n56:=zP
   rw [ai,mr] at aem
   replace σ:=σ.unpack
   exact sz I<|xq I ae<|gI ⟨j2,(((j2:Nat):Int) - (1:Int)),xe,uL,n56,(jU++lq (pl n j2) (pl n (j2 - 1)) (-pb)),I,I,σ,I,ae,(by have h9:=hi; rw [CC,an' ae] at h9; simpa only [aH] using h9),zP,ae⟩ aT ae
  ·refine iF I I<|sG I<|wD (fun wX=>?_) fun wX=>?_
   ·refine iT I I<|lj [9] [0,4,12,16,20,28,33,10,26,38] bI σ fun _ σ=>zN (j:=1) I ae<|lS 2 I<|eS I<|gV call207 (pA σ.jr ae) σ I fun _ σ=>sk σ.kn<|eS I<|gV call178 (nj (j:=j2 - 1) σ.jr ae) σ I fun _ σ=>sk σ.kn<|?_
    replace σ:=σ.pack 2
    refine eS I<|fk call177 (jC (σ.cF (k:=0) I []) mr ae) I ?_
    rintro _ _ ⟨Cz,xv,n62,rfl,Fo,xc⟩
    refine ⟨_,I,?_⟩
    replace σ:=σ.kL (k:=0) I Fo
    have Fp:=jH (pz n) (pl n (j2 - 1)) pb
    have CA:(jU++lq (pz n) (pl n (j2 - 1)) pb).length=n62:=xc
    rw [ai,mr] at CA
    replace σ:=σ.unpack
    refine sz I<|lj [9] [0,4,8,16,20,28,33,14,26,38] bI σ fun _ σ=>lS 2 I<|eS I<|gV call178 (nj (j:=j2) σ.jr ae) σ I fun _ σ=>sk σ.kn<|eS I<|gV call178 (nj (j:=j2) σ.jr ae) σ I fun _ σ=>sk σ.kn<|?_
    replace σ:=σ.pack 2
    refine eS I<|fk call177 (jC (σ.cF (k:=0) I []) xc ae) I ?_
    rintro _ _ ⟨A65,c66,n67,rfl,Cu,Fl⟩
    refine ⟨_,I,?_⟩
    replace σ:=σ.kL (k:=0) I Cu
    have TD:=jH (pl n j2) (pl n j2) pa
    have Cv:((jU++lq (pz n) (pl n (j2 - 1)) pb)++lq (pl n j2) (pl n j2) pa).length=n67:=Fl
    rw [ai,xc] at Cv
    replace σ:=σ.unpack
    refine sz I<|sG I<|kB (b':=true) (a8 wX)<|iT I I<|eE I<|gV call178 (nj (j:=j2) σ.jr ae) σ I fun _ σ=>eE I<|gV call178 (nj (j:=j2) σ.jr ae) σ I fun _ σ=>eE I<|gV call207 (pA σ.jr ae) σ I fun _ σ=>?_
    replace σ:=σ.pack 2
    refine eE I<|fk call204 (qV (σ.cF (k:=0) I []) Fl ae) I ?_
    rintro _ _ ⟨A70,X7,n72,rfl,Fm,Iy⟩
    refine ⟨_,I,?_⟩
    replace σ:=σ.kL (k:=0) I Fm
    have TF:=bh (a:=((4:Int),(pl n j2),(pl n j2),(pz n),(0:Int)))
    have Cw:(((jU++lq (pz n) (pl n (j2 - 1)) pb)++lq (pl n j2) (pl n j2) pa)++[((4:Int),(pl n j2),(pl n j2),(pz n),(0:Int))]).length=n72:=Iy
    rw [ai,Fl] at Cw
    replace σ:=σ.unpack
    exact xq I ae<|gI ⟨j2,(((j2:Nat):Int) - (1:Int)),A70,X7,n72,(((jU++lq (pz n) (pl n (j2 - 1)) pb)++lq (pl n j2) (pl n j2) pa)++[((4:Int),(pl n j2),(pl n j2),(pz n),(0:Int))]),I,I,σ,I,ae,(by have h9:=hi; rw [CC,aoa ae ae] at h9; simpa only [aH] using h9),Iy,ae⟩ aT ae
   ·refine iF I I<|lj [9] [0,4,8,16,20,28,33,14,26,38] bI σ fun _ σ=>lS 2 I<|eS I<|gV call178 (nj (j:=j2) σ.jr ae) σ I fun _ σ=>sk σ.kn<|eS I<|gV call178 (nj (j:=j2) σ.jr ae) σ I fun _ σ=>sk σ.kn<|?_
    replace σ:=σ.pack 2
    refine eS I<|fk call177 (jC (σ.cF (k:=0) I []) mr ae) I ?_
    rintro _ _ ⟨A75,c76,n77,rfl,aen,aiW⟩
    refine ⟨_,I,?_⟩
    replace σ:=σ.kL (k:=0) I aen
    have aon:=jH (pl n j2) (pl n j2) pa
    have aeo:(jU++lq (pl n j2) (pl n j2) pa).length=n77:=aiW
    rw [ai,mr] at aeo
    replace σ:=σ.unpack
    exact sz I<|sG I<|kB (b':=false) (aC wX)<|iF I I<|xq I ae<|gI ⟨j2,(((j2:Nat):Int) - (1:Int)),A75,c76,n77,(jU++lq (pl n j2) (pl n j2) pa),I,I,σ,I,ae,(by have h9:=hi; rw [CC,aob ae ae] at h9; simpa only [aH] using h9),aiW,ae⟩ aT ae
 ·obtain rfl:mj=0:=ae
  have aek:jU=es++SL n pa pb q q:=by rw [<- hi]; exact (bq _).symm
  refine iF I I<|?_
  replace σ:=σ.pack 2
  refine eE I<|fk call208 (Pj (σ.cF (k:=0) I [1]) mr ae u9 hwn Wx aee ad9 JH) I ?_
  rintro _ _ ⟨A80,c81,n82,aeq,rfl,aer,aiX,awB⟩
  refine ⟨_,I,?_⟩
  replace σ:=σ.an9 (k:=0) I aer (fun b hb=>by have h8:aeq=b:=aW hb; omega)
  have aoo:=TL (n:=n) (p:=(pa,pb)) (k:=((k:Nat):Int)) aee
  have aes:(jU++(Cc n (pa,pb) ((k:Nat):Int) q).1).length=n82:=aiX
  rw [ai,mr] at aes
  replace σ:=(σ.pick [1,0,2] [0,1] aB).unpack
  refine ks (fun mz l w=>∃j:Nat,∃A3:Option Addr,∃c3:Nat,∃n3:Nat,∃C6:List IE,q+1 - j=mz/\l=[(76,aM j),(0,cY g),(74,.slice (cS aeq) (q+1) (q+1)),(75,aM (q+1))]/\St w0 w [bk g #[aM n,.slice A3 n3 c3,.slice B m d] 264,dQ A3 n3 c3 C6,kX (cS aeq) (q+1) (q+1) ((Cc n (pa,pb) ((k:Nat):Int) q).2)] [dA w1 (tq g n A nI c B m d es),jD B m d ws]/\j<=q+1/\C6++zJ n j ((Cc n (pa,pb) ((k:Nat):Int) q).2.drop j)=es++Km n (pa,pb) ((k:Nat):Int) q/\C6.length=n3/\n3+(q+1 - j)<=99000) ⟨0,A80,c81,n82,(jU++(Cc n (pa,pb) ((k:Nat):Int) q).1),I,I,σ.pick [0,1,2] [0,1] aB,(av _),(by unfold Km; rw [<- aH,<- aH,<- aek]; rfl),aiX,ae⟩ aT ?_
  rintro _ _ _ ⟨j,A3,c3,n3,C6,rfl,rfl,σ,hj,hi3,ua,xk⟩
  refine il I<|wD (fun h87=>?_) fun h87=>?_
  ·have fh:j<q+1:=ae
   refine iT I I<|vE I (fun η=>aX (i:=j) η underlying219 (eD.size) I I ae I (aZ σ.pI))<|cE I (fun η=>bE (i:=j) (j:=0) (e:=(gb (Cc n (pa,pb) ((k:Nat):Int) q).2 j)) η eD I I kH aB (aZ σ.pI) ae (TK ae) I)<|wB (fun h88=>?_) fun h88=>?_
   ·refine iT I I<|eE I<|gV call178 (nj (j:=j) σ.jr ae) σ I fun _ σ=>eE I<|gV call178 (nj (j:=j) σ.jr ae) σ I fun _ σ=>eE I<|gV call209 (oH (j:=j) σ.jr ae) σ I fun _ σ=>?_
    replace σ:=σ.pack 2
    refine eE I<|fk call204 (qV (σ.cF (k:=0) I []) ua ae) I ?_
    rintro _ _ ⟨A89,Yw,Pg,rfl,KM,yN⟩
    refine ⟨_,I,?_⟩
    replace σ:=σ.kL (k:=0) I KM
    have KN:=bh (a:=((3:Int),(pl n j),(pl n j),(fm n j),(0:Int)))
    have xd:(C6++[((3:Int),(pl n j),(pl n j),(fm n j),(0:Int))]).length=Pg:=yN
    rw [ai,ua] at xd
    replace σ:=σ.unpack
    exact can (j:=1) I ae<|gI ⟨j+1,A89,Yw,Pg,(C6++[((3:Int),(pl n j),(pl n j),(fm n j),(0:Int))]),I,I,σ,ae,(by have h9:=hi3; rw [Nh ae,au h88] at h9; simpa only [aH,cJ] using h9),yN,ae⟩ aT ae
   ·exact iF I I<|can (j:=1) I ae<|gI ⟨j+1,A3,c3,n3,C6,I,I,σ,ae,(by have h9:=hi3; rw [Nh ae,ak (by rw [h88]; decide)] at h9; simpa only [aH,cJ] using h9),ua,ae⟩ aT ae
  ·obtain rfl:j=q+1:=ae
   exact iF I I<|Dp results179<|by rw [<- hi3,bo ae,show ∀x,zJ n x []=[] from fun _=>rfl,bq]; exact ⟨_,_,_,rfl,(σ.pick [0,1] [0] aB).pack 2,ua⟩
theorem St.more {own new:List PF} (h:St w0 w own ps) (h':St w w' new []):St w0 w' (new++own) ps:=by
 have h1:=h.call h'.below
 refine ⟨h1.below,fun e he=>?_,fun e he b hb=>?_,jy.2 ⟨h'.nd,h1.nd,fun e he f hf b hb h2=>?_⟩,h1.pers,fun p hp e he b hb h2=>?_⟩
 ·rcases aK.1 he with he | he
  ·exact h'.mine e he
  ·exact h1.mine e he
 ·rcases aK.1 he with he | he
  ·exact aD h.below.size (h'.new e he b hb)
  ·exact h1.new e he b hb
 ·have:=f.lt (h.mine f hf) h2
  have:=h'.new e he b hb
  omega
 ·rcases aK.1 he with he | he
  ·have:=p.lt (h.pers p hp) h2
   have:=h'.new e he b hb
   omega
  ·exact h1.apart p hp e he b hb h2
theorem St.jX {α:Type} {f:α->List Value} {own:List PF} {es:List α} {q:Value->Bool} {z:Nat} (h:St w0 w own ps) (hk:own[k]?=some (fc q E z A n c (fl f es))) (hl:es.length=n):St w0 w (own.eraseIdx k) (bH f (fun _=>kF) z A n c es::ps):=
 h.give hk (bH f (fun _=>kF) z A n c es) ⟨aZ (h.owns hk),hl,fun _ _=>trivial⟩ fun b hb=>by
  rcases hb with ⟨_,off,rfl⟩ | ⟨e,_,he⟩
  ·rfl
  ·exact he.elim
def aoq (p:Pt):Bool:=decide ((0<(p9 p).2∨((p9 p).2=0/\0<(p9 p).1))/\p.1=(p9 p).1*Kz p/\p.2=(p9 p).2*Kz p/\Kz p≠0/\((bz p).2.1*(p9 p).1+(bz p).2.2*(p9 p).2=1∨-((bz p).2.1)*(p9 p).1+-((bz p).2.2)*(p9 p).2=1))
theorem aet:∀a:Fin 33,∀b:Fin 33,(a.1=16/\b.1=16)∨aoq ((a.1:Int) - 16,(b.1:Int) - 16)=true:=by decide+kernel
theorem aa' {p:Pt} (h:pU p) (h0:¬(p.1=0/\p.2=0)):(0<(p9 p).2∨((p9 p).2=0/\0<(p9 p).1))/\p.1=(p9 p).1*Kz p/\p.2=(p9 p).2*Kz p/\Kz p≠0/\∃u v:Int,u*(p9 p).1+v*(p9 p).2=1:=by
 unfold pU at h
 have:=aet ⟨(p.1+16).toNat,by omega⟩ ⟨(p.2+16).toNat,by omega⟩
 dsimp only at this
 rcases this with q | q
 ·omega
 ·rw [show (((p.1+16).toNat:Nat):Int) - 16=p.1 by omega,show (((p.2+16).toNat:Nat):Int) - 16=p.2 by omega] at q
  obtain ⟨h1,h2,h3,h4,h5⟩:=aN q
  exact ⟨h1,h2,h3,h4,h5.elim (fun h=>⟨_,_,h⟩) fun h=>⟨_,_,h⟩⟩
theorem aba {u:Int} (h:u*a1+v*a2=1) (e:a1*b2=b1*a2):b1=(u*b1+v*b2)*a1:=by
 have:(u*b1+v*b2)*a1=(u*a1+v*a2)*b1:=by
  rw [jG,jG,bO v b2,bZ b2,e,Int.mul_right_comm u,bZ b1,bO v]
 rw [this,h,eZ]
theorem abb {u:Int} (h:u*a1+v*a2=1) (e:a1*b2=b1*a2):b2=(u*b1+v*b2)*a2:=by
 have:(u*b1+v*b2)*a2=(u*a1+v*a2)*b2:=by
  rw [jG,jG,bO u,<- e,Int.mul_right_comm v,bO u]
 rw [this,h,eZ]
theorem KQ {p:Pt} (hp:pU p) (Pc:¬(p.1=0/\p.2=0)) (hq:pU q) (W9:¬(q.1=0/\q.2=0)):p9 p=p9 q↔p.1*q.2 - q.1*p.2=0:=by
 obtain ⟨s1,p1,p2,p3,u,v,pu⟩:=aa' hp Pc
 obtain ⟨t1,q1,q2,q3,y,z,qu⟩:=aa' hq W9
 generalize p9 p=a at*
 generalize p9 q=b at*
 generalize Kz p=g at*
 generalize Kz q=k at*
 have hd:p.1*q.2 - q.1*p.2=(a.1*b.2 - b.1*a.2)*(g*k):=by
  rw [p1,p2,q1,q2,Int.sub_mul]
  simp only [bZ,eP]
 constructor
 ·intro e
  rw [hd,e,Int.sub_self,dh]
 ·intro e
  rw [hd] at e
  have e1:a.1*b.2 - b.1*a.2=0:=(Int.mul_eq_zero.1 e).resolve_right fun h=>(Int.mul_eq_zero.1 h).elim p3 q3
  have e2:a.1*b.2=b.1*a.2:=ae
  have b1:=aba pu e2
  have b2:=abb pu e2
  have a1:=aba qu (by omega:b.1*a.2=a.1*b.2)
  have a2:=abb qu (by omega:b.1*a.2=a.1*b.2)
  generalize u*b.1+v*b.2=m at*
  generalize y*a.1+z*a.2=n at*
  have V9:n*m=1:=by
   have h1:n*m*a.1=a.1:=by rw [bO,<- b1]; exact a1.symm
   have h2:n*m*a.2=a.2:=by rw [bO,<- b2]; exact a2.symm
   have h3:n*m*(u*a.1+v*a.2)=u*a.1+v*a.2:=by
    rw [ke,eP,h1,eP,h2]
   rwa [pu,fA] at h3
  have hm:m=1∨m=-1:=by
   have:=aq Int.natAbs V9
   rw [dL] at this
   have:=Nat.eq_one_of_mul_eq_one_left this
   omega
  rcases hm with rfl | rfl
  ·exact Prod.ext (by rw [b1,eZ]) (by rw [b2,eZ])
  ·omega
theorem CE (h:lI l):¬wa l:=fun ⟨i,j,p,q,QZ,hi,hj,e⟩=>by
 have hp:=h.tQ p (ah hi)
 have hq:=h.tQ q (ah hj)
 obtain ⟨LO,rfl⟩:=aE.1 hi
 obtain ⟨Qa,rfl⟩:=aE.1 hj
 exact fH.1 h.apart i j LO Qa QZ ((KQ hp.1 hp.2 hq.1 hq.2).1 e)
theorem aeu (h1:1<=l.length/\l.length<=15) (h2:∀p∈l,pU p/\¬(p.1=0/\p.2=0)) (h3:¬wa l):lI l:=
 ⟨h1,h2,fH.2 fun i j hi hj QZ e=>h3 ⟨i,j,_,_,QZ,ag hi,ag hj,(KQ (h2 _ (eJ hi)).1 (h2 _ (eJ hi)).2 (h2 _ (eJ hj)).1 (h2 _ (eJ hj)).2).2 e⟩⟩
theorem TR {t:Bool} {p:Prop} (h:t=true↔p) (hp:¬p):t=false:=by
 cases t
 ·rfl
 ·exact absurd (h.1 I) hp
def nS (n:Nat):List Int:=(List.range n).map fun i=>((i:Nat):Int)
theorem Pl (n:Nat):nS n++[((n:Nat):Int)]=nS (n+1):=by unfold nS; rw [iw,cD]; rfl
theorem pQ (n:Nat):(nS n).length=n:=by simp [nS]
theorem AH (h:i<n):(nS n)[i]?=some ((i:Nat):Int):=by unfold nS; rw [ay,bN h]; rfl
theorem TS (n j:Nat):(List.range j).map (pl n)++[pl n j]=(List.range (j+1)).map (pl n):=by rw [iw,cD]; rfl
theorem aev (h:ws[j]?=some q):O6 n j (ws.drop j)=O5 ((j:Nat):Int) (bz q).1 (n - 1)++O6 n (j+1) (ws.drop (j+1)):=by
 obtain ⟨hi,rfl⟩:=aE.1 h
 rw [cA hi]
 rfl
theorem aew (h:ws[j]?=some q) (hl:ws.length=n):Qj n j (ws.drop j)=DY n q ((j:Nat):Int) (n - 1 - j) (j+1) (ws.drop (j+1))++Qj n (j+1) (ws.drop (j+1)):=by
 obtain ⟨hi,rfl⟩:=aE.1 h
 rw [cA hi,Qj,dp,show ws.length - (j+1)=n - 1 - j by omega]
def Gx (n:Nat) (ws:List Pt):Nat->List IE
 | 0=>[]
 | m+1=>Km n (ws.getD m (0,0)) ((m:Nat):Int) (n - 1 - m)++Gx n ws m
theorem abd {n:Nat} {ws:List Pt} (hl:ws.length=n):∀d k,k+d+1=n->Gx n ws (n - 1)=bkF n k (ws.drop k)++Gx n ws k
 | 0,k,h=>by
  have hk:k<ws.length:=ae
  rw [cA hk,bo ae,show n - 1=k by omega]
  rfl
 | d+1,k,h=>by
  have hk:k<ws.length:=ae
  have zL:k+1<ws.length:=ae
  rw [abd hl d (k+1) ae,cA hk,cA zL,bkF,Gx,aH,dp,aj,ag hk,show ws.length - (k+1+1)+1=n - 1 - k by omega]
  rfl
theorem Yz (hl:ws.length=n) (hn:1<=n):Gx n ws (n - 1)=bkF n 0 ws:=by
 have h:=abd hl (n - 1) 0 ae
 rwa [show Gx n ws 0=[] from rfl,bq] at h
theorem YA (hl:l.length=n) (hn:1<=n):qC l=O6 n 0 l++(Qj n 0 (l.map whole)++(lq (pl n 0) ((n - 1:Nat):Int) 1++Gx n (l.map whole) (n - 1))):=by
 subst hl
 unfold qC
 have hm:(l.map whole).length=l.length:=aw ..
 rw [Yz hm hn,HN _ _ _ (by intro e; rw [e] at hm; simp at hm; omega),hm,bD,aH]
theorem Ni {p:Pt} (h:l[j]?=some p):(l.map whole)[j]?=some (whole p):=by rw [ay,h]; rfl
theorem YB {p:Pt} (h:l[j]?=some p):(l.take j).map whole++[whole p]=(l.take (j+1)).map whole:=by
 obtain ⟨hi,rfl⟩:=aE.1 h
 rw [List.take_succ_eq_append_getElem hi,cD]
 rfl
theorem aiZ (h:lI l):∀p∈l.map whole,MK p:=fun p hp=>by
 obtain ⟨q,hq,rfl⟩:=bG.1 hp
 exact (pO (h.tQ q hq).1 (h.tQ q hq).2).2.2.2.2
theorem IC {es0:List Pt} (h0:(jD A0 n0 c0 es0).P w0) (dy:lI es0):
  Calls prog 129 #[.slice A0 n0 c0] w0 fun e w'=>e=.returned (.bool true)/\Below w0.heap.size w0 w':=by
 have pJ:=dy.some_
 have hln:=h0.2.1
 refine gQ func129 I ntmps129 I fun σ=>?_
 have cQ:=h0.2.1
 have lu:=h0.1.cap
 have eN:=h0.1.big
 unfold maxLen at eN
 replace σ:=σ.aY h0
 refine il I<|kB (b':=false) (aC ae)<|sG I<|kB (b':=false) (aC ae)<|iF I I<|ks (fun mz l w=>∃j:Nat,n0 - j=mz/\l=[(18,aM j),(0,.slice A0 n0 c0),(16,.slice A0 n0 c0),(17,aM n0)]/\St w0 w [] [jD A0 n0 c0 es0]/\j<=n0) ⟨0,I,I,σ,(av _)⟩ aT ?_
 rintro _ _ _ ⟨j,rfl,rfl,σ,hj⟩
 refine il I<|wD (fun lC=>?_) fun lC=>?_
 ·have fh:j<n0:=ae
  obtain ⟨⟨pa,pb⟩,eG⟩:∃e,es0[j]?=some e:=⟨_,ag ae⟩
  have hep:=dy.tQ _ (ah eG)
  exact iT I I<|vE I (fun η=>aX (i:=j) η underlying22 (aO.size) I I ae I σ.bW.1)<|cE I (fun η=>cX (v:=#[aG pa,aG pb]) (i:=j) (e:=(pa,pb)) η aO I I iX σ.bW.1 ae eG I)<|eE I<|iR b6 σ I fun _ eQ σ=>eE I<|fB 0 σ I fun _ σ=>gE 0 σ I<|eE I<|gV call69 (wb (pa:=pa) (pb:=pb)) σ I fun _ σ=>kB (b':=true) (a8 hep.1)<|gE 0 σ I<|eE I<|gV call71 (M9 (pa:=pa) (pb:=pb)) σ I fun _ σ=>kB (b':=false) (aC fun e=>hep.2 (by simpa using e))<|iF I I<|can (j:=1) I ae<|gI ⟨j+1,I,I,σ.pick [] [0] aB,ae⟩ aT ae
 ·obtain rfl:j=n0:=ae
  refine iF I I<|eE I<|fk call72 (Iq σ.bW (fun p hp=>(dy.tQ p hp).1)) I ?_
  rintro _ _ ⟨x53,y54,t55,rfl,aor,hb⟩
  refine ⟨_,I,?_⟩
  replace σ:=σ.call hb
  obtain rfl:t55=false:=TR aor (CE dy)
  exact o1 results129 I<|⟨I,σ.below⟩
theorem CF (hn:n<=1000):
  Calls prog 87 #[aM n] w0 fun e w'=>∃A c,e=.returned (.slice A n c)/\St w0 w' [cI A n c (nS n)] []:=by
 refine gQ func87 I ntmps87 I fun σ=>?_
 replace σ:=(σ.fp dD 3 1)
 refine ks (fun mz l w=>∃j:Nat,∃A1:Option Addr,∃c1:Nat,n - j=mz/\l=[(3,.slice A1 j c1),(6,aM j),(5,aM n)]/\St w0 w [cI A1 j c1 (nS j)] []/\j<=n) ⟨0,none,0,I,I,σ,(av _)⟩ aT ?_
 rintro _ _ _ ⟨j,A1,c1,rfl,rfl,σ,hj⟩
 refine il I<|wD (fun lC=>?_) fun lC=>?_
 ·have fh:j<n:=ae
  refine iT I I<|eE I<|mi #[aM j] σ (bn.size) gY I bI fun _ eQ σ=>eE I<|oO (new:=[((j:Nat):Int)]) 1 0 σ iv I (by unfold maxLen; omega) ae fun _ jh rk σ=>?_
  rw [Pl] at σ
  exact can (j:=1) I ae<|gI ⟨j+1,(cS jh),rk,I,I,σ.pick [1] [] aB,ae⟩ aT ae
 ·obtain rfl:j=n:=ae
  exact iF I I<|o1 results87 I<|⟨_,_,I,σ.pick [0] [] aB⟩
theorem YC {es0:List Pt} (h0:(jD A0 n0 c0 es0).P w0) (h1:(fg A1 n0 c1 (nS n0)).P w0) (dy:lI es0):
  Calls prog 132 #[.slice A0 n0 c0,.slice A1 n0 c1] w0 fun e w'=>∃A n c B d,e=.returned (.agg #[aM n0,aM (3*n0+1),.slice A n c,.slice B n0 d])/\St w0 w' [dQ A n c (qC es0),cI B n0 d (tZ n0)] []/\(qC es0).length=n:=by
 refine gQ func132 I ntmps132 I fun σ=>?_
 have cQ:=h0.2.1
 have pJ:=dy.some_
 rw [cQ] at pJ
 have u9:(es0.map whole).length=n0:=by rw [aw]; exact cQ
 have hwn:n0=n0:=rfl
 have Wx:=aiZ dy
 replace σ:=(σ.aY h0).aY h1
 refine eE I<|iR cM σ I fun _ de σ=>vE I (fun η=>eV (c:=#[aM n0,bM,bM]) uJ η I I)<|eE I<|ll σ I fun _ eQ σ=>?_
 replace σ:=(σ.fp dD 116 5)
 replace σ:=(σ.fp dD 61 2)
 refine ks (fun mz l w=>∃j:Nat,∃A2:Option Addr,∃c2:Nat,∃n2:Nat,∃jU:List IE,∃B2:Option Addr,∃d2:Nat,n0 - j=mz/\l=[(25,aM j),(1,.slice A1 n0 c1),(4,cY de),(5,aM n0),(6,cY eQ),(23,.slice A0 n0 c0),(24,aM n0)]/\St w0 w [bk eQ #[aM n0,.slice A2 n2 c2,.slice B2 j d2] 264,dQ A2 n2 c2 jU,lp B2 j d2 ((es0.take j).map whole),bk de #[aG 0,aG 0,bM,bM] 28] [fg A1 n0 c1 (nS n0),jD A0 n0 c0 es0]/\j<=n0/\jU++O6 n0 j (es0.drop j)=O6 n0 0 es0/\jU.length=n2/\n2<=14*j) ⟨0,none,0,0,([]:List IE),none,0,I,I,σ.pick [2,1,0,3] [0,1] aB,(av _),I,I,(ar _)⟩ aT ?_
 rintro _ _ _ ⟨j,A2,c2,n2,jU,B2,d2,rfl,rfl,σ,hj,hi,mr,hb⟩
 refine il I<|wD (fun oL=>?_) fun oL=>?_
 ·have fh:j<n0:=ae
  obtain ⟨⟨pa,pb⟩,eG⟩:∃e,es0[j]?=some e:=⟨_,ag ae⟩
  have hep:=dy.tQ _ (ah eG)
  obtain ⟨g1,g2,-,-,hw⟩:=pO hep.1 hep.2
  obtain ⟨⟨b1,b2⟩,b3,b4⟩:=hep.1
  dsimp only at b1 b2 b3 b4
  refine iT I I<|vE I (fun η=>aX (i:=j) η underlying22 (aO.size) I I ae I σ.dw.1)<|cE I (fun η=>cX (v:=#[aG pa,aG pb]) (i:=j) (e:=(pa,pb)) η aO I I iX σ.dw.1 ae eG I)<|eE I<|iR b6 σ I fun _ jY σ=>eE I<|fB 0 σ I fun _ σ=>gE 0 σ I<|eE I<|gV call174 (yJ hep.1 hep.2) σ I fun _ σ=>zN (j:=1) I ae<|ks (fun mz l w=>∃x:Nat,∃A3:Option Addr,∃c3:Nat,∃n3:Nat,∃C6:List IE,n0 - 1 - x=mz/\l=[(39,aM x),(1,.slice A1 n0 c1),(4,cY de),(5,aM n0),(6,cY eQ),(7,aM j),(8,cY jY),(9,aG ((bz (pa,pb)).1)),(23,.slice A0 n0 c0),(24,aM n0),(25,aM j),(38,aM (n0 - 1))]/\St w0 w [bk eQ #[aM n0,.slice A3 n3 c3,.slice B2 j d2] 264,dQ A3 n3 c3 C6,bk jY #[aG pa,aG pb] 61,lp B2 j d2 ((es0.take j).map whole),bk de #[aG 0,aG 0,bM,bM] 28] [fg A1 n0 c1 (nS n0),jD A0 n0 c0 es0]/\x<=n0 - 1/\C6++O5 ((j:Nat):Int) (bz (pa,pb)).1 (n0 - 1 - x)=jU++O5 ((j:Nat):Int) (bz (pa,pb)).1 (n0 - 1)/\C6.length=n3/\n3<=14*j+x) ⟨0,A2,c2,n2,jU,I,I,σ.pick [1,2,0,3,4] [0,1] aB,(av _),I,mr,ae⟩ aT ?_
  rintro _ _ _ ⟨x,A3,c3,n3,C6,rfl,rfl,σ,hx,hi3,ua,xk⟩
  refine il I<|wD (fun sI=>?_) fun sI=>?_
  ·refine iT I I<|?_
   replace σ:=σ.pack 2
   refine eE I<|fk call175 (AG (σ.cF (k:=0) I []) ua ae) I ?_
   rintro _ _ ⟨KR,ID,n58,rfl,KS,ai0⟩
   refine ⟨_,I,?_⟩
   replace σ:=σ.kL (k:=0) I KS
   have aos:=AF ((j:Nat):Int) ((bz (pa,pb)).1)
   have aex:(C6++xm ((j:Nat):Int) ((bz (pa,pb)).1)).length=n58:=ai0
   rw [ai,ua] at aex
   replace σ:=σ.unpack
   exact can (j:=1) I ae<|gI ⟨x+1,KR,ID,n58,(C6++xm ((j:Nat):Int) ((bz (pa,pb)).1)),I,I,σ,ae,(by have h9:=hi3; rw [show n0 - 1 - x=(n0 - 1 - (x+1))+1 by omega,O5,<- aH] at h9; exact h9),ai0,ae⟩ aT ae
  ·have aot:jU++O5 ((j:Nat):Int) (bz (pa,pb)).1 (n0 - 1)=C6:=by rw [<- hi3,show n0 - 1 - x=0 by omega]; exact bq _
   refine iF I I<|lj [15,18] [0,4,8,12,17,20,25,28,32,36,41,44,48,52,58,62,64,68,74] bI σ fun _ σ=>lS 0 I<|lS 2 I<|vE I (fun η=>nP (m:=pa) (n:=(bz (pa,pb)).1) η I I ae (lJ ae))<|lS 2 I<|vE I (fun η=>nP (m:=pb) (n:=(bz (pa,pb)).1) η I I ae (lJ ae))<|vE I (fun η=>eV (c:=#[aG (pa.tdiv ((bz (pa,pb)).1)),aG (pb.tdiv ((bz (pa,pb)).1))]) iO η I I)<|eS I<|mi (z:=2) #[aG (pa.tdiv ((bz (pa,pb)).1)),aG (pb.tdiv ((bz (pa,pb)).1))] σ (aO.size) b6 I bI fun _ D8 σ=>sk (σ.kd 1 0)<|eS I<|oO (new:=[((pa.tdiv ((bz (pa,pb)).1)),(pb.tdiv ((bz (pa,pb)).1)))]) 4 0 σ lW I (by unfold maxLen; omega) ae fun _ WA c63 σ=>sz rfl<|?_
   replace σ:=σ
   refine eS I<|mK 1 σ I fun _ σ=>sz I<|?_
   rw [show ([((pa.tdiv (bz (pa,pb)).1),(pb.tdiv (bz (pa,pb)).1))]:List Pt)=[whole (pa,pb)] from rfl,YB eG] at σ
   exact can (j:=1) I ae<|gI ⟨j+1,A3,c3,n3,C6,(cS WA),c63,I,I,σ.pick [1,2,4,5] [0,1] aB,ae,(by have h9:=hi; rw [aev eG,<- aH,aot] at h9; exact h9),ua,ae⟩ aT ae
 ·obtain rfl:n0=j:=ae
  refine iF I I<|?_
  rw [ax (show es0.length<=n0 by omega)] at σ
  replace σ:=σ.jX (k:=2) I (by rw [aw]; exact cQ)
  have mf:jU=O6 n0 0 es0:=by rw [<- hi,bo ae]; exact (bq _).symm
  refine ks (fun mz l w=>∃y:Nat,∃A4:Option Addr,∃c4:Nat,∃n4:Nat,∃YD:List IE,n0 - y=mz/\l=[(67,aM y),(1,.slice A1 n0 c1),(4,cY de),(5,aM n0),(6,cY eQ),(65,.slice A1 n0 c1),(66,aM n0)]/\St w0 w [bk eQ #[aM n0,.slice A4 n4 c4,.slice B2 n0 d2] 264,dQ A4 n4 c4 YD,bk de #[aG 0,aG 0,bM,bM] 28] [jD B2 n0 d2 (es0.map whole),fg A1 n0 c1 (nS n0),jD A0 n0 c0 es0]/\y<=n0/\YD++Qj n0 y ((es0.map whole).drop y)=jU++Qj n0 0 (es0.map whole)/\YD.length=n4/\n4<=14*n0+300*y) ⟨0,A2,c2,n2,jU,I,I,σ,(av _),I,mr,ae⟩ aT ?_
  rintro _ _ _ ⟨y,A4,c4,n4,YD,rfl,rfl,σ,hy,hi4,Hj,ru⟩
  refine il I<|wD (fun JG=>?_) fun JG=>?_
  ·have fh:y<n0:=ae
   obtain ⟨⟨pa,pb⟩,kf⟩:∃e,es0[y]?=some e:=⟨_,ag ae⟩
   refine iT I I<|vE I (fun η=>aX (i:=y) η underlying26 (bn.size) I I ae I σ.dw.1)<|cE I (fun η=>bE (i:=y) (j:=0) (e:=((y:Nat):Int)) η bn I I di aB σ.dw.1 ae (AH fh) I)<|can (j:=1) I ae<|?_
   refine vE I (fun η=>vY (m:=y+1) (z:=1) η underlying26 (bn.size) I I ae)<|?_
   replace σ:=σ.rowFrom (i:=1) I (y+1) di ae
   refine zN (j:=1) I ae<|zN I ae<|?_
   replace σ:=σ.pack 2
   refine eE I<|fk call176 (Yx (pa:=(whole (pa,pb)).1) (pb:=(whole (pa,pb)).2) (k:=y) (q:=n0 - 1 - y) (i0:=y+1) (ls:=(nS n0).drop (y+1)) (σ.cF (k:=0) I [1,0]) Hj (by have:=bR (show n0 - 1 - y+4<=18 by omega) (show n0 - (y+1)<=14 by omega); omega) u9 hwn Wx (fun x hx=>by rw [List.getElem?_drop]; exact AH ae) ae ae (Ni kf)) rfl ?_
   rintro _ _ ⟨A65,c66,n67,rfl,Cu,Fl⟩
   refine ⟨_,I,?_⟩
   replace σ:=σ.kL (k:=0) I Cu
   have TD:=(aD (E5 n0 (whole (pa,pb)) ((y:Nat):Int) (n0 - 1 - y) ((es0.map whole).drop (y+1)) (y+1)) (bR (show n0 - 1 - y+3<=17 by omega) (show ((es0.map whole).drop (y+1)).length<=14 by rw [dp,u9]; omega)))
   have Cv:(YD++DY n0 (whole (pa,pb)) ((y:Nat):Int) (n0 - 1 - y) (y+1) ((es0.map whole).drop (y+1))).length=n67:=Fl
   rw [ai,Hj] at Cv
   replace σ:=σ.unpack
   exact can (j:=1) I ae<|gI ⟨y+1,A65,c66,n67,(YD++DY n0 (whole (pa,pb)) ((y:Nat):Int) (n0 - 1 - y) (y+1) ((es0.map whole).drop (y+1))),I,I,σ.pick [0,1,2] [1,2,3] aB,ae,(by have h9:=hi4; rw [aew (Ni kf) u9,<- aH] at h9; exact h9),Fl,ae⟩ aT ae
  ·have aou:YD=jU++Qj n0 0 (es0.map whole):=by rw [<- hi4,bo (by rw [u9]; omega)]; exact (bq _).symm
   refine iF I I<|lj [8] [0,4,12,16,20,24,29,10,34] bI σ fun _ σ=>zN (j:=1) I ae<|vE I (fun η=>aX (i:=n0 - 1) η underlying26 (bn.size) I I ae I σ.dw.1)<|sE I (fun η hg=>bE (i:=n0 - 1) (j:=0) (e:=((n0 - 1:Nat):Int)) η bn I I di aB (hg.pt (j:=1) I).1 ae (AH ae) I)<|eS I<|gV call178 (nj (n:=n0) (j:=0) σ.jr ae) σ I fun _ σ=>sk σ.kn<|?_
   replace σ:=σ.pack 2
   refine eS I<|fk call177 (jC (σ.cF (k:=0) I []) Hj ae) I ?_
   rintro _ _ ⟨A70,X7,n72,rfl,Fm,Iy⟩
   refine ⟨_,I,?_⟩
   replace σ:=σ.kL (k:=0) I Fm
   have TF:=jH (pl n0 0) ((n0 - 1:Nat):Int) (1:Int)
   have Cw:(YD++lq (pl n0 0) ((n0 - 1:Nat):Int) (1:Int)).length=n72:=Iy
   rw [ai,Hj] at Cw
   replace σ:=σ.unpack
   refine sz I<|xq I ae<|ks (fun mz l w=>∃mj:Nat,∃z:Int,∃A5:Option Addr,∃c5:Nat,∃n5:Nat,∃es5:List IE,mj=mz/\l=[(15,aG z),(1,.slice A1 n0 c1),(4,cY de),(5,aM n0),(6,cY eQ)]/\St w0 w [bk eQ #[aM n0,.slice A5 n5 c5,.slice B2 n0 d2] 264,dQ A5 n5 c5 es5,bk de #[aG 0,aG 0,bM,bM] 28] [jD B2 n0 d2 (es0.map whole),fg A1 n0 c1 (nS n0),jD A0 n0 c0 es0]/\z=((mj:Nat):Int) - 1/\mj<=n0 - 1/\es5++Gx n0 (es0.map whole) mj=qC es0/\es5.length=n5/\n5+800*mj<=30000) ⟨(n0 - 1),(((n0:Nat):Int) - (2:Int)),A70,X7,n72,(YD++lq (pl n0 0) ((n0 - 1:Nat):Int) (1:Int)),I,I,σ,ae,(ar _),(by rw [YA cQ ae,aou,mf]; simp only [aH]),Iy,ae⟩ aT ?_
   rintro _ _ _ ⟨mj,z,A5,c5,n5,es5,rfl,rfl,σ,hz,hm,hi5,WB,OH⟩
   refine xo I<|wD (fun h75=>?_) fun h75=>?_
   ·obtain ⟨m2,rfl⟩:∃m2,mj=m2+1:=⟨mj-1,by omega⟩
    obtain rfl:z=((m2:Nat):Int):=ae
    obtain ⟨⟨pa,pb⟩,vQ⟩:∃e,es0[m2]?=some e:=⟨_,ag ae⟩
    refine iT I I<|vE I (fun η=>aX (i:=m2) η underlying26 (bn.size) I I ae I σ.dw.1)<|cE I (fun η=>bE (i:=m2) (j:=0) (e:=((m2:Nat):Int)) η bn I I di aB σ.dw.1 ae (AH ae) I)<|zN (j:=1) I ae<|zN I ae<|?_
    replace σ:=σ.pack 2
    refine eE I<|fk call179 (Yy (pa:=(whole (pa,pb)).1) (pb:=(whole (pa,pb)).2) (k:=m2) (q:=n0 - 1 - m2) (σ.cF (k:=0) I [0]) WB ae u9 hwn Wx ae ae ae (Ni vQ)) I ?_
    rintro _ _ ⟨A76,YF,n78,rfl,TT,YG⟩
    refine ⟨_,I,?_⟩
    replace σ:=σ.kL (k:=0) I TT
    have aow:=MU (n:=n0) (p:=whole (pa,pb)) (k:=((m2:Nat):Int)) (e:=n0 - 1 - m2) ae
    have aey:(es5++Km n0 (whole (pa,pb)) ((m2:Nat):Int) (n0 - 1 - m2)).length=n78:=YG
    rw [ai,WB] at aey
    replace σ:=σ.unpack
    exact xq I ae<|gI ⟨m2,(((m2:Nat):Int) - (1:Int)),A76,YF,n78,(es5++Km n0 (whole (pa,pb)) ((m2:Nat):Int) (n0 - 1 - m2)),I,I,σ,I,ae,(by have h9:=hi5; rw [Gx,aj,Ni vQ,<- aH] at h9; exact h9),YG,ae⟩ aT ae
   ·obtain rfl:mj=0:=ae
    have aox:es5=qC es0:=by rw [<- hi5]; exact (bq _).symm
    refine iF I I<|cmn (i:=3) I ae<|can (j:=1) I ae<|lE 0 σ I<|vE I (fun η=>eV (c:=#[aM n0,aM ((3*n0)+1),.slice A5 n5 c5,bM]) jq η I I)<|eE I<|iR cM σ I fun _ g81 σ=>eE I<|fB 0 σ I fun _ σ=>?_
    replace σ:=(σ.fp dD 3 1)
    refine ks (fun mz l w=>∃v:Nat,∃B6:Option Addr,∃d6:Nat,n0 - v=mz/\l=[(119,aM v),(4,cY de),(6,cY eQ),(16,cY g81),(118,aM n0)]/\St w0 w [bk g81 #[aM n0,aM ((3*n0)+1),.slice A5 n5 c5,.slice B6 v d6] 28,cI B6 v d6 ((List.range v).map (pl n0)),bk eQ #[aM n0,.slice A5 n5 c5,.slice B2 n0 d2] 264,dQ A5 n5 c5 es5,bk de #[aG 0,aG 0,bM,bM] 28] [jD B2 n0 d2 (es0.map whole),fg A1 n0 c1 (nS n0),jD A0 n0 c0 es0]/\v<=n0) ⟨0,none,0,I,I,σ.pick [1,0,2,3,4] [0,1,2] aB,(av _)⟩ aT ?_
    rintro _ _ _ ⟨v,B6,d6,rfl,rfl,σ,hv⟩
    refine il I<|wD (fun Yv=>?_) fun Yv=>?_
    ·refine iT I I<|lj [6,8] [0,5,8,12,18,22,26,28,34] bI σ fun _ σ=>lS 0 I<|eS I<|gV call178 (nj (n:=n0) (j:=v) σ.pI ae) σ I fun _ σ=>sk σ.kn<|eS I<|mi (z:=1) #[aG (pl n0 v)] σ (bn.size) gY I bI fun _ g83 σ=>sk (σ.kd 1 0)<|eS I<|oO (new:=[(pl n0 v)]) 2 0 σ iv I (by unfold maxLen; omega) ae fun _ g84 c85 σ=>sz rfl<|?_
     rw [TS] at σ
     exact eS I<|mK 1 σ I fun _ σ=>sz I<|can (j:=1) I ae<|gI ⟨v+1,(cS g84),c85,I,I,σ.pick [1,2,3,4,5] [0,1,2] aB,ae⟩ aT ae
    ·obtain rfl:n0=v:=ae
     exact iF I I<|gE 0 σ I<|eE I<|fB 4 σ I fun _ σ=>oR (fun e=>iJ results132 (RV.cell e bC I (σ.pV (k:=4) I) I))<|by rw [<- aox]; exact ⟨_,_,_,_,_,rfl,σ.pick [3,1] [] aB,WB⟩
section
variable {P:Program} {X:Cx P} {w w0:World} {l:List (Nat×Value)} {own ps:List PF} {d:Nat} {x y:Operand} {C:World->List (Nat×Value)->Prop} {q:Value->Bool} {t T E n z c c0:Nat} {A B:Option Addr} {vs:List Value}
theorem aZE (j:Nat) (hs:St w0 w own ps) (hE:∃i,P.info? E=some i/\i.size=z) (e:(Nat.blt d X.N,X.T.ty t,eB l x,eB l y,own[j]?)=(true,.sl E,some (.slice A n c0),some (.slice B 0 c),some (fc q E z A n c0 vs))) (h:C w ((d,.slice A n c0)::l)):WE X w l (.call ⟨.builtin .append,#[x,y],#[t,t]⟩) (some d) C:=by
 have ht:=X.T.tyOk t
 simp only [cP] at e
 obtain ⟨e1,e2,e3,e4,e5⟩:=e
 rw [e2] at ht
 exact ⟨fun h1 hC=>G' h1 hs e1 ht.2 hE e3 e4 e5 fun a' h'=>hC a' w _ h h'⟩
theorem b0E (z:Nat) (hs:St w0 w own ps) (hE:∃i,P.info? E=some i/\i.size=z) (e:(Nat.blt d X.N,X.T.ty T)=(true,.sl E)) (h:∀w' g,St w0 w' (fc dD E z (cS g) 0 0 []::own) ps->C w' ((d,.slice (cS g) 0 0)::l)):WE X w l (.buildSlice T 0 #[]) (some d) C:=by
 have ht:=X.T.tyOk T
 simp only [cP] at e
 obtain ⟨e1,e2⟩:=e
 rw [e2] at ht
 exact ⟨fun h1 hC=>uA h1 hs e1 ht.2 hE fun a' w' g h' rR=>hC a' w' _ (h w' g (rR.RQ (k:=0) I z)) h'⟩
end
theorem Fu {α:Type} {es fs:List α} (h:∀x,x<j->es[x]?=fs[x]?) (he:es[j]?=fs[j]?):∀x,x<j+1->es[x]?=fs[x]?:=fun x hx=>by
 rcases aV x j with c | c
 ·exact h x c
 ·obtain rfl:x=j:=ae
  exact he
theorem KT {α:Type} {es fs:List α} (h1:es.length=n) (h2:fs.length=n) (h:∀x,x<n->es[x]?=fs[x]?):es=fs:=dG fun i=>by
 rcases aV i n with c | c
 ·exact h i c
 ·rw [bg ae,bg ae]
theorem tu {g:Int} (h:gl (op,tr,ra,rb,cn) g):∀x∈gx op ra rb,0<=x/\x<g:=fun x hx=>by
 unfold gl at h
 dsimp only at h
 unfold gx at hx
 split at hx
 ·rcases bf.1 hx with rfl | hx
  ·omega
  ·rw [aL.1 hx]; omega
 ·split at hx
  ·rw [aL.1 hx]; omega
  ·cases hx
theorem St.Gx {own:List PF} {α:Type} {f:α->List Value} {c:Array Value} {E:TypeId} {es:List α} (h:St w0 w own ps) (hk:own[k]?=some (bk g c E)) (hc:c.toList=fl f es) (hz:∀e,(f e).length=1) (hl:es.length=n) (hm:n<=maxLen) (hq:c.toList.all dD=true):St w0 w (own.set k (fc dD E 1 (cS g) n n (fl f es))) ps:=by
 have hg:=h.pV hk
 have qZ:c.size=n:=by rw [<- dV,hc,mq hz,hl,gH]
 refine h.pH hk ⟨⟨?_,.inr ⟨g,n,c,I,av _,hg,ar _,hm,by omega,?_⟩⟩,fun g' vg=>?_⟩ (fun b hb=>.inl ?_) I I I (ar _) fun _ _ _=>I
 ·rw [mq hz,hl]
 ·rw [hc,ax (by rw [mq hz,hl]; exact ar _)]
 ·obtain rfl:g=g':=by simpa [Value.ownBlock] using vg
  exact ⟨c,hg,hq⟩
 ·obtain ⟨a,ha,rfl⟩:=ng hb
  cases ha
  rfl
theorem abg (l:List Int):(fl fI l).all (·.oneCell')=true/\(fl fI l).all dD=true:=by
 induction l with
 | nil=>exact ⟨rfl,rfl⟩
 | cons x l ih=>exact ⟨ih.1,ih.2⟩
theorem abh (l:List IE):(fl fJ l).all (·.oneCell')=true/\(fl fJ l).all dD=true:=by
 induction l with
 | nil=>exact ⟨rfl,rfl⟩
 | cons x l ih=>exact ⟨ih.1,ih.2⟩
theorem aez:
  Calls prog 119 #[aG op] w0 fun e w'=>e=.returned (.bool (decide (op=3∨op=4)))/\Below w0.heap.size w0 w':=by
 refine gQ func119 I ntmps119 I fun σ=>gj I<|wQ (fun lC=>?_) fun lC=>?_
 ·exact o1 results119 I<|⟨aq (fun b=>Ending.returned (Value.bool b)) (eI.2 (by simp; try omega)),σ.below⟩
 ·exact gj I<|o1 results119 I<|⟨aq (fun b=>Ending.returned (Value.bool b)) (eI.2 (by simp; try omega)),σ.below⟩
theorem zp {g:Int} (hM:gl (op,tr,ra,rb,cn) g):
  Calls prog 120 #[.agg #[aG op,aG tr,aG ra,aG rb,aG cn]] w0 fun e w'=>e=.returned (.bool true)/\Below w0.heap.size w0 w':=by
 unfold gl at hM
 dsimp only at hM
 have Xf:=hM
 refine gQ func120 I ntmps120 I fun σ=>eE I<|ll σ I fun _ de σ=>lE 0 σ I<|gj I<|wQ (fun mX=>?_) fun mX=>?_
 ·exact iT I I<|iT I I<|lE 0 σ I<|lK I<|kB (b':=true) (bne_iff_ne.2 ae)<|lE 0 σ I<|xo I<|kB (b':=true) (a8 ae)<|lE 0 σ I<|Dn I<|o1 results120 I<|⟨aq (fun b=>Ending.returned (Value.bool b)) (a8 ae),σ.below⟩
 ·refine iF I I<|gj I<|wQ (fun oL=>?_) fun oL=>?_
  ·exact iT I I<|lE 0 σ I<|lK I<|kB (b':=true) (bne_iff_ne.2 ae)<|lE 0 σ I<|xo I<|kB (b':=true) (a8 ae)<|lE 0 σ I<|Dn I<|o1 results120 I<|⟨aq (fun b=>Ending.returned (Value.bool b)) (a8 ae),σ.below⟩
  ·refine iF I I<|gj I<|wQ (fun rP=>?_) fun rP=>?_
   ·exact iT I I<|iT I I<|lE 0 σ I<|xo I<|kB (b':=true) (a8 ae)<|lE 0 σ I<|Dn I<|o1 results120 I<|⟨aq (fun b=>Ending.returned (Value.bool b)) (a8 ae),σ.below⟩
   ·refine iF I I<|gj I<|wQ (fun sI=>?_) fun sI=>?_
    ·exact iT I I<|lE 0 σ I<|xo I<|kB (b':=true) (a8 ae)<|lE 0 σ I<|Dn I<|o1 results120 I<|⟨aq (fun b=>Ending.returned (Value.bool b)) (a8 ae),σ.below⟩
    ·exact iF I I<|lE 0 σ I<|gj I<|o1 results120 I<|⟨aq (fun b=>Ending.returned (Value.bool b)) (eA.2 ae),σ.below⟩
theorem qv (h18:1<=op/\op<=8):
  Calls prog 121 #[.agg #[aG op,aG tr,aG ra,aG rb,aG cn]] w0 fun e w'=>∃A c n,e=.returned (.slice A n c)/\St w0 w' [cI A n c (gx op ra rb)] []/\(gx op ra rb).length=n:=by
 refine gQ func121 I ntmps121 I fun σ=>eE I<|ll σ I fun _ de σ=>lE 0 σ I<|gj I<|wQ (fun mX=>?_) fun mX=>?_
 ·refine iT I I<|iT I I<|lE 0 σ I<|lE 0 σ I<|eE I<|mi (z:=1) #[aG ra,aG rb] σ (bn.size) gY I bI fun _ jh σ=>o1 results121 I<|?_
  replace σ:=σ.Gx (f:=fI) (k:=0) (n:=2) (es:=[ra,rb]) I I di I aB I
  exact by rw [show gx op ra rb=[ra,rb] by unfold gx; rw [au ae]]; exact ⟨_,_,_,rfl,σ.pick [0] [] aB,rfl⟩
 ·refine iF I I<|gj I<|wQ (fun rP=>?_) fun rP=>?_
  ·refine iT I I<|lE 0 σ I<|lE 0 σ I<|eE I<|mi (z:=1) #[aG ra,aG rb] σ (bn.size) gY I bI fun _ sf σ=>o1 results121 I<|?_
   replace σ:=σ.Gx (f:=fI) (k:=0) (n:=2) (es:=[ra,rb]) I I di I aB I
   exact by rw [show gx op ra rb=[ra,rb] by unfold gx; rw [au ae]]; exact ⟨_,_,_,rfl,σ.pick [0] [] aB,rfl⟩
  ·refine iF I I<|gj I<|wQ (fun wU=>?_) fun wU=>?_
   ·refine iT I I<|iT I I<|lE 0 σ I<|eE I<|mi (z:=1) #[aG ra] σ (bn.size) gY I bI fun _ xW σ=>o1 results121 I<|?_
    replace σ:=σ.Gx (f:=fI) (k:=0) (n:=1) (es:=[ra]) I I di I aB I
    exact by rw [show gx op ra rb=[ra] by unfold gx; rw [ak ae,au ae]]; exact ⟨_,_,_,rfl,σ.pick [0] [] aB,rfl⟩
   ·refine iF I I<|gj I<|wQ (fun tt=>?_) fun tt=>?_
    ·refine iT I I<|iT I I<|lE 0 σ I<|eE I<|mi (z:=1) #[aG ra] σ (bn.size) gY I bI fun _ tU σ=>o1 results121 I<|?_
     replace σ:=σ.Gx (f:=fI) (k:=0) (n:=1) (es:=[ra]) I I di I aB I
     exact by rw [show gx op ra rb=[ra] by unfold gx; rw [ak ae,au ae]]; exact ⟨_,_,_,rfl,σ.pick [0] [] aB,rfl⟩
    ·refine iF I I<|gj I<|wQ (fun wh=>?_) fun wh=>?_
     ·refine iT I I<|iT I I<|lE 0 σ I<|eE I<|mi (z:=1) #[aG ra] σ (bn.size) gY I bI fun _ D8 σ=>o1 results121 I<|?_
      replace σ:=σ.Gx (f:=fI) (k:=0) (n:=1) (es:=[ra]) I I di I aB I
      exact by rw [show gx op ra rb=[ra] by unfold gx; rw [ak ae,au ae]]; exact ⟨_,_,_,rfl,σ.pick [0] [] aB,rfl⟩
     ·refine iF I I<|gj I<|wQ (fun KO=>?_) fun KO=>?_
      ·refine iT I I<|iT I I<|lE 0 σ I<|eE I<|mi (z:=1) #[aG ra] σ (bn.size) gY I bI fun _ Qp σ=>o1 results121 I<|?_
       replace σ:=σ.Gx (f:=fI) (k:=0) (n:=1) (es:=[ra]) I I di I aB I
       exact by rw [show gx op ra rb=[ra] by unfold gx; rw [ak ae,au ae]]; exact ⟨_,_,_,rfl,σ.pick [0] [] aB,rfl⟩
      ·refine iF I I<|gj I<|wQ (fun JG=>?_) fun JG=>?_
       ·refine iT I I<|iT I I<|lE 0 σ I<|eE I<|mi (z:=1) #[aG ra] σ (bn.size) gY I bI fun _ Nj σ=>o1 results121 I<|?_
        replace σ:=σ.Gx (f:=fI) (k:=0) (n:=1) (es:=[ra]) I I di I aB I
        exact by rw [show gx op ra rb=[ra] by unfold gx; rw [ak ae,au ae]]; exact ⟨_,_,_,rfl,σ.pick [0] [] aB,rfl⟩
       ·refine iF I I<|gj I<|wQ (fun h66=>?_) fun h66=>?_
        ·refine iT I I<|lE 0 σ I<|eE I<|mi (z:=1) #[aG ra] σ (bn.size) gY I bI fun _ g67 σ=>o1 results121 I<|?_
         replace σ:=σ.Gx (f:=fI) (k:=0) (n:=1) (es:=[ra]) I I di I aB I
         exact by rw [show gx op ra rb=[ra] by unfold gx; rw [ak ae,au ae]]; exact ⟨_,_,_,rfl,σ.pick [0] [] aB,rfl⟩
        ·omega
theorem aeB {g:Int} (hM:gl (op,tr,ra,rb,cn) g):
  Calls prog 78 #[.agg #[aG op,aG tr,aG ra,aG rb,aG cn],aG g] w0 fun e w'=>e=.returned (.bool true)/\Below w0.heap.size w0 w':=by
 have hM9:=hM
 unfold gl at hM
 dsimp only at hM
 have Xf:=hM
 refine gQ func78 I ntmps78 I fun σ=>eE I<|ll σ I fun _ de σ=>lE 0 σ I<|il I<|kB (b':=false) (aC ae)<|lE 0 σ I<|sG I<|kB (b':=false) (aC ae)<|lE 0 σ I<|il I<|kB (b':=false) (aC ae)<|lE 0 σ I<|xo I<|kB (b':=false) (aC ae)<|lE 0 σ I<|eE I<|gV call119 (aez (op:=op)) σ I fun _ σ=>wD (fun mX=>?_) fun mX=>?_
 ·refine gE 0 σ I<|eE I<|gV call120 (zp hM9) σ I fun _ σ=>iF I I<|gE 0 σ I<|eE I<|fk call121 (qv (op:=op) (tr:=tr) (ra:=ra) (rb:=rb) (cn:=cn) ae) I ?_
  rintro _ _ ⟨si,rk,n55,rfl,tp,zP⟩
  refine ⟨_,I,?_⟩
  replace σ:=σ.more tp
  have TQ:=ox op ra rb
  refine ks (fun mz l w=>∃j:Nat,n55 - j=mz/\l=[(45,aM j),(1,aG g),(43,.slice si n55 rk),(44,aM n55)]/\St w0 w [cI si n55 rk (gx op ra rb),bk de #[aG op,aG tr,aG ra,aG rb,aG cn] 116] []/\j<=n55) ⟨0,I,I,σ,(av _)⟩ aT ?_
  rintro _ _ _ ⟨j,rfl,rfl,σ,hj⟩
  refine il I<|wD (fun wX=>?_) fun wX=>?_
  ·have fh:j<n55:=ae
   obtain ⟨x,eG⟩:∃e,(gx op ra rb)[j]?=some e:=⟨_,ag ae⟩
   have hx:=tu hM9 x (ah eG)
   exact iT I I<|vE I (fun η=>aX (i:=j) η underlying26 (bn.size) I I ae I (aZ σ.jr))<|cE I (fun η=>bE (i:=j) (j:=0) (e:=x) η bn I I di aB (aZ σ.jr) ae eG I)<|il I<|kB (b':=false) (aC ae)<|xo I<|kB (b':=false) (aC ae)<|iF I I<|can (j:=1) I ae<|gI ⟨j+1,I,I,σ,ae⟩ aT ae
  ·exact iF I I<|o1 results78 I<|⟨I,σ.below⟩
 ·refine lE 0 σ I<|lK I<|kB (b':=false) (bne_eq_false_iff_eq.2 ae)<|gE 0 σ I<|eE I<|gV call120 (zp hM9) σ I fun _ σ=>iF I I<|gE 0 σ I<|eE I<|fk call121 (qv (op:=op) (tr:=tr) (ra:=ra) (rb:=rb) (cn:=cn) ae) I ?_
  rintro _ _ ⟨Cz,xv,n62,rfl,KF,awC⟩
  refine ⟨_,I,?_⟩
  replace σ:=σ.more KF
  have aoA:=ox op ra rb
  refine ks (fun mz l w=>∃j:Nat,n62 - j=mz/\l=[(45,aM j),(1,aG g),(43,.slice Cz n62 xv),(44,aM n62)]/\St w0 w [cI Cz n62 xv (gx op ra rb),bk de #[aG op,aG tr,aG ra,aG rb,aG cn] 116] []/\j<=n62) ⟨0,I,I,σ,(av _)⟩ aT ?_
  rintro _ _ _ ⟨j,rfl,rfl,σ,hj⟩
  refine il I<|wD (fun h66=>?_) fun h66=>?_
  ·have fh:j<n62:=ae
   obtain ⟨x,eG⟩:∃e,(gx op ra rb)[j]?=some e:=⟨_,ag ae⟩
   have hx:=tu hM9 x (ah eG)
   exact iT I I<|vE I (fun η=>aX (i:=j) η underlying26 (bn.size) I I ae I (aZ σ.jr))<|cE I (fun η=>bE (i:=j) (j:=0) (e:=x) η bn I I di aB (aZ σ.jr) ae eG I)<|il I<|kB (b':=false) (aC ae)<|xo I<|kB (b':=false) (aC ae)<|iF I I<|can (j:=1) I ae<|gI ⟨j+1,I,I,σ,ae⟩ aT ae
  ·exact iF I I<|o1 results78 I<|⟨I,σ.below⟩
structure mv (i g:Int) (n0 n1:Nat) (es:List IE) (os:List Int):Prop where
 i1:1<=i/\i<=g/\g<=128
 ln:n0<=16384/\1<=n1/\n1<=128
 may:∀e∈es,gl e g
 out:∀r∈os,0<=r/\r<g
theorem kR {i g:Int} (h0:(fC A0 n0 c0 es0).P w0) (h1:(fg A1 n1 c1 es1).P w0) (dy:mv i g n0 n1 es0 es1):
  Calls prog 41 #[.agg #[aG i,aG g,.slice A0 n0 c0,.slice A1 n1 c1]] w0 fun e w'=>e=.returned (.tuple #[aG 0,aG 0])/\Below w0.heap.size w0 w':=by
 have k1:=dy.i1
 have k2:=dy.ln
 refine gQ func41 I ntmps41 I fun σ=>?_
 have cQ:=h0.2.1
 have lu:=h0.1.cap
 have eN:=h0.1.big
 unfold maxLen at eN
 have iI:=h1.2.1
 have oI:=h1.1.cap
 have jB:=h1.1.big
 unfold maxLen at jB
 replace σ:=σ.aY h0
 replace σ:=σ.aY h1
 refine eE I<|ll σ I fun _ de σ=>lE 0 σ I<|il I<|kB (b':=false) (aC ae)<|lE 0 σ I<|lE 0 σ I<|sG I<|kB (b':=false) (aC ae)<|lE 0 σ I<|sG I<|kB (b':=false) (aC ae)<|lE 0 σ I<|sG I<|kB (b':=false) (aC ae)<|lE 0 σ I<|il I<|kB (b':=false) (aC ae)<|lE 0 σ I<|sG I<|kB (b':=false) (aC ae)<|iF I I<|lE 0 σ I<|ks (fun mz l w=>∃j:Nat,n1 - j=mz/\l=[(44,aM j),(1,cY de),(42,.slice A1 n1 c1),(43,aM n1)]/\St w0 w [bk de #[aG i,aG g,.slice A0 n0 c0,.slice A1 n1 c1] 28] [fg A1 n1 c1 es1,fC A0 n0 c0 es0]/\j<=n1) ⟨0,I,I,σ,(av _)⟩ aT ?_
 rintro _ _ _ ⟨j,rfl,rfl,σ,hj⟩
 refine il I<|wD (fun mX=>?_) fun mX=>?_
 ·have fh:j<n1:=ae
  obtain ⟨x,eG⟩:∃e,es1[j]?=some e:=⟨_,ag ae⟩
  have hx:=dy.out x (ah eG)
  exact iT I I<|vE I (fun η=>aX (i:=j) η underlying26 (bn.size) I I ae I σ.bW.1)<|cE I (fun η=>bE (i:=j) (j:=0) (e:=x) η bn I I di aB σ.bW.1 ae eG I)<|il I<|kB (b':=false) (aC ae)<|lE 0 σ I<|xo I<|kB (b':=false) (aC ae)<|iF I I<|can (j:=1) I ae<|gI ⟨j+1,I,I,σ,ae⟩ aT ae
 ·refine iF I I<|lE 0 σ I<|ks (fun mz l w=>∃k:Nat,n0 - k=mz/\l=[(60,aM k),(1,cY de),(58,.slice A0 n0 c0),(59,aM n0)]/\St w0 w [bk de #[aG i,aG g,.slice A0 n0 c0,.slice A1 n1 c1] 28] [fg A1 n1 c1 es1,fC A0 n0 c0 es0]/\k<=n0) ⟨0,I,I,σ,(av _)⟩ aT ?_
  rintro _ _ _ ⟨k,rfl,rfl,σ,hk⟩
  refine il I<|wD (fun oL=>?_) fun oL=>?_
  ·have fh:k<n0:=ae
   obtain ⟨⟨op,tr,ra,rb,cn⟩,kf⟩:∃e,es0[k]?=some e:=⟨_,ag ae⟩
   have hM:=dy.may _ (ah kf)
   exact iT I I<|vE I (fun η=>aX (i:=k) η underlying25 (aF.size) I I ae I σ.dw.1)<|cE I (fun η=>cX (v:=#[aG op,aG tr,aG ra,aG rb,aG cn]) (i:=k) (e:=(op,tr,ra,rb,cn)) η aF I I lL σ.dw.1 ae kf I)<|eE I<|iR bm σ I fun _ jY σ=>eE I<|fB 0 σ I fun _ σ=>gE 0 σ I<|lE 1 σ I<|eE I<|gV call78 (aeB hM) σ I fun _ σ=>iF I I<|can (j:=1) I ae<|gI ⟨k+1,I,I,σ.pick [1] [0,1] aB,ae⟩ aT ae
  ·exact iF I I<|o2 results41 I<|⟨I,σ.below⟩
theorem aeC {es1:List IE} (h0:(fC A0 n0 c0 es0).P w0) (h1:(fC A1 n1 c1 es1).P w0):
  Calls prog 66 #[.slice A0 n0 c0,.slice A1 n1 c1] w0 fun e w'=>e=.returned (.bool (decide (es0=es1)))/\Below w0.heap.size w0 w':=by
 refine gQ func66 I ntmps66 I fun σ=>?_
 have cQ:=h0.2.1
 have lu:=h0.1.cap
 have eN:=h0.1.big
 unfold maxLen at eN
 have iI:=h1.2.1
 have oI:=h1.1.cap
 have jB:=h1.1.big
 unfold maxLen at jB
 replace σ:=σ.aY h0
 replace σ:=σ.aY h1
 refine lK I<|wN (fun lC=>?_) fun lC=>?_
 ·exact iT I I<|o1 results66 I<|⟨aq (fun b=>Ending.returned (Value.bool b)) (aC fun q=>by rw [q] at cQ; omega).symm,σ.below⟩
 ·obtain rfl:n0=n1:=ae
  refine iF I I<|ks (fun mz l w=>∃j:Nat,n0 - j=mz/\l=[(13,aM j),(0,.slice A0 n0 c0),(1,.slice A1 n0 c1),(12,aM n0)]/\St w0 w [] [fC A1 n0 c1 es1,fC A0 n0 c0 es0]/\j<=n0/\∀x,x<j->es0[x]?=es1[x]?) ⟨0,I,I,σ,(av _),(fun _ h=>absurd h (dB _))⟩ aT ?_
  rintro _ _ _ ⟨j,rfl,rfl,σ,hj,hq⟩
  refine il I<|wD (fun mX=>?_) fun mX=>?_
  ·have fh:j<n0:=ae
   obtain ⟨⟨oa,ta,aa,ba,ca⟩,eG⟩:∃e,es0[j]?=some e:=⟨_,ag ae⟩
   obtain ⟨⟨ob,tb,ab_,bb,cb⟩,kf⟩:∃e,es1[j]?=some e:=⟨_,ag ae⟩
   refine iT I I<|lj [] [0,4,8,13,16,20,24,29,32] bI σ fun _ σ=>vE I (fun η=>aX (i:=j) η underlying25 (aF.size) I I ae I σ.dw.1)<|sE I (fun η hg=>cX (v:=#[aG oa,aG ta,aG aa,aG ba,aG ca]) (i:=j) (e:=(oa,ta,aa,ba,ca)) η aF I I lL (hg.pt (j:=1) I).1 ae eG I)<|vE I (fun η=>aX (i:=j) η underlying25 (aF.size) I I ae I σ.bW.1)<|sE I (fun η hg=>cX (v:=#[aG ob,aG tb,aG ab_,aG bb,aG cb]) (i:=j) (e:=(ob,tb,ab_,bb,cb)) η aF I I lL (hg.pt (j:=0) I).1 ae kf I)<|vE I (fun η=>L7 [oa,ta,aa,ba,ca] [ob,tb,ab_,bb,cb] η acO I I I I)<|wB (fun oL=>?_) fun oL=>?_
   ·exact iT I I<|o1 results66 I<|⟨aq (fun b=>Ending.returned (Value.bool b)) (aC fun q=>by rw [q,kf] at eG; cases eG; exact absurd oL fW).symm,σ.below⟩
   ·have hdd:oa=ob/\ta=tb/\aa=ab_/\ba=bb/\ca=cb:=by simpa using oL
    exact iF I I<|can (j:=1) I ae<|gI ⟨j+1,I,I,σ,ae,(Fu hq (by rw [eG,kf]; obtain ⟨rfl,rfl,rfl,rfl,rfl⟩:=hdd; rfl))⟩ aT ae
  ·exact iF I I<|o1 results66 I<|⟨aq (fun b=>Ending.returned (Value.bool b)) (a8 (KT cQ iI fun x hx=>hq x ae)).symm,σ.below⟩
theorem TU {es0:List Int} (h0:(fg A0 n0 c0 es0).P w0) (h1:(fg A1 n1 c1 es1).P w0):
  Calls prog 67 #[.slice A0 n0 c0,.slice A1 n1 c1] w0 fun e w'=>e=.returned (.bool (decide (es0=es1)))/\Below w0.heap.size w0 w':=by
 refine gQ func67 I ntmps67 I fun σ=>?_
 have cQ:=h0.2.1
 have lu:=h0.1.cap
 have eN:=h0.1.big
 unfold maxLen at eN
 have iI:=h1.2.1
 have oI:=h1.1.cap
 have jB:=h1.1.big
 unfold maxLen at jB
 replace σ:=σ.aY h0
 replace σ:=σ.aY h1
 refine lK I<|wN (fun lC=>?_) fun lC=>?_
 ·exact iT I I<|o1 results67 I<|⟨aq (fun b=>Ending.returned (Value.bool b)) (aC fun q=>by rw [q] at cQ; omega).symm,σ.below⟩
 ·obtain rfl:n0=n1:=ae
  refine iF I I<|ks (fun mz l w=>∃j:Nat,n0 - j=mz/\l=[(13,aM j),(0,.slice A0 n0 c0),(1,.slice A1 n0 c1),(12,aM n0)]/\St w0 w [] [fg A1 n0 c1 es1,fg A0 n0 c0 es0]/\j<=n0/\∀x,x<j->es0[x]?=es1[x]?) ⟨0,I,I,σ,(av _),(fun _ h=>absurd h (dB _))⟩ aT ?_
  rintro _ _ _ ⟨j,rfl,rfl,σ,hj,hq⟩
  refine il I<|wD (fun mX=>?_) fun mX=>?_
  ·have fh:j<n0:=ae
   obtain ⟨xa,eG⟩:∃e,es0[j]?=some e:=⟨_,ag ae⟩
   obtain ⟨xb,kf⟩:∃e,es1[j]?=some e:=⟨_,ag ae⟩
   refine iT I I<|lj [] [0,4,8,13,16,20,24,29,32] bI σ fun _ σ=>vE I (fun η=>aX (i:=j) η underlying26 (bn.size) I I ae I σ.dw.1)<|sE I (fun η hg=>bE (i:=j) (j:=0) (e:=xa) η bn I I di aB (hg.pt (j:=1) I).1 ae eG I)<|vE I (fun η=>aX (i:=j) η underlying26 (bn.size) I I ae I σ.bW.1)<|sE I (fun η hg=>bE (i:=j) (j:=0) (e:=xb) η bn I I di aB (hg.pt (j:=0) I).1 ae kf I)<|lK I<|wN (fun oL=>?_) fun oL=>?_
   ·exact iT I I<|o1 results67 I<|⟨aq (fun b=>Ending.returned (Value.bool b)) (aC fun q=>by rw [q,kf] at eG; cases eG; omega).symm,σ.below⟩
   ·exact iF I I<|can (j:=1) I ae<|gI ⟨j+1,I,I,σ,ae,(Fu hq (by rw [eG,kf]; rw [show xa=xb by omega]))⟩ aT ae
  ·exact iF I I<|o1 results67 I<|⟨aq (fun b=>Ending.returned (Value.bool b)) (a8 (KT cQ iI fun x hx=>hq x ae)).symm,σ.below⟩
theorem IG (h0:(fC none 0 c0 es0).P w0):
  Calls prog 93 #[.slice none 0 c0] w0 fun e w'=>∃A c,e=.returned (.slice A 0 c)/\St w0 w' [dQ A 0 c es0] []:=by
 refine gQ func93 I ntmps93 I fun σ=>?_
 have cQ:=h0.2.1
 replace σ:=σ.aY h0
 refine vE I (fun η=>pq η underlying25 I)<|iT I I<|o1 results93 I<|?_
 obtain rfl:es0=[]:=dc cQ
 replace σ:=(σ.fp dD 116 5)
 exact ⟨_,_,I,σ.pick [0] [] aB⟩
theorem IH (h0:(fC (some a0) 0 c0 es0).P w0):
  Calls prog 93 #[.slice (some a0) 0 c0] w0 fun e w'=>∃A c,e=.returned (.slice A 0 c)/\St w0 w' [dQ A 0 c es0] []:=by
 refine gQ func93 I ntmps93 I fun σ=>?_
 have cQ:=h0.2.1
 replace σ:=σ.aY h0
 refine vE I (fun η=>pq η underlying25 I)<|iF I I<|eE I<|b0E 5 σ (aF.size) I fun _ de σ=>?_
 refine eE I<|aZE 0 σ (aF.size) I<|o1 results93 I<|?_
 obtain rfl:es0=[]:=dc cQ
 exact ⟨_,_,I,σ.pick [0] [] aB⟩
theorem II (h0:(fC (some a0) n0 c0 es0).P w0) (hp:0<n0) (hn:n0<=100000):
  Calls prog 93 #[.slice (some a0) n0 c0] w0 fun e w'=>∃A c,e=.returned (.slice A n0 c)/\St w0 w' [dQ A n0 c es0] []:=by
 refine gQ func93 I ntmps93 I fun σ=>?_
 have cQ:=h0.2.1
 replace σ:=σ.aY h0
 refine vE I (fun η=>pq η underlying25 I)<|iF I I<|eE I<|b0E 5 σ (aF.size) I fun _ de σ=>?_
 replace σ:St w0 _ [dQ (cS de) 0 0 ([]:List IE)] [fC (some a0) n0 c0 es0]:=σ
 refine eE I<|aRE 0 σ dK σ.bW.1 (abh _).1 (abh _).2 I ae (by unfold maxLen; omega) ae fun _ eQ wW σ=>o1 results93 rfl<|?_
 rw [bD,cJ] at σ
 exact by rw [bD]; exact ⟨_,_,rfl,σ.pick [0] [] aB⟩
theorem Pm (h0:(fC A0 n0 c0 es0).P w0) (hn:n0<=100000):
  Calls prog 93 #[.slice A0 n0 c0] w0 fun e w'=>∃A c,e=.returned (.slice A n0 c)/\St w0 w' [dQ A n0 c es0] []:=by
 cases A0 with
 | none=>
  obtain rfl:n0=0:=xL h0 rfl
  exact IG h0
 | some a0=>
  rcases bu n0 with rfl | hp
  ·exact IH h0
  ·exact II h0 hp hn
theorem IJ {es0:List Int} (h0:(fg none 0 c0 es0).P w0):
  Calls prog 94 #[.slice none 0 c0] w0 fun e w'=>∃A c,e=.returned (.slice A 0 c)/\St w0 w' [cI A 0 c es0] []:=by
 refine gQ func94 I ntmps94 I fun σ=>?_
 have cQ:=h0.2.1
 replace σ:=σ.aY h0
 refine vE I (fun η=>pq η underlying26 I)<|iT I I<|o1 results94 I<|?_
 obtain rfl:es0=[]:=dc cQ
 replace σ:=(σ.fp dD 3 1)
 exact ⟨_,_,I,σ.pick [0] [] aB⟩
theorem IK {es0:List Int} (h0:(fg (some a0) 0 c0 es0).P w0):
  Calls prog 94 #[.slice (some a0) 0 c0] w0 fun e w'=>∃A c,e=.returned (.slice A 0 c)/\St w0 w' [cI A 0 c es0] []:=by
 refine gQ func94 I ntmps94 I fun σ=>?_
 have cQ:=h0.2.1
 replace σ:=σ.aY h0
 refine vE I (fun η=>pq η underlying26 I)<|iF I I<|eE I<|b0E 1 σ (bn.size) I fun _ de σ=>?_
 refine eE I<|aZE 0 σ (bn.size) I<|o1 results94 I<|?_
 obtain rfl:es0=[]:=dc cQ
 exact ⟨_,_,I,σ.pick [0] [] aB⟩
theorem IL {es0:List Int} (h0:(fg (some a0) n0 c0 es0).P w0) (hp:0<n0) (hn:n0<=100000):
  Calls prog 94 #[.slice (some a0) n0 c0] w0 fun e w'=>∃A c,e=.returned (.slice A n0 c)/\St w0 w' [cI A n0 c es0] []:=by
 refine gQ func94 I ntmps94 I fun σ=>?_
 have cQ:=h0.2.1
 replace σ:=σ.aY h0
 refine vE I (fun η=>pq η underlying26 I)<|iF I I<|eE I<|b0E 1 σ (bn.size) I fun _ de σ=>?_
 replace σ:St w0 _ [cI (cS de) 0 0 ([]:List Int)] [fg (some a0) n0 c0 es0]:=σ
 refine eE I<|aRE 0 σ iv σ.bW.1 (abg _).1 (abg _).2 I ae (by unfold maxLen; omega) ae fun _ eQ wW σ=>o1 results94 rfl<|?_
 rw [bD,cJ] at σ
 exact by rw [bD]; exact ⟨_,_,rfl,σ.pick [0] [] aB⟩
theorem yP {es0:List Int} (h0:(fg A0 n0 c0 es0).P w0) (hn:n0<=100000):
  Calls prog 94 #[.slice A0 n0 c0] w0 fun e w'=>∃A c,e=.returned (.slice A n0 c)/\St w0 w' [cI A n0 c es0] []:=by
 cases A0 with
 | none=>
  obtain rfl:n0=0:=xL h0 rfl
  exact IJ h0
 | some a0=>
  rcases bu n0 with rfl | hp
  ·exact IK h0
  ·exact IL h0 hp hn
theorem rC {i g:Int} (h0:(fC A0 n0 c0 es0).P w0) (h1:(fg A1 n1 c1 es1).P w0) (pJ:n0<=100000) (Wp:n1<=100000):
  Calls prog 50 #[.agg #[aG i,aG g,.slice A0 n0 c0,.slice A1 n1 c1]] w0 fun e w'=>∃A c B d,e=.returned (.agg #[aG i,aG g,.slice A n0 c,.slice B n1 d])/\St w0 w' [dQ A n0 c es0,cI B n1 d es1] []:=by
 refine gQ func50 I ntmps50 I fun σ=>?_
 have cQ:=h0.2.1
 have lu:=h0.1.cap
 have eN:=h0.1.big
 unfold maxLen at eN
 have iI:=h1.2.1
 have oI:=h1.1.cap
 have jB:=h1.1.big
 unfold maxLen at jB
 replace σ:=σ.aY h0
 replace σ:=σ.aY h1
 refine eE I<|ll σ I fun _ de σ=>eE I<|iR cM σ I fun _ eQ σ=>lj [7,9] [0,5,12,17,10,24,22,30,32,38] bI σ fun _ σ=>lS 1 I<|lS 1 I<|eS I<|fk call93 (Pm σ.dw ae) I ?_
 rintro _ _ ⟨si,rk,rfl,CG⟩
 refine ⟨_,I,?_⟩
 replace σ:=σ.more CG
 refine sk (σ.kd 1 0)<|eS I<|fk call94 (yP σ.bW ae) I ?_
 rintro _ _ ⟨A57,KD,rfl,CD⟩
 refine ⟨_,I,?_⟩
 replace σ:=σ.more CD
 exact sk (σ.kd 2 0)<|eS I<|mK 3 σ I fun _ σ=>sz I<|eS I<|mK 3 σ I fun _ σ=>sz I<|gE 3 σ I<|eE I<|fB 2 σ I fun _ σ=>oR (fun e=>iJ results50 (RV.cell e bC I σ.EC I))<|⟨_,_,_,_,I,σ.pick [1,0] [] aB⟩
theorem Nk {i g:Int} {A3:Option Addr} {n3 c3:Nat} {jU:List IE} {C6:List Int} (h0:(fC A0 n0 c0 es0).P w0) (h1:(fg A1 n1 c1 es1).P w0) (h2:(fC A2 n2 c2 jU).P w0) (h3:(fg A3 n3 c3 C6).P w0):
  Calls prog 38 #[.agg #[aG i,aG g,.slice A0 n0 c0,.slice A1 n1 c1],.agg #[aG i,aG g,.slice A2 n2 c2,.slice A3 n3 c3]] w0 fun e w'=>e=.returned (.bool (decide (es0=jU) && decide (es1=C6)))/\Below w0.heap.size w0 w':=by
 refine gQ func38 I ntmps38 I fun σ=>?_
 have cQ:=h0.2.1
 have lu:=h0.1.cap
 have eN:=h0.1.big
 unfold maxLen at eN
 have iI:=h1.2.1
 have oI:=h1.1.cap
 have jB:=h1.1.big
 unfold maxLen at jB
 have rD:=h2.2.1
 have as1:=h2.1.cap
 have ai3:=h2.1.big
 unfold maxLen at ai3
 have as2:=h3.2.1
 have as3:=h3.1.cap
 have ai4:=h3.1.big
 unfold maxLen at ai4
 replace σ:=σ.aY h0
 replace σ:=σ.aY h1
 replace σ:=σ.aY h2
 replace σ:=σ.aY h3
 refine eE I<|ll σ I fun _ de σ=>eE I<|ll σ I fun _ eQ σ=>lE 1 σ I<|lE 0 σ I<|gj I<|kB (b':=true) (jO _)<|lE 1 σ I<|lE 0 σ I<|gj I<|kB (b':=true) (jO _)<|lE 1 σ I<|lE 0 σ I<|eE I<|gV call66 (aeC σ.kC σ.dw) σ I fun _ σ=>wD (fun oL=>?_) fun oL=>?_
 ·exact lE 1 σ I<|lE 0 σ I<|eE I<|gV call67 (TU σ.fX σ.bW) σ I fun _ σ=>o1 results38 I<|⟨aq (fun b=>Ending.returned (Value.bool b)) (by simp [oL]),σ.below⟩
 ·exact o1 results38 I<|⟨aq (fun b=>Ending.returned (Value.bool b)) (by simp [oL]),σ.below⟩
def Pp {α:Type} (P:Program) (g:Nat) (lb:Array Value) (encs:α->Array Value) (V:List α->α->Prop) (Kp:World->World->Prop) (S Sp:List α->Prop) (w:World):Prop:=
 ∀(l:Nat) (J Jx:List α->World->Prop) (X:World),Below w.heap.size w X->w.heap.size+2<=X.heap.size->OwnFrom X.heap.size J->OwnFrom X.heap.size Jx->
  (∀pre x Y,V pre x->J pre Y->YieldAt (WF none) 7 P l (encs x) Y fun e Z=>(e=.returned (.bool true)/\J (pre++[x]) Z/\Kp Y Z)∨(e=.returned (.bool false)/\Jx (pre++[x]) Z/\Kp Y Z))->
  J [] X->Calls P g (#[.func (.yield l) #[] #[]]++lb) X fun e Z=>(∃v,e=.returned v)/\((∃xs,S xs/\J xs Z)∨∃pre,Sp pre/\Jx pre Z)
section
variable {P:Program} {Q:Exit->Act->World->Prop} {N:Nat} {dq:List Deferred} {a:Act} {l:List (Nat×Value)} {w:World}
theorem Pr {α:Type} {g:Operand} {p q gf:Nat} {enc enc':α->Value} {S Sp:List α->Prop} {V:List α->α->Prop} (h:b7 dq N a l)
 (hg:eB l g=some (.func (.func gf) #[] lb)) (eg:∀args w,(callFunc gf args).run P w=.ok (.enter gf args) w) (hp:Nat.blt p N=true) (hq:Nat.blt q N=true)
 (T3:Pp P gf lb (fun x=>#[enc x,enc' x]) V Kp S Sp w)
 (KW:∀{A B C:World},Kp A B->Kp B C->Kp A C) (YI:∀(W:World) (o o':Obj),W.heap[w.heap.size+1]?=some o->o.isCells=false->Kp W (W.putObj (w.heap.size+1) o'))
 (kK:List α->World->Prop) (Ix:Code->List α->World->Prop) (hI:OwnFrom w.heap.size kK) (hIx:∀c,OwnFrom w.heap.size (Ix c)) (h0:kK [] w) (Ax:α->Act->World->Prop) (hAx:∀x a',OwnFrom w.heap.size (fun (_:Unit) W=>Ax x a' W))
 (tw:∀(i:Nat) (pre:List α) (x:α) (W:World) (K:Act->World->Prop),V pre x->kK pre W->(∀a' W',KeepsFrom w.heap.size W W'->Kp W W'->kK pre W'->Ax x a' W'->K a' W')->∀a,b7 [] N a ((q,enc' x)::(p,enc x)::l)->assign.wpIn (WF (some i)) 7 P (Exit.then K (fun _ _ _=>False)) a W)
 (CI:∀(i:Nat) (pre:List α) (x:α) (a':Act) (W:World),V pre x->kK pre W->Ax x a' W->body.wpIn (WF (some i)) 7 P (TW w.heap.size Kp kK Ix (pre++[x]) W) a' W)
 (CJ:∀(D:Nat) (xs:List α) (W:World) (a:Act),w.heap.size<=D->S xs->kK xs W->W.heap[D]?=some (.deferred (some []))->b7 ({ target:=.collected D,args:=#[] }::dq) N a l->Q .normal a W)
 (T4:∀(D:Nat) (c:Code) (pre:List α) (W:World) (a:Act),w.heap.size<=D->Sp pre->Ix c pre W->W.heap[D]?=some (.deferred (some []))->b7 ({ target:=.collected D,args:=#[] }::dq) N a l->c.wp P Q a W):
  (Code.rangeFunc g #[p,q] assign body).wp P Q a w:=by
 refine (wpIn_wide (n:=9)).1 (wpIn_rangeFunc fun fn _=>?_)
 obtain ⟨D,hD⟩:∃D,D=w.heap.size:=⟨_,rfl⟩
 obtain ⟨X,hX⟩:∃X,X=(w.alloc (.deferred (some []))).alloc (.loop (D9 fn a.tmps #[p,q] assign body w.heap.size .ready none)):=⟨_,rfl⟩
 have qZ:X.heap.size=D+2:=by rw [hX,World.size_alloc,World.size_alloc,hD]
 have hbX:CH (D9 fn a.tmps #[p,q] assign body D .ready none) D X:=by
  subst hX hD
  refine ⟨?_,?_⟩
  ·have:=World.alloc_heap_new (w.alloc (.deferred (some []))) (.loop (D9 fn a.tmps #[p,q] assign body w.heap.size .ready none))
   rwa [World.size_alloc] at this
  ·exact (Below.heap_alloc _ _ _ fW).trans (World.alloc_heap_new w _)
 have hIX:kK [] X:=hX ▸ hI.alloc _ (hI.alloc _ h0)
 have T5:Below w.heap.size w X:=hX ▸ (((Below.refl _ w).alloc (ar _) _).alloc fW _)
 subst hD
 have XQ:a.eval g=.func (.func gf) #[] lb:=h.ev hg
 refine ⟨w.heap.size+1,[{ target:=.collected w.heap.size,args:=#[] }],X,{ target:=.fn (.func gf) lb,args:=#[.func (.yield (w.heap.size+1)) #[] #[]] },X,gf,#[.func (.yield (w.heap.size+1)) #[] #[]]++lb,X,
  hX ▸ run_enterLoop_outer fn a.tmps #[p,q] assign body,by simp only [resolve,XQ]; simp [go_sem],fun _ _=>trivial,by simp [invoke,go_sem,eg],fun h=>(by cases h),sV (ro:=none) ?_⟩
 refine (T3 (w.heap.size+1) (fun pre W=>kK pre W/\CH (D9 fn a.tmps #[p,q] assign body w.heap.size .ready none) w.heap.size W) (fun pre W=>∃c,Ix c pre W/\CH (D9 fn a.tmps #[p,q] assign body w.heap.size .done (some c)) w.heap.size W) X T5 ae
  (fun s Y Z row hs rY hr=>⟨nU hI ae s Y Z row hs.1 rY hr,AK (β:=Unit) _ _ () Y Z row hs.2 rY fun r e=>qZ ▸ hr r e⟩)
  (fun s Y Z row ⟨c,h1,h2⟩ rY hr=>⟨c,nU (hIx c) ae s Y Z row h1 rY hr,AK (β:=Unit) _ _ () Y Z row h2 rY fun r e=>qZ ▸ hr r e⟩)
  (fun pre x Y hV ⟨hi,hb⟩=>⟨fn,_,assign,body,run_yield hb.1 rfl,roundIn_of_wpIn trivial ?_⟩) ⟨hIX,hbX⟩).mono fun e Z hZ=>?_
 ·
  have h1:=xF (xF h (enc x) hp) (enc' x) hq
  have e:(#[p,q].zip #[enc x,enc' x]).foldl (fun t (p,v)=>t.setIfInBounds p v) a.tmps=(a.tmps.setIfInBounds p (enc x)).setIfInBounds q (enc' x):=by simp
  show assign.wpIn (WF (some (w.heap.size+1))) 7 P _ { tmps:=(#[p,q].zip #[enc x,enc' x]).foldl (fun t (p,v)=>t.setIfInBounds p v) a.tmps,defers:=[] } Y
  rw [e]
  refine tw _ pre x Y _ hV hi (fun a' Y2 MN Cp xi Fw=>?_) _ h1
  have kY:=sj hb MN
  refine ⟨_,run_beginRound kY.1 I,?_⟩
  have xk:CH (D9 fn a.tmps #[p,q] assign body w.heap.size .busy none) w.heap.size _:=oJ kY
  have hp3:=YI Y2 _ (.loop (D9 fn a.tmps #[p,q] assign body w.heap.size .busy none)) kY.1 rfl
  refine wpIn_mono (CI _ pre x a' _ hV (hI.putObj _ xi (eK _) kY.1 I) ((hAx x a').putObj (s:=()) _ Fw (eK _) kY.1 I)) ?_
  have stop:∀(c:Code) (Z:World),KeepsFrom w.heap.size _ Z/\Kp _ Z/\Ix c (pre++[x]) Z->∃v Z',(Instr.endRound (w.heap.size+1) (some c)).run P Z=.ok v Z'/\((Ending.returned v=.returned (.bool true)/\(kK (pre++[x]) Z'/\CH (D9 fn a.tmps #[p,q] assign body w.heap.size .ready none) w.heap.size Z')/\Kp Y Z')∨(Ending.returned v=.returned (.bool false)/\(∃c,Ix c (pre++[x]) Z'/\CH (D9 fn a.tmps #[p,q] assign body w.heap.size .done (some c)) w.heap.size Z')/\Kp Y Z')):=fun c Z ⟨hk,JH,hix⟩=>
   have ru:=sj xk hk
   ⟨_,_,run_endRound _ ru.1,.inr ⟨rfl,⟨c,(hIx c).putObj _ hix (eK _) ru.1 rfl,oJ ru⟩,KW Cp (KW hp3 (KW JH (YI _ _ _ ru.1 rfl)))⟩⟩
  intro e a3 Z hz
  cases e with
  | normal=>
   have ru:=sj xk hz.1
   exact ⟨_,_,run_endRound none ru.1,.inl ⟨I,⟨hI.putObj _ hz.2.2 (eK _) ru.1 I,oJ ru⟩,KW Cp (KW hp3 (KW hz.2.1 (YI _ _ _ ru.1 I)))⟩⟩
  | ret=>exact stop .ret Z hz
  | exit id=>exact stop (.exit id) Z hz
  | goto t=>exact hz.elim
  | panic _=>exact hz.elim
  | outgrown=>exact hz.elim
 ·
  obtain ⟨⟨v,rfl⟩,(⟨xs,hS,hi,hb⟩ | ⟨pre,hS,c,hi,hb⟩)⟩:=hZ
  ·exact ⟨none,_,run_endLoop hb.1 (by intro h; cases h),CJ _ xs _ _ (ar _) hS (hI.putObj _ hi (eK _) hb.1 rfl) (oJ hb).2 (uy h _)⟩
  ·exact ⟨some c,_,run_endLoop hb.1 (by intro h; cases h),(wpIn_wide (n:=9)).2 (T4 _ c pre _ _ (ar _) hS ((hIx c).putObj _ hi (eK _) hb.1 rfl) (oJ hb).2 (uy h _))⟩
end
def VB (es:List IE) (n:Nat) (pre:List YE) (x:YE):Prop:=pre=Po es pre.length/\pre.length+x.1+1=n/\es[x.1]?=some x.2
theorem KY {B:Nat} (Pc:bwP B A n c es w):
  Pp prog 238 #[cY B] (fun x:YE=>#[Pn x,YH x]) (VB es n) (KB (bwP B A n c es)) (fun xs=>xs=Po es n) (fun pre=>∃k,k<=n/\pre=Po es k) w:=by
 intro l0 J Jx W hW _ _ _ hY h0
 have hl:=Pc.2.2.1
 have sK:=aD Pc.2.1.cap Pc.2.1.big
 unfold maxLen at sK
 have hpW:bwP B A n c es W:=⟨(hW.block B (lt_of_block Pc.1)).trans Pc.1,(bH fJ FJ 5 A n c es).keep Pc.2 hW.size fun b hb=>hW.block b ((bH fJ FJ 5 A n c es).lt Pc.2 hb)⟩
 refine enter func238 I ntmps238 I ?_
 intro a η _
 refine wp_seq (aI ?_)
 refine aS I (cH η I (cC η mh I hpW.1 I) ?_)
 clear η a; intro a η
 refine aS I (cH η I (ky η underlying25 I) ?_)
 clear η a; intro a η
 refine aS I (cH η I (uh η I I (IntWalk.i64_in _ ae)) ?_)
 clear η a; intro a η
 refine aS I (cH η I (cf η I) ?_)
 clear η a; intro a η
 refine wpList_nil (b5 (wp_block ?_))
 refine wp_loop_ghost (fun mz a w1=>∃k:Nat,k=mz/\Env 19 a [(0,.func (.yield l0) #[] #[]),(1,cY B),(3,.int .i64 (((k:Nat):Int) - 1))]/\bwP B A n c es w1/\J (Po es (n - k)) w1/\k<=n) _ ⟨n,I,η.sub aT,hpW,by rw [eH]; exact h0,ar _⟩ ?_
 clear η a
 rintro mz a w1 ⟨k,rfl,η,hp,hJk,hk⟩
 refine wp_seq (wp_seq (aI ?_))
 refine aS I (cH η I (ff η I) ?_)
 clear η a; intro a η
 refine aS I (cH η I (cV η I I I) ?_)
 clear η a; intro a η
 refine wpList_nil (b5 ?_)
 refine jA η I (fun hc=>?_) (fun hc=>?_)
 ·obtain ⟨j,rfl⟩:∃j:Nat,k=j+1:=⟨k - 1,by have:=aN hc; omega⟩
  rw [show (((j+1:Nat):Nat):Int) - 1=(j:Nat) by omega] at η
  obtain ⟨⟨a1,a2,a3,a4,a5⟩,eG⟩:∃e,es[j]?=some e:=⟨_,ag ae⟩
  refine wp_skip (b5 (wp_seq (wp_block (wp_seq ?_))))
  refine Ru 8 ?_
  refine lg I (fun _ h=>by cases h) (cH η I (ff η I) ?_)
  clear η a; intro a η
  refine lg I (fun _ h=>by cases h) (cH η I (ff η I) ?_)
  clear η a; intro a η
  refine lg I (fun _ h=>by cases h) (cH η I (cC η mh I hp.1 I) ?_)
  clear η a; intro a η
  refine lg I (fun _ h=>by cases h) (cH η I (ff η I) ?_)
  clear η a; intro a η
  refine lg I (fun _ h=>by cases h) (cH η I (m7 η underlying25 (aF.size) I I ae I hp.2.1) ?_)
  clear η a; intro a η
  refine lg I (fun _ h=>by cases h) (cH η I (cX η aF I I lL hp.2.1 ae eG I) ?_)
  clear η a; intro a η
  refine Bw I (yQ η I I I (hY _ (j,a1,a2,a3,a4,a5) w1 ⟨by rw [AJ],by rw [AJ]; show n - (j+1)+j+1=n; omega,eG⟩ hJk) ?_)
  have aeF:Po es (n - (j+1))++[(j,a1,a2,a3,a4,a5)]=Po es (n - j):=by
   rw [show n - j=n - (j+1)+1 by omega]
   exact (TV eG ae).symm
  rw [aeF]
  rintro e W3 h3
  rcases h3 with ⟨rfl,hJ3,hk3⟩ | ⟨rfl,hJ3,_⟩
  ·refine ⟨_,I,?_⟩
   clear η a; intro a η
   refine lg I (fun _ h=>by cases h) (cH η I (om η I I) ?_)
   clear η a; intro a η
   refine yy (b5 ?_)
   refine rV η I I ?_
   refine wp_skip (tK (b5 (aI ?_)))
   refine aS I (cH η I (ff η I) ?_)
   clear η a; intro a η
   refine aS I (cH η I (uh η I I (IntWalk.i64_in _ ae)) ?_)
   clear η a; intro a η
   refine aS I (cH η I (cf η I) ?_)
   clear η a; intro a η
   refine wpList_nil ?_
   exact b5 ⟨_,fx j,j,I,η.sub aT,hk3 hp,hJ3,by omega⟩
  ·refine ⟨_,I,?_⟩
   clear η a; intro a η
   refine lg I (fun _ h=>by cases h) (cH η I (om η I I) ?_)
   clear η a; intro a η
   refine yy (b5 ?_)
   refine GY η I I ?_
   refine wp_ret (qM (nN (nN (qM ?_))))
   refine leave η (Ow results238) ?_
   exact ⟨⟨_,I⟩,.inr ⟨_,⟨n - j,by omega,rfl⟩,hJ3⟩⟩
 ·obtain rfl:k=0:=by have:=bP hc; omega
  refine wp_exit (oM (oM (wz ?_)))
  refine Ox η (Ow results238) ?_
  exact ⟨⟨_,I⟩,.inl ⟨_,I,hJk⟩⟩
section
variable {B n0 c0 n1 c1:Nat} {i g:Int} {A0 A1:Option Addr} {es:List IE} {os:List Int} {w:World}
end
section
variable {P:Program} {Q:Exit->Act->World->Prop} {N:Nat} {dq:List Deferred} {a:Act} {l:List (Nat×Value)} {w:World}
theorem Ps {α:Type} {g:Operand} {gf:Nat} {ps:Array Tmp} {encs:α->Array Value} {l2:α->List (Nat×Value)} {S Sp:List α->Prop} {V:List α->α->Prop} (h:b7 dq N a l)
 (hg:eB l g=some (.func (.func gf) #[] lb)) (eg:∀args w,(callFunc gf args).run P w=.ok (.enter gf args) w) (mf:∀x,(encs x).size=ps.size) (Oz:∀x,b7 [] N { tmps:=(ps.zip (encs x)).foldl (fun t (p,v)=>t.setIfInBounds p v) a.tmps,defers:=[] } (l2 x))
 (T3:Pp P gf lb encs V Kp S Sp w)
 (KW:∀{A B C:World},Kp A B->Kp B C->Kp A C) (YI:∀(W:World) (o o':Obj),W.heap[w.heap.size+1]?=some o->o.isCells=false->Kp W (W.putObj (w.heap.size+1) o'))
 (kK:List α->World->Prop) (Ix:Code->List α->World->Prop) (hI:OwnFrom w.heap.size kK) (hIx:∀c,OwnFrom w.heap.size (Ix c)) (h0:kK [] w) (Ax:α->Act->World->Prop) (hAx:∀x a',OwnFrom w.heap.size (fun (_:Unit) W=>Ax x a' W))
 (tw:∀(i:Nat) (pre:List α) (x:α) (W:World) (K:Act->World->Prop),V pre x->kK pre W->(∀a' W',KeepsFrom w.heap.size W W'->Kp W W'->kK pre W'->Ax x a' W'->K a' W')->∀a,b7 [] N a (l2 x)->assign.wpIn (WF (some i)) 7 P (Exit.then K (fun _ _ _=>False)) a W)
 (CI:∀(i:Nat) (pre:List α) (x:α) (a':Act) (W:World),V pre x->kK pre W->Ax x a' W->body.wpIn (WF (some i)) 7 P (TW w.heap.size Kp kK Ix (pre++[x]) W) a' W)
 (CJ:∀(D:Nat) (xs:List α) (W:World) (a:Act),w.heap.size<=D->S xs->kK xs W->W.heap[D]?=some (.deferred (some []))->b7 ({ target:=.collected D,args:=#[] }::dq) N a l->Q .normal a W)
 (T4:∀(D:Nat) (c:Code) (pre:List α) (W:World) (a:Act),w.heap.size<=D->Sp pre->Ix c pre W->W.heap[D]?=some (.deferred (some []))->b7 ({ target:=.collected D,args:=#[] }::dq) N a l->c.wp P Q a W):
  (Code.rangeFunc g ps assign body).wp P Q a w:=by
 refine (wpIn_wide (n:=9)).1 (wpIn_rangeFunc fun fn _=>?_)
 obtain ⟨D,hD⟩:∃D,D=w.heap.size:=⟨_,rfl⟩
 obtain ⟨X,hX⟩:∃X,X=(w.alloc (.deferred (some []))).alloc (.loop (D9 fn a.tmps ps assign body w.heap.size .ready none)):=⟨_,rfl⟩
 have qZ:X.heap.size=D+2:=by rw [hX,World.size_alloc,World.size_alloc,hD]
 have hbX:CH (D9 fn a.tmps ps assign body D .ready none) D X:=by
  subst hX hD
  refine ⟨?_,?_⟩
  ·have:=World.alloc_heap_new (w.alloc (.deferred (some []))) (.loop (D9 fn a.tmps ps assign body w.heap.size .ready none))
   rwa [World.size_alloc] at this
  ·exact (Below.heap_alloc _ _ _ fW).trans (World.alloc_heap_new w _)
 have hIX:kK [] X:=hX ▸ hI.alloc _ (hI.alloc _ h0)
 have T5:Below w.heap.size w X:=hX ▸ (((Below.refl _ w).alloc (ar _) _).alloc fW _)
 subst hD
 have XQ:a.eval g=.func (.func gf) #[] lb:=h.ev hg
 refine ⟨w.heap.size+1,[{ target:=.collected w.heap.size,args:=#[] }],X,{ target:=.fn (.func gf) lb,args:=#[.func (.yield (w.heap.size+1)) #[] #[]] },X,gf,#[.func (.yield (w.heap.size+1)) #[] #[]]++lb,X,
  hX ▸ run_enterLoop_outer fn a.tmps ps assign body,by simp only [resolve,XQ]; simp [go_sem],fun _ _=>trivial,by simp [invoke,go_sem,eg],fun h=>(by cases h),sV (ro:=none) ?_⟩
 refine (T3 (w.heap.size+1) (fun pre W=>kK pre W/\CH (D9 fn a.tmps ps assign body w.heap.size .ready none) w.heap.size W) (fun pre W=>∃c,Ix c pre W/\CH (D9 fn a.tmps ps assign body w.heap.size .done (some c)) w.heap.size W) X T5 ae
  (fun s Y Z row hs rY hr=>⟨nU hI ae s Y Z row hs.1 rY hr,AK (β:=Unit) _ _ () Y Z row hs.2 rY fun r e=>qZ ▸ hr r e⟩)
  (fun s Y Z row ⟨c,h1,h2⟩ rY hr=>⟨c,nU (hIx c) ae s Y Z row h1 rY hr,AK (β:=Unit) _ _ () Y Z row h2 rY fun r e=>qZ ▸ hr r e⟩)
  (fun pre x Y hV ⟨hi,hb⟩=>⟨fn,_,assign,body,run_yield hb.1 (mf x),roundIn_of_wpIn trivial ?_⟩) ⟨hIX,hbX⟩).mono fun e Z hZ=>?_
 ·
  have h1:=Oz x
  refine tw _ pre x Y _ hV hi (fun a' Y2 MN Cp xi Fw=>?_) _ h1
  have kY:=sj hb MN
  refine ⟨_,run_beginRound kY.1 I,?_⟩
  have xk:CH (D9 fn a.tmps ps assign body w.heap.size .busy none) w.heap.size _:=oJ kY
  have hp3:=YI Y2 _ (.loop (D9 fn a.tmps ps assign body w.heap.size .busy none)) kY.1 rfl
  refine wpIn_mono (CI _ pre x a' _ hV (hI.putObj _ xi (eK _) kY.1 I) ((hAx x a').putObj (s:=()) _ Fw (eK _) kY.1 I)) ?_
  have stop:∀(c:Code) (Z:World),KeepsFrom w.heap.size _ Z/\Kp _ Z/\Ix c (pre++[x]) Z->∃v Z',(Instr.endRound (w.heap.size+1) (some c)).run P Z=.ok v Z'/\((Ending.returned v=.returned (.bool true)/\(kK (pre++[x]) Z'/\CH (D9 fn a.tmps ps assign body w.heap.size .ready none) w.heap.size Z')/\Kp Y Z')∨(Ending.returned v=.returned (.bool false)/\(∃c,Ix c (pre++[x]) Z'/\CH (D9 fn a.tmps ps assign body w.heap.size .done (some c)) w.heap.size Z')/\Kp Y Z')):=fun c Z ⟨hk,JH,hix⟩=>
   have ru:=sj xk hk
   ⟨_,_,run_endRound _ ru.1,.inr ⟨rfl,⟨c,(hIx c).putObj _ hix (eK _) ru.1 rfl,oJ ru⟩,KW Cp (KW hp3 (KW JH (YI _ _ _ ru.1 rfl)))⟩⟩
  intro e a3 Z hz
  cases e with
  | normal=>
   have ru:=sj xk hz.1
   exact ⟨_,_,run_endRound none ru.1,.inl ⟨I,⟨hI.putObj _ hz.2.2 (eK _) ru.1 I,oJ ru⟩,KW Cp (KW hp3 (KW hz.2.1 (YI _ _ _ ru.1 I)))⟩⟩
  | ret=>exact stop .ret Z hz
  | exit id=>exact stop (.exit id) Z hz
  | goto t=>exact hz.elim
  | panic _=>exact hz.elim
  | outgrown=>exact hz.elim
 ·
  obtain ⟨⟨v,rfl⟩,(⟨xs,hS,hi,hb⟩ | ⟨pre,hS,c,hi,hb⟩)⟩:=hZ
  ·exact ⟨none,_,run_endLoop hb.1 (by intro h; cases h),CJ _ xs _ _ (ar _) hS (hI.putObj _ hi (eK _) hb.1 rfl) (oJ hb).2 (uy h _)⟩
  ·exact ⟨some c,_,run_endLoop hb.1 (by intro h; cases h),(wpIn_wide (n:=9)).2 (T4 _ c pre _ _ (ar _) hS ((hIx c).putObj _ hi (eK _) hb.1 rfl) (oJ hb).2 (uy h _))⟩
end
def noQ:Exit->Act->World->Prop:=fun _ _ _=>False
theorem T6:Ck noQ:=⟨fun _ _ _ h=>h,fun _ _ h=>h⟩
def rdQ {α:Type} (B:Nat) (Kp:World->World->Prop) (kK:List α->World->Prop) (xs:List α) (W:World):Exit->Act->World->Prop:=TW B Kp kK (fun _ _ _=>False) xs W
theorem aeH {α:Type} {B:Nat} {kK:List α->World->Prop} {xs:List α}:Ck (rdQ B Kp kK xs W):=⟨fun _ _ _ h=>h,fun _ _ h=>h⟩
section
variable {P:Program} {T:Ig P} {mix:P.follows .mixedOrders=true} {N m:Nat} {dq:List Deferred} {Q:Exit->Act->World->Prop} {ok:Ck Q} {s:List zh} {l:List (Nat×Value)} {w:World} {α:Type}
theorem yR {ro:Option Nat} {dq':List Deferred}:∀s:List zh,tR ⟨T,mix,ro,m,dq,N,Q,ok⟩ s=tR ⟨T,mix,ro,m,dq',N,Q,ok⟩ s
 | []=>rfl
 | .th c::s=>by unfold tR; rw [yR s]
 | .bl i::s=>by unfold tR; rw [yR s]
 | .sc::s=>by unfold tR; rw [yR s]
 | .q K::s=>by unfold tR; rw [yR s]
theorem rgE {gf:Nat} {ps:Array Tmp} {encs:α->Array Value} {l2:α->List (Nat×Value)} {S Sp:List α->Prop} {V:List α->α->Prop}
 (hz:eB l z=some (.func (.func gf) #[] lb)) (eg:∀args w,(callFunc gf args).run P w=.ok (.enter gf args) w) (mf:∀x,(encs x).size=ps.size) (Oz:∀(a:Act) x,b7 dq N a l->b7 [] N { tmps:=(ps.zip (encs x)).foldl (fun t (p,v)=>t.setIfInBounds p v) a.tmps,defers:=[] } (l2 x))
 (T3:Pp P gf lb encs V Kp S Sp w) (KW:∀{A B C:World},Kp A B->Kp B C->Kp A C) (YI:∀(W:World) (o o':Obj),W.heap[w.heap.size+1]?=some o->o.isCells=false->Kp W (W.putObj (w.heap.size+1) o'))
 (kK:List α->World->Prop) (A:α->List (Nat×Value)->World->Prop) (hI:OwnFrom w.heap.size kK) (hA:∀x l',OwnFrom w.heap.size (fun (_:Unit) W=>A x l' W)) (h0:kK [] w)
 (tw:∀(i:Nat) (pre:List α) (x:α) (W:World) (K:Act->World->Prop),V pre x->kK pre W->(∀a' l' W',b7 [] N a' l'->KeepsFrom w.heap.size W W'->Kp W W'->kK pre W'->A x l' W'->K a' W')->Mq ⟨T,mix,some i,7,[],N,noQ,T6⟩ W 999 (.code assign) [.q K] (l2 x))
 (CI:∀(i:Nat) (pre:List α) (x:α) (l':List (Nat×Value)) (W:World),V pre x->kK pre W->A x l' W->Mq ⟨T,mix,some i,7,[],N,rdQ w.heap.size Kp kK (pre++[x]) W,aeH⟩ W 999 (.code body) [] l')
 (CJ:∀(D:Nat) (xs:List α) (W:World),w.heap.size<=D->S xs->kK xs W->W.heap[D]?=some (.deferred (some []))->Mq ⟨T,mix,none,m,{ target:=.collected D,args:=#[] }::dq,N,Q,ok⟩ W 999 (.fin .normal) s l):
  np ⟨T,mix,none,m,dq,N,Q,ok⟩ w (.code (.rangeFunc z ps assign body)) s l:=
 ⟨fun a e=>(wpIn_wide).2 (Ps e hz eg mf (fun x=>Oz a x e) T3 KW YI kK (fun _ _ _=>False) hI (fun _ _ _ _ _ h _ _=>h) h0 (fun x a' W=>∃l',b7 [] N a' l'/\A x l' W)
  (fun x a' s X Y row ⟨l',h1,h2⟩ hg hr=>⟨l',h1,hA x l' () X Y row h2 hg hr⟩)
  (fun i pre x W K hV hi hK a ea=>(lR _ (tw i pre x W K hV hi fun a' l' W' e' k1 k2 k3 k4=>hK a' W' k1 k2 k3 ⟨l',e',k4⟩)).go a ea)
  (fun i pre x a' W hV hi ⟨l',e',hx⟩=>(lR _ (CI i pre x l' W hV hi hx)).go a' e')
  (fun D xs W a hD hS hi hd ea=>by have:=(lR _ (CJ D xs W hD hS hi hd)).go a ea; rw [yR (dq':={ target:=.collected D,args:=#[] }::dq) s]; exact this)
  (fun _ _ _ _ _ _ _ h=>h.elim))⟩
theorem qaE {X:Cx P} {K:Act->World->Prop} (h:∀a,b7 X.dq X.N a l->K a w):np X w (.fin .normal) (.q K::s) l:=⟨fun a e=>h a e⟩
theorem rdE {B:Nat} {kK:List α->World->Prop} {xs:List α} {ok:Ck (rdQ B Kp kK xs W)} (h:KeepsFrom B W w/\Kp W w/\kK xs w):np ⟨T,mix,some i,7,[],N,rdQ B Kp kK xs W,ok⟩ w (.fin .normal) [] l:=⟨fun _ _=>h⟩
theorem hp1 {p:Nat} {enc:α->Value} (hp:Nat.blt p N=true) (a:Act) (x:α) (h:b7 dq N a l):b7 [] N { tmps:=(#[p].zip #[enc x]).foldl (fun t (p,v)=>t.setIfInBounds p v) a.tmps,defers:=[] } ((p,enc x)::l):=by
 have:=xF h (enc x) hp
 simpa using this
theorem Cp {p q:Nat} {enc enc':α->Value} (hp:(Nat.blt p N,Nat.blt q N)=(true,true)) (a:Act) (x:α) (h:b7 dq N a l):b7 [] N { tmps:=(#[p,q].zip #[enc x,enc' x]).foldl (fun t (p,v)=>t.setIfInBounds p v) a.tmps,defers:=[] } ((q,enc' x)::(p,enc x)::l):=by
 have:=xF (xF h (enc x) (aq (·.1) hp)) (enc' x) (aq (·.2) hp)
 simpa using this
end
section
variable {P:Program} {X:Cx P} {w w0:World} {k k':C'} {s:List zh} {l:List (Nat×Value)} {own ps:List PF} {d:Nat}
theorem nmE (σ:St w0 w own ps) (h:∀w',St w0 w' own ps->np X w' k s l):np X w k s l:=h w σ
theorem ai8 {ro:Option Nat} {ops:Array Oper} {rest:List Oper} {Q:Exit->Act->World->Prop} {a:Act} {N:Nat} {dq:List Deferred} {ty:TypeId} {pos:String} {af:Array Edge} {t:Nat} {b:Bool} {op:Op} {og:Oper} {dd:Option Nat} (hg:ops[g]?=some og) (h:b7 dq N a l) (zD:og.dst=some t) (zW:look l t=some (.bool b))
 (hK:Oper.wpIn (WF ro) m P ⟨dd,op,ty,pos,af,some (g,b)⟩ a w (wpListIn (WF ro) m P ops Q rest) Q):wpListIn (WF ro) m P ops Q (⟨dd,op,ty,pos,af,some (g,b)⟩::rest) a w:=by
 have hy:yielded ops a.tmps g=some b:=by
  have he:=h.at zW
  simp only [yielded,hg,jN,zD]
  rw [cU] at he
  cases ht:a.tmps[t]? with
  | none=>rw [ht] at he; simp [undef] at he
  | some x=>rw [ht] at he; simp at he; subst he; rfl
 unfold wpListIn
 rw [au (by simp [Region.wanted,hy])]
 exact hK
theorem yE {xs:Array Operand} {Ts:Array TypeId} {vs:Array Value} {l0:Nat} {R:Ending->World->Prop} (hn:hdL X.N l k=some (some d,.call ⟨.value z,xs,Ts⟩,k')) (hz:eB l z=some (.func (.yield l0) #[] #[])) (hx:xs.toList.map (eB l)=vs.toList.map some)
 (hY:YieldAt (WF none) kk P l0 vs w R) (h:∀e w',R e w'->∃v,e=.returned v/\Mq X w' 999 k' s ((d,v)::l)):np X w k s l:=by
 obtain ⟨os,rest,ty,pos,af,gd,rfl,rfl,ve,hg,hd⟩:=Kv hn
 refine ⟨fun a e=>?_⟩
 have hop:Oper.wpIn (WF X.ro) X.m P ⟨some d,.call ⟨.value z,xs,Ts⟩,ty,pos,af,gd⟩ a w (wpListIn (WF X.ro) X.m P os.toArray (tR X s) rest) (tR X s):=yQ e (hd d rfl) hz hx hY fun e w' hr=>by
  obtain ⟨v,he,hk⟩:=h e w' hr
  exact ⟨v,he,fun a' e'=>(lR _ hk).go a' e'⟩
 rcases uF hg with rfl | ⟨g,b,og,t,rfl,h1,h2,h3⟩
 ·exact Bw I hop
 ·exact ai8 h1 e h2 h3 hop
end
section
variable {P:Program} {fn:Func} {R:Ending->World->Prop} {T:Ig P} {mix:P.follows .mixedOrders=true} {N:Nat} {w w0:World} {l:List (Nat×Value)} {v v1 v2:Value} {t1 t2:Nat}
def poM (P:Program) (fn:Func) (R:Ending->World->Prop):Exit->Act->World->Prop
 | .normal,a,w=>bodyPostM Fence.wide 9 P fn R .normal a w
 | .ret,a,w=>bodyPostM Fence.wide 9 P fn R .ret a w
 | _,_,_=>False
theorem aeI:Ck (poM P fn R):=⟨fun _ _ _ h=>h,fun _ _ h=>h⟩
theorem enM {c:Code} {f:FuncId} {args:Array Value} (T:Ig P) (mix:P.follows .mixedOrders=true) (hf:P.funcs[f]?=some fn) (hb:fn.body=some c) (hn:fn.ntmps=N) (hz:Nat.ble args.size N=true) (h:St w w [] []->Mq ⟨T,mix,none,9,[],N,poM P fn R,aeI⟩ w 999 (.code c) [] (Wc 0 args.toList)):Calls P f args w R:=
 Ry hf hb hn hz fun a h1 h2=>(wpIn_wide).1 (wpIn_mono ((lR _ (h h2)).go a h1) fun e a w hq=>by cases e<;>first | exact hq | exact hq.elim)
theorem oM1 {D:Nat} {ok:Ck (poM P fn R)} (h:fn.results=#[.tmp t1]) (h1:look l t1=some v1) (hD:w.heap[D]?=some (.deferred (some []))) (hR:R (.returned v1) (w.putObj D (.deferred none))):np ⟨T,mix,none,9,[{ target:=.collected D,args:=#[] }],N,poM P fn R,ok⟩ w (.fin .ret) [] l:=⟨fun _ e=>xG e hD (iJ h (RV.tmp e h1)) hR⟩
end
def YJ (g:Nat) (A:Option Addr) (n c:Nat) (es:List Int) (w:World):Prop:=(bk g #[.slice A n c] 26).P w/\(fg A n c es).P w
def VI (es:List Int) (pre:List Int) (x:Int):Prop:=pre=es.take pre.length/\es[pre.length]?=some x
section
variable {g n c:Nat} {A:Option Addr} {es:List Int} {w w':World}
theorem KZ {D:Nat} {row:Option Nat} (h:YJ g A n c es w) (hg:w.grownBy w' row) (hr:∀r,row=some r->D<=r/\∃o:Obj,w.heap[r]?=some o/\o.isCells=false):YJ g A n c es w':=
 ⟨kr iH h.1 hg hr,kr (kO (fun _ _ h=>h) aB) h.2 hg hr⟩
theorem YK (h:YJ g A n c es w) (hb:Below w.heap.size w w'):YJ g A n c es w':=KZ (D:=0) h (qW hb) fun r e=>by cases e
end
theorem abm (es:List Int):fl fI es=es.map (Value.int .i64):=by
 induction es with
 | nil=>rfl
 | cons x es ih=>rw [fl,ih]; rfl
theorem IP (n:Nat):(nS n).mergeSort (fun x y=>decide (x<=y))=nS n:=by
 refine List.mergeSort_of_pairwise ?_
 unfold nS
 rw [List.pairwise_map]
 exact List.pairwise_lt_range.imp fun h=>a8 ae
theorem YL {own:List PF} (σ:St w0 w own ps) (hk:own[k]?=some (cI A n c (nS m))) (hm:m=n) (hn:n<=1000):Calls prog 172 #[.slice A n c] w fun e w'=>e=.returned (.tuple #[])/\St w0 w' own ps:=by
 subst hm
 have hP:=σ.owns hk
 have nD:w.ownsRow 0 3 1 (.slice A m c) m (fl fI (nS m)):=hP.1
 rcases nD.2 with ⟨e0,pJ⟩ | ⟨g,cap,cur,e0,_,hg,Gu,GR,mx,wK⟩
 ·cases e0
  exact (Go.Proofs.YtgopcdagnicekaaGreatDoor.aap none 0 w).mono fun e w' ⟨h1,h2⟩=>⟨h1,h2 ▸ σ⟩
 ·cases e0
  rw [gH] at wK mx
  have aoG:cur.toList.take (nS m).length=(nS m).map (Value.int .i64):=by rw [pQ,wK,abm]
  have h1:=Go.Proofs.YtgopcdagnicekaaGreatDoor.aaq g 0 c (nS m) w (holds_of_blockI hg aoG) (lt_of_block hg) (by rw [pQ]; omega)
  rw [pQ,IP] at h1
  refine h1.mono fun e w' ⟨h2,q,os,h3⟩=>⟨h2,?_⟩
  subst h3
  have ho:=ownsRow_sortedI (w:=w) (base:=0) (g:=g) (cap:=c) (n:=q) (e:=3) (os:=os) (cur:=cur) (ss:=nS m) (ts:=nS m) rfl (av _) hg (by rw [pQ]; exact Gu) GR (by rw [mx,gH])
  have rY:=grownBy_sortedI (w:=w) (g:=g) (n:=q) (os:=os) (nS m).toArray
  rw [pQ,<- abm] at ho
  obtain ⟨Xk,vg,Di⟩:=hP.2 g rfl
  rw [hg] at vg
  cases vg
  have h4:=σ.pH hk (e':=cI (cS g) m c (nS m)) ⟨ho,fun g' vg=>?_⟩ (fun b hb=>.inl hb) rY.os rY.tape rY.output rY.size fun b hb hf=>rY.block b hb fun e=>hf (by cases e; rfl)
  ·rwa [G9 hk] at h4
  ·obtain rfl:g=g':=by simpa [Value.ownBlock] using vg
   refine ⟨_,heap_sortedI _ hg,?_⟩
   refine Array.toList_mapIdx ▸ bp.2 fun u hu=>?_
   obtain ⟨i,hi,rfl⟩:=List.mem_mapIdx.1 hu
   split
   ·rfl
   ·exact bp.1 Di _ (eJ _)
theorem YM:
  Calls prog 131 #[.slice A n c] w0 fun e w'=>∃g,e=.returned (.func (.func 173) #[] #[cY g])/\St w0 w' [bk g #[.slice A n c] 26] []:=by
 exact gQ func131 I ntmps131 I fun σ=>eE I<|ll σ I fun _ de σ=>vE I (fun η=>fi η I I)<|o1 results131 I<|⟨_,I,σ.pick [0] [] aB⟩
theorem Pu {es:List Int} (hp:YJ g A n c es w):
  Pp prog 173 #[cY g] (fun x:Int=>#[aG x]) (VI es) (KB (YJ g A n c es)) (fun xs=>xs=es) (fun _=>True) w:=by
 intro l0 J Jx X hX _ hJ hJx hY h0
 have hpX:=KZ (D:=0) hp (⟨hX.os,hX.tape,hX.output,hX.size,fun k hk _=>hX.block k hk⟩:w.grownBy X none) fun r e=>by cases e
 have hlen:=hp.2.2.1
 have sK:=aD hp.2.1.cap hp.2.1.big
 unfold maxLen at sK
 refine gQ func173 I ntmps173 I fun σ=>?_
 replace σ:=(σ.lZ _ hpX.1).aY hpX.2
 refine cE I (fun η=>cC η rv I (ou σ.dw) I)<|ks (fun mz l w=>∃w0:World,∃j:Nat,n - j=mz/\l=[(7,aM j),(0,.func (.yield l0) #[] #[]),(5,.slice A n c),(6,aM n)]/\St w0 w [] [fg A n c es,bk g #[.slice A n c] 26]/\j<=n/\J (es.take j) w) ⟨X,0,I,I,σ,(av _),h0⟩ aT ?_
 rintro _ _ _ ⟨w0,j,rfl,rfl,σ,hj,hJj⟩
 refine il I<|wD (fun lC=>?_) fun lC=>?_
 ·have fh:j<n:=ae
  obtain ⟨x,eG⟩:∃e,es[j]?=some e:=⟨_,ag ae⟩
  have Hs:(es.take j).length=j:=by rw [bJ]; omega
  refine iT I I<|vE I (fun η=>aX (i:=j) η underlying26 (bn.size) I I ae I σ.bW.1)<|cE I (fun η=>bE (i:=j) (j:=0) (e:=x) η bn I I di aB σ.bW.1 ae eG I)<|?_
  refine yE I I I (hY _ _ _ ⟨by rw [Hs],by rw [Hs]; exact eG⟩ hJj) ?_
  rintro e Wo (⟨rfl,aeJ,ai9⟩|⟨rfl,aeJ,ai9⟩)
  ·refine ⟨_,I,?_⟩
   have Cp:=ai9 ⟨σ.dw,σ.bW⟩
   have σ:=((St.start Wo).lZ _ Cp.1).aY Cp.2
   exact iF I I<|can (j:=1) I ae<|gI ⟨Wo,j+1,I,I,σ,ae,(by rw [take_one eG]; exact aeJ)⟩ aT ae
  ·refine ⟨_,I,?_⟩
   exact iT I I<|o0 results173<|⟨⟨_,I⟩,.inr ⟨_,trivial,aeJ⟩⟩
 ·have rH:es.take j=es:=ax (by omega)
  exact iF I I<|Dp results173<|⟨⟨_,I⟩,.inl ⟨_,rH,hJj⟩⟩
theorem Pv {es:List Int} (hp:YJ g A n c es w0) (hn:n<=1000):
  Calls prog 201 #[bM,.func (.func 173) #[] #[cY g]] w0 fun e w'=>∃A' c',e=.returned (.slice A' n c')/\St w0 w' [cI A' n c' es] []:=by
 have hlen:=hp.2.2.1
 refine enM tb mixed func201 I ntmps201 I fun σ=>?_
 replace σ:=(σ.lZ _ hp.1).aY hp.2
 refine eE I<|ll σ I fun _ de σ=>?_
 replace σ:=(σ.fp dD 3 1)
 refine nmE σ fun wL σ=>?_
 have qZ:=σ.below.size
 refine rgE (α:=Int) (encs:=fun x:Int=>#[aG x]) (V:=VI es) I call173 (fun _=>I) (by exact hp1 rfl) (Pu ⟨σ.dw,σ.bW⟩) (fun h k q=>k (h q)) ((fun Y o o' h hc hq=>KZ (D:=0) hq (grownBy_putObj' Y _ o') fun r e=>by cases e; exact ⟨av _,o,h,hc⟩)) (fun pre W=>∃A2:Option Addr,∃c2:Nat,St w0 W [bk de #[.slice A2 pre.length c2] 26,cI A2 pre.length c2 pre] [fg A n c es,bk g #[.slice A n c] 26]/\wL.heap.size<=W.heap.size) (fun x l _=>l=[(2,cY de),(5,aG x)]) (fun _ _ _ _ ⟨A2,c2,σ,AL⟩ hg hr=>⟨A2,c2,σ.grown qZ ⟨iH,kE,trivial⟩ ⟨(kO (fun _ _ h=>h) aB),iH,trivial⟩ hg hr,aD AL hg.size⟩) (fun _ _ _ _ _ _ h _ _=>h) ⟨none,0,σ.pick [1,0] [0,1] aB,ar _⟩ ?_ ?_ ?_
 ·rintro ix pre x W K hV ⟨A2,c2,hsi,AL⟩ hK
  have σ:=St.start W
  exact qaE fun a ea=>hK a [(2,cY de),(5,aG x)] _ (ea.sub aT) (Nl σ.below) (fun q=>YK q σ.below) ⟨A2,c2,hsi.grown (B:=wL.heap.size) qZ ⟨iH,kE,trivial⟩ ⟨(kO (fun _ _ h=>h) aB),iH,trivial⟩ (qW σ.below) (fun r e=>by cases e),aD AL σ.below.size⟩ (rfl)
 ·rintro ix pre x l W hV ⟨A2,c2,σ,AL⟩ rfl
  have fh:=(aE.1 hV.2).1
  replace σ:=σ.ahD ⟨iH,kE,trivial⟩
  refine lE 0 σ I<|eE I<|mi (z:=1) #[aG x] σ (bn.size) gY I bI fun _ eQ σ=>eE I<|oO (new:=[x]) 2 0 σ iv I (by unfold maxLen; omega) ae fun _ jh rk σ=>eE rfl<|mK 1 σ rfl fun _ σ=>?_
  rw [show pre.length+1=(pre++[x]).length by rw [ai]; rfl] at σ
  exact rdE ⟨σ.ko (k:=0) I _,(fun _=>⟨σ.fX,σ.dw⟩),⟨_,_,σ.pick [1,2] [1,2] aB,aD AL (σ.ko (k:=0) I wL.heap.size).size⟩⟩
 ·rintro D55 xs W aoI hS ⟨A2,c2,σ,AL⟩ aja
  obtain rfl:=hS.symm
  rw [hlen] at σ
  replace σ:=σ.aco ⟨iH,kE,trivial⟩ aja
  have ajb:=aD qZ aoI
  refine lE 0 σ I<|?_
  have Bv:=σ.acp (k:=0) rfl ajb ⟨iH,kE,trivial⟩ ⟨(kO (fun _ _ h=>h) aB),iH,trivial⟩
  exact oM1 results201 I σ.bW ⟨_,_,I,Bv.pick [1] [] aB⟩
theorem K0 {es:List Int} (hp:YJ g A n c es w0) (hn:n<=1000):
  Calls prog 171 #[.func (.func 173) #[] #[cY g]] w0 fun e w'=>∃A' c',e=.returned (.slice A' n c')/\St w0 w' [cI A' n c' es] []:=by
 refine gQ func171 I ntmps171 I fun σ=>?_
 replace σ:=(σ.lZ _ hp.1).aY hp.2
 refine eE I<|fk call201 (Pv ⟨σ.dw,σ.bW⟩ hn) I ?_
 rintro _ _ ⟨A51,c52,rfl,K1⟩
 refine ⟨_,I,?_⟩
 replace σ:=σ.more K1
 exact o1 results171 I<|⟨_,_,I,σ.pick [0] [] aB⟩
theorem Pw (hp:YJ g A n c (nS n) w0) (hn:n<=1000):
  Calls prog 130 #[.func (.func 173) #[] #[cY g]] w0 fun e w'=>∃A' c',e=.returned (.slice A' n c')/\St w0 w' [cI A' n c' (nS n)] []:=by
 refine gQ func130 I ntmps130 I fun σ=>?_
 replace σ:=(σ.lZ _ hp.1).aY hp.2
 refine eE I<|fk call171 (K0 ⟨σ.dw,σ.bW⟩ hn) I ?_
 rintro _ _ ⟨A51,c52,rfl,K1⟩
 refine ⟨_,I,?_⟩
 replace σ:=σ.more K1
 refine eE I<|fk call172 (YL σ (k:=0) I I hn) I ?_
 rintro _ _ ⟨rfl,xf⟩
 refine ⟨_,I,?_⟩
 replace σ:=xf
 exact o1 results130 I<|⟨_,_,I,σ.pick [0] [] aB⟩
theorem K2 {es0:List Pt} (h0:(jD A0 n0 c0 es0).P w0) (h1:(fg A1 n0 c1 (nS n0)).P w0) (dy:lI es0):
  Calls prog 86 #[.slice A0 n0 c0,.slice A1 n0 c1] w0 fun e w'=>∃A n c B d,e=.returned (.tuple #[.agg #[aM n0,aM (3*n0+1),.slice A n c,.slice B n0 d],aG 0])/\St w0 w' [dQ A n c (qC es0),cI B n0 d (tZ n0)] []/\(qC es0).length=n:=by
 refine gQ func86 I ntmps86 I fun σ=>?_
 have cQ:=h0.2.1
 have pJ:=dy.some_
 rw [cQ] at pJ
 have hn:n0<=1000:=ae
 replace σ:=(σ.aY h0).aY h1
 refine eE I<|iR cM σ I fun _ de σ=>eE I<|gV call129 (IC σ.dw dy) σ I fun _ σ=>eE I<|fk call131 (YM (A:=A1) (n:=n0) (c:=c1)) I ?_
 rintro _ _ ⟨eQ,rfl,K1⟩
 refine ⟨_,I,?_⟩
 replace σ:=σ.more K1
 refine eE I<|fk call130 (Pw ⟨σ.jr,σ.bW⟩ hn) I ?_
 rintro _ _ ⟨xe,uL,rfl,tp⟩
 refine ⟨_,I,?_⟩
 replace σ:=σ.more tp
 refine eE I<|fk call87 (CF (n:=n0) ae) I ?_
 rintro _ _ ⟨A57,KD,rfl,CD⟩
 refine ⟨_,I,?_⟩
 replace σ:=σ.more CD
 refine eE I<|gV call67 (TU ⟨aZ σ.l8,(pQ _),fun _ _=>trivial⟩ ⟨aZ σ.jr,(pQ _),fun _ _=>trivial⟩) σ I fun _ σ=>kB (b':=true) (a8 I)<|iF I I<|eE I<|fk call132 (YC σ.dw σ.bW dy) I ?_
 rintro _ _ ⟨Cz,n61,c62,B63,d64,rfl,aoJ,aoK⟩
 refine ⟨_,I,?_⟩
 replace σ:=σ.more aoJ
 exact eE I<|fB 5 σ I fun _ σ=>oR (fun e=>lk results86 (RV.cell e bC I (σ.pV (k:=5) I) I) (RV.tmp e I))<|⟨_,_,_,_,_,I,σ.pick [0,1] [] aB,aoK⟩
theorem K3 {es0:List Pt} (h0:(jD A0 n0 c0 es0).P w0) (dy:lI es0):
  Calls prog 48 #[.slice A0 n0 c0] w0 fun e w'=>∃A n c B d,e=.returned (.tuple #[.agg #[aM n0,aM (3*n0+1),.slice A n c,.slice B n0 d],aG 0])/\St w0 w' [dQ A n c (qC es0),cI B n0 d (tZ n0)] []/\(qC es0).length=n:=by
 refine gQ func48 I ntmps48 I fun σ=>?_
 have cQ:=h0.2.1
 have pJ:=dy.some_
 rw [cQ] at pJ
 replace σ:=σ.aY h0
 refine eE I<|iR cM σ I fun _ de σ=>eE I<|fk call87 (CF (n:=n0) ae) I ?_
 rintro _ _ ⟨zk,wW,rfl,xf⟩
 refine ⟨_,I,?_⟩
 replace σ:=σ.more xf
 refine eE I<|fk call86 (K2 σ.bW ⟨aZ σ.jr,(pQ _),fun _ _=>trivial⟩ dy) I ?_
 rintro _ _ ⟨A55,n56,ID,B58,d59,rfl,KS,Yt⟩
 refine ⟨_,I,?_⟩
 replace σ:=σ.more KS
 exact eE I<|fB 3 σ I fun _ σ=>oR (fun e=>lk results48 (RV.cell e bC I σ.G1 I) (RV.tmp e I))<|⟨_,_,_,_,_,I,σ.pick [0,1] [] aB,Yt⟩
theorem aeK {i g:Int} (h:R8 i g n0 n1 es os):mv i g n0 n1 es os:=by
 have h1:=h.1
 unfold uB at h1
 exact ⟨by omega,by omega,h.2.2,h.2.1⟩
theorem IQ {i g:Int} (h0:(fC A0 n0 c0 es0).P w0) (h1:(fg A1 n1 c1 es1).P w0) (dy:mv i g n0 n1 es0 es1):
  Calls prog 212 #[.agg #[aG i,aG g,.slice A0 n0 c0,.slice A1 n1 c1]] w0 fun e w'=>e=.returned (.bool true)/\Below w0.heap.size w0 w':=by
 refine gQ func212 I ntmps212 I fun σ=>?_
 have cQ:=h0.2.1
 have lu:=h0.1.cap
 have eN:=h0.1.big
 unfold maxLen at eN
 have iI:=h1.2.1
 have oI:=h1.1.cap
 have jB:=h1.1.big
 unfold maxLen at jB
 replace σ:=σ.aY h0
 replace σ:=σ.aY h1
 exact eE I<|ll σ I fun _ de σ=>gE 0 σ I<|eE I<|gV call41 (kR σ.dw σ.bW dy) σ I fun _ σ=>gj I<|kB (b':=true) I<|o1 results212 I<|⟨I,σ.below⟩
section
variable {B n0 c0 n1 c1:Nat} {i g:Int} {A0 A1:Option Addr} {es:List IE} {os:List Int} {w:World}
theorem IU (Pc:TY B i g A0 n0 c0 A1 n1 c1 es os w) (hR:R8 i g n0 n1 es os):
  Pp prog 211 #[cY B] (fun x:YE=>#[Pn x,YH x]) (VB es n0) (KX w.heap.size (TY B i g A0 n0 c0 A1 n1 c1 es os)) (fun xs=>xs=Po es n0) (fun pre=>∃k,k<=n0/\pre=Po es k) w:=by
 intro l0 J Jx X hX hX2 hJ hJx hY h0
 have hpX:=Nn Pc hX
 refine Ry func211 I ntmps211 I ?_
 intro a η σ
 replace σ:=((σ.lZ (bk B #[aG i,aG g,.slice A0 n0 c0,.slice A1 n1 c1] 28) hpX.1).aY hpX.2.2).aY hpX.2.1
 refine wp_seq (aI ?_)
 refine aS I (ns (c:=#[.func (.yield l0) #[] #[]]) η σ I I I ?_)
 clear η σ a; intro a Wo de η σ
 refine wpList_nil (b5 (wp_seq (wp_seq (aI ?_))))
 refine aS I (cH (v:=.agg #[aG i,aG g,.slice A0 n0 c0,.slice A1 n1 c1]) η I (jz η bC I σ.fX I) ?_)
 clear η a; intro a η
 refine aS I (gG η I call212 I (IQ σ.bW σ.dw (aeK hR)) ?_)
 rintro e w53 ⟨rfl,hb⟩
 refine ⟨_,I,?_⟩
 clear η a; intro a η
 replace σ:=σ.call hb
 clear hb
 refine aS I (cH (v:=.bool false) η I (om η I I) ?_)
 clear η a; intro a η
 refine wpList_nil (b5 ?_)
 refine rV η I (I) ?_
 refine wp_skip (b5 (wp_seq (aI ?_)))
 refine aS I (cH (v:=.pointer (some ⟨B,2,none⟩)) η I (gF η vL (mh.size) aB I) ?_)
 clear η a; intro a η
 refine aS I (cH (v:=.slice A0 n0 c0) η I (cC η mh I σ.fX I) ?_)
 clear η a; intro a η
 refine aS I (gG η I call213 I (KU (A0:=A0) (n0:=n0) (c0:=c0)) ?_)
 rintro e w2 ⟨jY,rfl,hS,yo,hb⟩
 refine ⟨_,I,?_⟩
 clear η a; intro a η
 have awI:X.heap.size<=de:=σ.oge (k:=0) rfl
 have awJ:=σ.below.size
 replace σ:=σ.fresh hb (bk jY #[.slice A0 n0 c0] 25) hS (fun _ hb=>hb ▸ yo)
 clear hS
 clear hb
 refine wpList_nil (b5 (wp_block ?_))
 have hxs:=σ.below.size
 have hJ2:J [] w2:=hJ _ _ _ none h0 (qW σ.below) fun r e=>by cases e
 have qz:(bk de #[.func (.yield l0) #[] #[]] 297).P w2:=σ.jr
 have kY:(bk jY #[.slice A0 n0 c0] 25).P w2:=σ.bW
 have Cp:TY B i g A0 n0 c0 A1 n1 c1 es os w2:=⟨σ.kC,σ.dw,σ.fX⟩
 clear σ
 refine Pr (α:=YE) (enc:=Pn) (enc':=YH) (Kp:=KB (bwP jY A0 n0 c0 es)) η I call238 I I (KY ⟨kY,Cp.2.1⟩) (fun h k q=>k (h q))
  (fun Y o o' h hc hq=>⟨kr (e:=bk jY #[.slice A0 n0 c0] 25) (B:=0) iH hq.1 (grownBy_putObj' Y _ o') fun r e=>by cases e; exact ⟨av _,o,h,hc⟩,kr (B:=0) (kO (fun _ _ h=>h) aB) hq.2 (grownBy_putObj' Y _ o') fun r e=>by cases e; exact ⟨av _,o,h,hc⟩⟩)
  (fun pre Y=>J pre Y/\(bk de #[.func (.yield l0) #[] #[]] 297).P Y/\(bk jY #[.slice A0 n0 c0] 25).P Y/\TY B i g A0 n0 c0 A1 n1 c1 es os Y/\w2.heap.size<=Y.heap.size) (fun c pre Y=>Jx pre Y/\c=.ret)
  (fun s Y Z row hs hg hr=>⟨nU hJ hxs s Y Z row hs.1 hg hr,kr iH hs.2.1 hg hr,kr iH hs.2.2.1 hg hr,Fv hs.2.2.2.1 hg hr,aD hs.2.2.2.2 hg.size⟩)
  (fun c s Y Z row hs hg hr=>⟨nU hJx hxs s Y Z row hs.1 hg hr,hs.2⟩) ⟨hJ2,qz,kY,Cp,ar _⟩
  (fun x a' Y=>∃g4,b7 [] 18 a' [(2,cY de),(3,Pn x),(4,cY g4)]/\(bk g4 #[aG x.2.1,aG x.2.2.1,aG x.2.2.2.1,aG x.2.2.2.2.1,aG x.2.2.2.2.2] 116).P Y)
  (fun x a' s Y Z row hs hg hr=>hs.elim fun g4 h=>⟨g4,h.1,kr iH h.2 hg hr⟩) ?_ ?_ ?_ ?_
 ·intro ix pre x Y K _ hi hK a η
  have σ:=St.start Y
  refine wpIn_seq (vf ?_)
  refine lg I (fun _ h=>by cases h) (cH (v:=Pn x) η I (cf η I) ?_)
  clear η a; intro a η
  refine yy (b5 (vf ?_))
  refine lg I (fun _ h=>by cases h) (kQ (c:=#[aG 0,aG 0,aG 0,aG 0,aG 0]) η σ I bm I ?_)
  clear η σ a; intro a w84 g83 η σ
  refine lg I (fun _ h=>by cases h) (kZ (k:=0) (c':=#[aG x.2.1,aG x.2.2.1,aG x.2.2.2.1,aG x.2.2.2.2.1,aG x.2.2.2.2.2]) η σ (aF.size) I I I I fW I I ?_)
  clear η σ a; intro a w85 η σ
  refine yy ?_
  have rY:=qW σ.below
  exact b5 (hK _ _ (Nl σ.below) (fun q=>⟨kr (e:=bk jY #[.slice A0 n0 c0] 25) (B:=0) iH q.1 rY (fun r e=>by cases e),kr (B:=0) (kO (fun _ _ h=>h) aB) q.2 rY (fun r e=>by cases e)⟩)
   ⟨nU hJ hxs _ _ _ none hi.1 rY (fun r e=>by cases e),kr (B:=0) iH hi.2.1 rY (fun r e=>by cases e),kr (B:=0) iH hi.2.2.1 rY (fun r e=>by cases e),Fv (D:=0) hi.2.2.2.1 rY (fun r e=>by cases e),aD hi.2.2.2.2 rY.size⟩
   ⟨g83,η.sub aT,σ.gq⟩)
 ·rintro ix pre x a Y hv hi ⟨g4,η,hg4⟩
  refine wpIn_block (wpIn_seq (vf ?_))
  refine lg I (fun _ h=>by cases h) (cH (v:=.func (.yield l0) #[] #[]) η I (cC η qO I hi.2.1 I) ?_)
  clear η a; intro a η
  refine lg I (fun _ h=>by cases h) (cH (v:=Pn x) η I (ff η I) ?_)
  clear η a; intro a η
  refine lg I (fun _ h=>by cases h) (cH (v:=YH x) η I (jz η aF I hg4 I) ?_)
  clear η a; intro a η
  refine Bw I (yQ η I I I (hY pre x Y hv hi.1) ?_)
  rintro e Z hZ
  have hkx:KX w.heap.size (TY B i g A0 n0 c0 A1 n1 c1 es os) Y Z:=by
   rcases hZ with h | h
   ·exact h.2.2
   ·exact h.2.2
  have hkf:KeepsFrom w2.heap.size Y Z:=⟨hkx.1,fun b o hb ho _=>hkx.2.1 b o ae ho⟩
  have po:(bk de #[.func (.yield l0) #[] #[]] 297).P Z:=hkx.2.1 _ _ ae hi.2.1
  have QT:(bk jY #[.slice A0 n0 c0] 25).P Z:=hkx.2.1 _ _ ae hi.2.2.1
  have hz3:=hkx.2.2 hi.2.2.2.1
  rcases hZ with ⟨rfl,hJ3,_⟩ | ⟨rfl,hJ3,_⟩
  ·refine ⟨_,I,?_⟩
   clear η a; intro a η
   refine lg I (fun _ h=>by cases h) (cH (v:=.bool false) η I (om η I I) ?_)
   clear η a; intro a η
   refine yy (b5 ?_)
   refine Rx η I I ?_
   refine wpIn_skip (tK ?_)
   exact ⟨hkf,fun _=>⟨QT,hz3.2.1⟩,hJ3,po,QT,hz3,aD hi.2.2.2.2 hkx.1⟩
  ·refine ⟨_,I,?_⟩
   clear η a; intro a η
   refine lg I (fun _ h=>by cases h) (cH (v:=.bool true) η I (om η I I) ?_)
   clear η a; intro a η
   refine yy (b5 ?_)
   refine Rv η I I ?_
   refine wpIn_ret (qM ?_)
   exact ⟨hkf,fun _=>⟨QT,hz3.2.1⟩,hJ3,I⟩
 ·intro D xs Z a hD hS hI hdD η
  refine tK ?_
  refine xG η hdD (Ow results211) ?_
  exact ⟨⟨_,I⟩,.inl ⟨_,hS,hJ.putObj _ hI.1 ae hdD I⟩⟩
 ·rintro D c pre Z a hD hS ⟨hI,rfl⟩ hdD η
  refine wp_ret (qM ?_)
  refine xG η hdD (Ow results211) ?_
  exact ⟨⟨_,I⟩,.inr ⟨_,hS,hJx.putObj _ hI ae hdD I⟩⟩
end
theorem D' {i:Int} (h:mv i (g:Nat) n0 n1 es os):R8 i (g:Nat) n0 n1 es os:=by
 have h1:=h.i1
 have h2:=h.ln
 exact ⟨by unfold uB; omega,h.out,h.may⟩
theorem Nr {e:IE} (he:es[k]?=some e) (h:(ly os (es.drop (k+1))).2 e.2.1=false):za os es (k+1)=za os es k:=by
 have h1:=EU (os:=os) he
 rw [h,O0 (XL (fx k))] at h1
 exact h1
theorem T7 {e:IE} {b:Bool} (he:es[j]?=some e) (hb:bs[j]?=some b):Wl (es.drop j) (bs.drop j)=(if b && !qS e then [e] else [])++Wl (es.drop (j+1)) (bs.drop (j+1)):=by
 rw [oA he,oA hb,Wl]
 split<;>rfl
theorem aeL (h:es.length<=j):Wl (es.drop j) (bs.drop j)=[]:=by rw [bo h]; cases bs.drop j<;>rfl
theorem K4:
  Calls prog 140 #[.agg #[aG op,aG tr,aG ra,aG rb,aG cn]] w0 fun e w'=>e=.returned (.bool (qS (op,tr,ra,rb,cn)))/\Below w0.heap.size w0 w':=by
 refine gQ func140 I ntmps140 I fun σ=>eE I<|ll σ I fun _ de σ=>lE 0 σ I<|gj I<|wQ (fun mX=>?_) fun mX=>?_
 ·exact lE 0 σ I<|lE 0 σ I<|gj I<|o1 results140 I<|⟨aq (fun b=>Ending.returned (Value.bool b)) (eI.2 (by unfold qS; simp [*])),σ.below⟩
 ·exact o1 results140 I<|⟨aq (fun b=>Ending.returned (Value.bool b)) (eI.2 (by unfold qS; simp [*])),σ.below⟩
theorem Px {i:Int} (h0:(fC A0 n0 c0 es0).P w0) (h1:(fg A1 n1 c1 es1).P w0) (dy:mv i (g:Nat) n0 n1 es0 es1):
  Calls prog 139 #[.agg #[aG i,aM g,.slice A0 n0 c0,.slice A1 n1 c1]] w0 fun e w'=>∃A c,e=.returned (.slice A n0 c)/\St w0 w' [fc dD 4 1 A n0 c (fl fO (ly es1 es0).1)] []:=by
 have k1:=dy.i1
 have k2:=dy.ln
 have hR:=D' dy
 refine enM tb mixed func139 I ntmps139 I fun σ=>?_
 have cQ:=h0.2.1
 have lu:=h0.1.cap
 have eN:=h0.1.big
 unfold maxLen at eN
 have iI:=h1.2.1
 have oI:=h1.1.cap
 have jB:=h1.1.big
 unfold maxLen at jB
 replace σ:=σ.aY h0
 replace σ:=σ.aY h1
 refine eE I<|ll σ I fun _ de σ=>Wu I<|lE 0 σ I<|eE I<|Cn fO false dD σ qQ I ae (by unfold maxLen; omega) fun _ eQ σ=>eE rfl<|iR sU σ rfl fun _ jh σ=>eE rfl<|mK 0 σ rfl fun _ σ=>lE 2 σ rfl<|?_
 rw [Sm,show sF g (fun _=>false)=sF g (DV (fun _=>false) (es1.take 0)) from s6 fun r=>(EW (fun _=>false) r).symm] at σ
 refine ks (fun mz l w=>∃j:Nat,n1 - j=mz/\l=[(17,aM j),(1,cY de),(3,cY jh),(15,.slice A1 n1 c1),(16,aM n1)]/\St w0 w [bk jh #[.slice (cS eQ) g g] 219,kX (cS eQ) g g (sF g (DV (fun _=>false) (es1.take j))),bk de #[aG i,aM g,.slice A0 n0 c0,.slice A1 n1 c1] 28] [fg A1 n1 c1 es1,fC A0 n0 c0 es0]/\j<=n1) ⟨0,I,I,σ,(av _)⟩ aT ?_
 rintro _ _ _ ⟨j,rfl,rfl,σ,hj⟩
 refine il I<|wD (fun rP=>?_) fun rP=>?_
 ·have fh:j<n1:=ae
  obtain ⟨x,eG⟩:∃e,es1[j]?=some e:=⟨_,ag ae⟩
  have zQ:=dy.out x (ah eG)
  obtain ⟨q,rfl⟩:=aU zQ.1
  have hqg:q<g:=ae
  refine iT I I<|vE I (fun η=>aX (i:=j) η underlying26 (bn.size) I I ae I σ.bW.1)<|cE I (fun η=>bE (i:=j) (j:=0) (e:=((q:Nat):Int)) η bn I I di aB σ.bW.1 ae eG I)<|lE 0 σ I<|vE I (fun η=>aX (i:=q) η underlying219 (eD.size) I I ae I (aZ σ.l8))<|eE I<|uH 1 q (e1:=true) kH σ I I ae (vt _ _) fun _ σ=>?_
  rw [Ac eG] at σ
  exact can (j:=1) I ae<|gI ⟨j+1,I,I,σ,ae⟩ aT ae
 ·rw [ax (by omega),My] at σ
  refine iF I I<|lE 2 σ I<|eE I<|Cn fO false dD σ qQ I ae (by unfold maxLen; omega) fun _ sf σ=>eE rfl<|iR sU σ rfl fun _ zo σ=>eE rfl<|mK 0 σ rfl fun _ σ=>?_
  rw [<- Mx es1 cQ,show (ly es1 []).2=(ly es1 (es0.drop n0)).2 by rw [bo ae]] at σ
  refine gE 4 σ I<|eE I<|fk call184 (TX (i:=i) (g:=(g:Nat)) (A0:=A0) (n0:=n0) (c0:=c0) (A1:=A1) (n1:=n1) (c1:=c1)) I ?_
  rintro _ _ ⟨gB,rfl,hS,yo,hb⟩
  refine ⟨_,I,?_⟩
  replace σ:=σ.fresh hb (bk gB #[aG i,aM g,.slice A0 n0 c0,.slice A1 n1 c1] 28) hS (fun _ hb=>hb ▸ yo)
  refine nmE σ fun wL σ=>?_
  have qZ:=σ.below.size
  have T8:=T0 σ
  refine rgE (α:=YE) (encs:=fun x:YE=>#[aM x.1,.agg #[aG x.2.1,aG x.2.2.1,aG x.2.2.2.1,aG x.2.2.2.2.1,aG x.2.2.2.2.2]]) (V:=VB es0 n0) I call211 (fun _=>I) (by exact Cp rfl) (IU ⟨σ.bW,σ.fX,σ.dw⟩ hR) (IM) ((fun Y o o' h hc=>TZ h hc)) (fun pre W=>St w0 W [bk zo #[.slice (cS sf) n0 n0] 219,kX (cS sf) n0 n0 (za es1 es0 (n0 - pre.length)),bk jh #[.slice (cS eQ) g g] 219,kX (cS eQ) g g (sF g (ly es1 (es0.drop (n0 - pre.length))).2),bk de #[aG i,aM g,.slice A0 n0 c0,.slice A1 n1 c1] 28] [bk gB #[aG i,aM g,.slice A0 n0 c0,.slice A1 n1 c1] 28,fg A1 n1 c1 es1,fC A0 n0 c0 es0]/\wL.heap.size<=W.heap.size) (fun x l W=>∃g4,wL.heap.size<=g4/\l=[(3,cY jh),(6,cY zo),(7,aM x.1),(8,cY g4)]/\(bk g4 #[aG x.2.1,aG x.2.2.1,aG x.2.2.2.1,aG x.2.2.2.2.1,aG x.2.2.2.2.2] 116).P W) (fun _ _ _ _ ⟨σ,AL⟩ hg hr=>⟨σ.grown qZ ⟨iH,kE,iH,kE,iH,trivial⟩ ⟨iH,(kO (fun _ _ h=>h) aB),(kO (fun _ _ h=>h) aB),trivial⟩ hg hr,aD AL hg.size⟩) (fun x l s Y Z row ⟨g4,h1,h2,h3⟩ hg hr=>⟨g4,h1,h2,kr iH h3 hg hr⟩) ⟨σ.pick [0,1,2,3,4] [0,1,2] aB,ar _⟩ ?_ ?_ ?_
  ·rintro ix pre x W K hV ⟨hsi,AL⟩ hK
   have σ:=St.start W
   exact eE I<|iR bm σ I fun _ xW σ=>eE I<|fB 0 σ I fun _ σ=>qaE fun a ea=>hK a [(3,cY jh),(6,cY zo),(7,aM x.1),(8,cY xW)] _ (ea.sub aT) (Nl σ.below) (abk σ.below) ⟨hsi.grown (B:=wL.heap.size) qZ ⟨iH,kE,iH,kE,iH,trivial⟩ ⟨iH,(kO (fun _ _ h=>h) aB),(kO (fun _ _ h=>h) aB),trivial⟩ (qW σ.below) (fun r e=>by cases e),aD AL σ.below.size⟩ (⟨xW,aD AL (σ.oge (k:=0) rfl),rfl,σ.gq⟩)
  ·rintro ix pre ⟨xj,x1,x2,x3,x4,x5⟩ l W ⟨JX,hxi,hex⟩ ⟨σ,AL⟩ ⟨g4,hg4,rfl,hgb⟩
   dsimp only at hex hgb hxi
   have hmy:gl (x1,x2,x3,x4,x5) g:=dy.may _ (ah hex)
   have Qn:=hmy
   unfold gl at Qn
   dsimp only at Qn
   obtain ⟨t,ht⟩:∃t:Nat,x2=t:=⟨x2.toNat,by omega⟩
   subst ht
   have htg:t<g:=ae
   have hak:=tu hmy
   have hxj:n0 - pre.length=xj+1:=ae
   have aoP:xj<n0:=ae
   rw [hxj] at σ
   have wG:wj wL.heap.size [bk zo #[.slice (cS sf) n0 n0] 219,kX (cS sf) n0 n0 (za es1 es0 (xj+1)),bk jh #[.slice (cS eQ) g g] 219,kX (cS eQ) g g (sF g (ly es1 (es0.drop (xj+1))).2),bk de #[aG i,aM g,.slice A0 n0 c0,.slice A1 n1 c1] 28]:=T8
   replace σ:=σ.abj wG hg4 hgb
   replace σ:=σ.abi wG
   obtain ⟨bt,T9⟩:∃bt,(ly es1 (es0.drop (xj+1))).2 ((t:Nat):Int)=bt:=⟨_,rfl⟩
   have hbe:(sF g (ly es1 (es0.drop (xj+1))).2)[t]?=some bt:=by rw [Sl htg,T9]
   refine lE 2 σ I<|cE I (fun η=>cC η bn I (ou σ.dw) I)<|vE I (fun η=>aX (i:=t) η underlying219 (eD.size) I I ae I (aZ σ.wF))<|cE I (fun η=>bE (i:=t) (j:=0) (e:=bt) η eD I I kH aB (aZ σ.wF) ae hbe I)<|wB (fun tt=>?_) fun tt=>?_
   ·subst tt
    refine iF I I<|lE 0 σ I<|vE I (fun η=>aX (i:=xj) η underlying219 (eD.size) I I ae I (aZ σ.l8))<|eE I<|uH 1 xj (e1:=true) kH σ I I ae ((Mw ae).trans cQ) fun _ σ=>lE 2 σ I<|cE I (fun η=>cC η bn I (ou σ.dw) I)<|vE I (fun η=>aX (i:=t) η underlying219 (eD.size) I I ae I (aZ σ.wF))<|eE I<|uH 3 t (e1:=false) kH σ I I ae (vt _ _) fun _ σ=>cE I (fun η=>jz η aF I (ou σ.dw) I)<|eE I<|fk call121 (qv (op:=x1) (tr:=((t:Nat):Int)) (ra:=x3) (rb:=x4) (cn:=x5) ae) I ?_
    rintro _ _ ⟨Qm,JF,n61,rfl,wZ,xc⟩
    refine ⟨_,I,?_⟩
    replace σ:=σ.more wZ
    have Fp:=ox x1 x3 x4
    rw [EV,show sF g (fun r=>if r=((t:Nat):Int) then false else (ly es1 (es0.drop (xj+1))).2 r)=sF g (DV (fun r=>if r=((t:Nat):Int) then false else (ly es1 (es0.drop (xj+1))).2 r) ((gx x1 x3 x4).take 0)) from s6 fun r=>(EW (fun r=>if r=((t:Nat):Int) then false else (ly es1 (es0.drop (xj+1))).2 r) r).symm] at σ
    refine ks (fun mz l w=>∃m:Nat,n61 - m=mz/\l=[(49,aM m),(3,cY jh),(47,.slice Qm n61 JF),(48,aM n61)]/\St w0 w [cI Qm n61 JF (gx x1 x3 x4),bk zo #[.slice (cS sf) n0 n0] 219,kX (cS sf) n0 n0 ((za es1 es0 (xj+1)).set xj true),bk jh #[.slice (cS eQ) g g] 219,kX (cS eQ) g g (sF g (DV (fun r=>if r=((t:Nat):Int) then false else (ly es1 (es0.drop (xj+1))).2 r) ((gx x1 x3 x4).take m))),bk de #[aG i,aM g,.slice A0 n0 c0,.slice A1 n1 c1] 28] [kaF wL.heap.size W,bk g4 #[aG x1,aM t,aG x3,aG x4,aG x5] 116,bk gB #[aG i,aM g,.slice A0 n0 c0,.slice A1 n1 c1] 28,fg A1 n1 c1 es1,fC A0 n0 c0 es0]/\m<=n61) ⟨0,I,I,σ,(av _)⟩ aT ?_
    rintro _ _ _ ⟨m,rfl,rfl,σ,hm⟩
    refine il I<|wD (fun IA=>?_) fun IA=>?_
    ·have WR:m<(gx x1 x3 x4).length:=ae
     obtain ⟨x,eG⟩:∃e,(gx x1 x3 x4)[m]?=some e:=⟨_,ag WR⟩
     have zQ:=hak x (ah eG)
     obtain ⟨q,rfl⟩:=aU zQ.1
     have hqg:q<g:=ae
     refine iT I I<|vE I (fun η=>aX (i:=m) η underlying26 (bn.size) I I ae I (aZ σ.jr))<|cE I (fun η=>bE (i:=m) (j:=0) (e:=((q:Nat):Int)) η bn I I di aB (aZ σ.jr) ae eG I)<|lE 3 σ I<|vE I (fun η=>aX (i:=q) η underlying219 (eD.size) I I ae I (aZ σ.Dh))<|eE I<|uH 4 q (e1:=true) kH σ I I ae (vt _ _) fun _ σ=>?_
     rw [Ac eG] at σ
     exact can (j:=1) I ae<|gI ⟨m+1,I,I,σ,ae⟩ aT ae
    ·refine iF I I<|?_
     rw [show (za es1 es0 (xj+1)).set xj true=za es1 es0 xj from by rw [<- T9]; exact EU hex,ax (show (gx x1 x3 x4).length<=m by omega),show sF g (DV (fun r=>if r=((t:Nat):Int) then false else (ly es1 (es0.drop (xj+1))).2 r) (gx x1 x3 x4))=sF g (ly es1 (es0.drop xj)).2 from Sn hex rfl T9] at σ
     have iI:n0 - (pre++[((xj,x1,(t:Int),x3,x4,x5):YE)]).length=xj:=by rw [ai,bh]; omega
     rw [<- iI] at σ
     exact rdE ⟨σ.ka (k:=0) I,σ.kax (k:=0) I ⟨σ.fX,σ.nX,σ.kC⟩,⟨σ.pick [1,2,3,4,5] [2,3,4] aB,aD AL (σ.ka (k:=0) I).size⟩⟩
   ·subst tt
    refine iT I I<|?_
    rw [show za es1 es0 (xj+1)=za es1 es0 xj from Nr hex T9,show (ly es1 (es0.drop (xj+1))).2=(ly es1 (es0.drop xj)).2 from (aaJ hex T9).symm] at σ
    have iI:n0 - (pre++[((xj,x1,(t:Int),x3,x4,x5):YE)]).length=xj:=by rw [ai,bh]; omega
    rw [<- iI] at σ
    exact rdE ⟨σ.ka (k:=0) I,σ.kax (k:=0) I ⟨σ.fX,σ.nX,σ.kC⟩,⟨σ.pick [0,1,2,3,4] [2,3,4] aB,aD AL (σ.ka (k:=0) I).size⟩⟩
  ·rintro D66 xs W aeM hS ⟨σ,AL⟩ Ua
   obtain rfl:=hS
   rw [AJ,eH] at σ
   replace σ:=σ.aco ⟨iH,kE,iH,kE,iH,trivial⟩ Ua
   have Ub:=aD qZ aeM
   refine lE 0 σ I<|?_
   have Bv:=σ.acp (k:=0) rfl Ub ⟨iH,kE,iH,kE,iH,trivial⟩ ⟨iH,(kO (fun _ _ h=>h) aB),(kO (fun _ _ h=>h) aB),trivial⟩
   exact oM1 results139 I σ.bW ⟨_,_,I,Bv.pick [1] [] aB⟩
theorem YN {i:Int} (h0:(fC A0 n0 c0 es0).P w0) (h1:(fg A1 n1 c1 es1).P w0) (dy:mv i (g:Nat) n0 n1 es0 es1):
  Calls prog 91 #[.agg #[aG i,aM g,.slice A0 n0 c0,.slice A1 n1 c1]] w0 fun e w'=>∃A n c B d,e=.returned (.tuple #[.agg #[aG i,aM g,.slice A n c,.slice B n1 d],aG 0])/\St w0 w' [dQ A n c (qg es1 es0),cI B n1 d es1] []/\(qg es1 es0).length=n:=by
 have k1:=dy.i1
 have k2:=dy.ln
 refine gQ func91 I ntmps91 I fun σ=>?_
 have cQ:=h0.2.1
 have lu:=h0.1.cap
 have eN:=h0.1.big
 unfold maxLen at eN
 have iI:=h1.2.1
 have oI:=h1.1.cap
 have jB:=h1.1.big
 unfold maxLen at jB
 replace σ:=σ.aY h0
 replace σ:=σ.aY h1
 refine eE I<|ll σ I fun _ de σ=>eE I<|iR cM σ I fun _ eQ σ=>gE 1 σ I<|eE I<|gV call41 (kR σ.dw σ.bW dy) σ I fun _ σ=>lK I<|kB (b':=false) I<|iF I I<|gE 1 σ I<|eE I<|fk call139 (Px σ.dw σ.bW dy) I ?_
 rintro _ _ ⟨si,rk,rfl,CG⟩
 refine ⟨_,I,?_⟩
 replace σ:=σ.more CG
 replace σ:=(σ.fp dD 116 5)
 refine ks (fun mz l w=>∃j:Nat,∃A2:Option Addr,∃c2:Nat,∃n2:Nat,∃jU:List IE,n0 - j=mz/\l=[(6,.slice A2 n2 c2),(21,aM j),(1,cY de),(2,cY eQ),(19,.slice si n0 rk),(20,aM n0)]/\St w0 w [dQ A2 n2 c2 jU,kX si n0 rk ((ly es1 es0).1),bk eQ #[aG 0,aG 0,bM,bM] 28,bk de #[aG i,aM g,.slice A0 n0 c0,.slice A1 n1 c1] 28] [fg A1 n1 c1 es1,fC A0 n0 c0 es0]/\j<=n0/\jU++Wl (es0.drop j) ((ly es1 es0).1.drop j)=qg es1 es0/\jU.length=n2/\n2<=j) ⟨0,none,0,0,([]:List IE),I,I,σ,(av _),I,I,(ar _)⟩ aT ?_
 rintro _ _ _ ⟨j,A2,c2,n2,jU,rfl,rfl,σ,hj,hi,mr,kY⟩
 refine il I<|wD (fun wU=>?_) fun wU=>?_
 ·have fh:j<n0:=ae
  obtain ⟨⟨op,tr,ra,rb,cn⟩,eG⟩:∃e,es0[j]?=some e:=⟨_,ag ae⟩
  have hbl:=Mv es1 es0
  obtain ⟨bj,hbj⟩:∃e,(ly es1 es0).1[j]?=some e:=⟨_,ag ae⟩
  refine iT I I<|vE I (fun η=>aX (i:=j) η underlying219 (eD.size) I I ae I (aZ σ.l8))<|cE I (fun η=>bE (i:=j) (j:=0) (e:=bj) η eD I I kH aB (aZ σ.l8) ae hbj I)<|wB (fun yM=>?_) fun yM=>?_
  ·subst yM
   refine lE 3 σ I<|vE I (fun η=>aX (i:=j) η underlying25 (aF.size) I I ae I σ.dw.1)<|cE I (fun η=>cX (v:=#[aG op,aG tr,aG ra,aG rb,aG cn]) (i:=j) (e:=(op,tr,ra,rb,cn)) η aF I I lL σ.dw.1 ae eG I)<|eE I<|gV call140 (K4 (op:=op) (tr:=tr) (ra:=ra) (rb:=rb) (cn:=cn)) σ I fun _ σ=>wB (fun tt=>?_) fun tt=>?_
   ·exact iF I I<|can (j:=1) I ae<|gI ⟨j+1,A2,c2,n2,jU,I,I,σ,ae,(by have h9:=hi; rw [T7 eG hbj,tt] at h9; simpa using h9),(by simp [mr]),ae⟩ aT ae
   ·exact iT I I<|lE 3 σ I<|vE I (fun η=>aX (i:=j) η underlying25 (aF.size) I I ae I σ.dw.1)<|cE I (fun η=>cX (v:=#[aG op,aG tr,aG ra,aG rb,aG cn]) (i:=j) (e:=(op,tr,ra,rb,cn)) η aF I I lL σ.dw.1 ae eG I)<|eE I<|mi (z:=5) #[aG op,aG tr,aG ra,aG rb,aG cn] σ (aF.size) bm I bI fun _ tU σ=>eE I<|oO (new:=[(op,tr,ra,rb,cn)]) 1 0 σ dK I (by unfold maxLen; omega) ae fun _ C9 xv σ=>can (j:=1) rfl ae<|gI ⟨j+1,(cS C9),xv,(n2+1),(jU++[(op,tr,ra,rb,cn)]),rfl,rfl,σ.pick [1,2,3,4] [0,1] aB,ae,(by have h9:=hi; rw [T7 eG hbj,tt] at h9; simpa using h9),(by simp [mr]),ae⟩ aT ae
  ·subst yM
   exact iF I I<|can (j:=1) I ae<|gI ⟨j+1,A2,c2,n2,jU,I,I,σ,ae,(by have h9:=hi; rw [T7 eG hbj] at h9; simpa using h9),(by simp [mr]),ae⟩ aT ae
 ·have aeN:jU=qg es1 es0:=by rw [<- hi,aeL ae,bq]
  refine iF I I<|lj [9] [0,5,8,13,16,20,25,30,32,38,40] bI σ fun _ σ=>lS 3 I<|lS 3 I<|lS 3 I<|eS I<|fk call94 (yP σ.bW ae) I ?_
  rintro _ _ ⟨A62,c63,rfl,Fo⟩
  refine ⟨_,I,?_⟩
  replace σ:=σ.more Fo
  exact sk (σ.kd 1 0)<|vE I (fun η=>eV (c:=#[aG i,aM g,.slice A2 n2 c2,.slice A62 n1 c63]) jq η I I)<|eS I<|fB 3 σ I fun _ σ=>sz I<|oR (fun e=>lk results91 (RV.cell e bC I σ.G1 I) (RV.tmp e I))<|by rw [<- aeN]; exact ⟨_,_,_,_,_,rfl,σ.pick [1,0] [] aB,mr⟩
def lsK (k:Ky):List Int:=[k.1,k.2.1,k.2.2.1,k.2.2.2]
theorem aoT:G5 prog 273 4:=⟨by kernel_rfl,by kernel_rfl,by kernel_rfl,by kernel_rfl,by kernel_rfl⟩
theorem YO (b:Bool) (x:Ky) (w:World):(Instr.checkKey b 10000 273 (.agg (ints (lsK x)))).run prog w=.ok () w:=by
 have hi:∀(c:Value) (n:Nat),(Instr.checkKey b (n+1) 3 (aG 0)).run prog w=.ok () w:=fun _ n=>MapKept.run_checkKey underlying3 (by simp [MapKept.IsKey]) b n
 have hk:∀(v:Int) (n:Nat),(Instr.checkKey b (n+1) 3 (aG v)).run prog w=.ok () w:=fun v n=>MapKept.run_checkKey underlying3 (by simp [MapKept.IsKey]) b n
 have hp:∀(off:Nat) (v:Int),(ints (lsK x))[off]?=some (aG v)->(part 3 (ints (lsK x)) off).run prog w=.ok (aG v) w:=fun off v h=>run_part_plain _ bI h
 unfold Instr.checkKey
 simp only [Sem.run_bind,run_underlying underlying273,Result.andThen_ok]
 simp [hp 0 x.1 rfl,hp 1 x.2.1 rfl,hp 2 x.2.2.1 rfl,hp 3 x.2.2.2 rfl,hk,Result.andThen]
theorem IV:Uc prog 273 (fun x:Ky=>Value.agg (ints (lsK x))):=kyS lsK aoT underlying273 (fun _=>rfl) (fun x y h=>by
 obtain ⟨a,b,c,d⟩:=x
 obtain ⟨a',b',c',d'⟩:=y
 simpa [lsK] using h) YO
theorem kI (w:World):(zeroValue 3).run prog w=.ok (aG 0) w:=by
 rw [zeroValue3]
section
variable {α:Type} [DecidableEq α]
theorem xX (x k:α) (v:Int):∀(l:List (α×Int)) (i:Nat),AM x (l++[(k,v)]) i=match AM x l i with | some r=>some r | none=>if k=x then some (i+l.length,v) else none
 | [],i=>by unfold AM; rfl
 | p::l,i=>by
  rw [ft,AM,AM]
  by_cases h:p.1=x
  ·rw [au h,au h]
  ·rw [ak h,ak h,xX x k v l (i+1),aR,show i+1+l.length=i+(l.length+1) by omega]
end
def Ue (lm kn:List (Ky×Int)):Prop:=∀x,uP x lm=(lkp kn x).isSome/\Gy x lm=(lkp kn x).getD 0
theorem Ue.nil:Ue [] []:=fun _=>⟨rfl,rfl⟩
theorem Ue.add {lm:List (Ky×Int)} (h:Ue lm kn) {k:Ky} (hk:uP k lm=false):Ue (lm++[(k,v)]) ((k,v)::kn):=fun x=>by
 have h1:=h x
 unfold uP Gy at h1
 unfold uP at hk
 unfold uP Gy
 rw [xX,lkp]
 by_cases q:k=x
 ·subst q
  cases hf:AM k lm 0 with
  | none=>simp
  | some r=>rw [hf] at hk; cases hk
 ·rw [ak q,ak q]
  cases hf:AM x lm 0 with
  | none=>rw [hf] at h1; exact h1
  | some r=>rw [hf] at h1; exact h1
theorem YP (hn:∀x,x<j->h[x]?≠some v) (hj:h[j]?=some v):qy h v=(j:Nat):=by
 unfold qy
 obtain ⟨hl,hv⟩:=aE.1 hj
 rw [gw.2 ⟨hl,a8 hv,fun k hk=>by
  have:=hn k hk
  rw [ag ae] at this
  simpa using this⟩]
theorem Uf (hn:∀x,x<h.length->h[x]?≠some v):qy h v=-1:=by
 unfold qy
 rw [jj.2 fun x hx=>by
  obtain ⟨i,hi⟩:=dO hx
  have:=hn i (aE.1 hi).1
  rw [hi] at this
  simpa using this]
theorem YQ (hn:∀x,x<j->h[x]?≠some v) (hj:h[j]?=some x) (hx:x≠v):∀x,x<j+1->h[x]?≠some v:=fun y hy=>by
 rcases aV y j with c | c
 ·exact hn y c
 ·obtain rfl:y=j:=ae
  rw [hj]
  simpa using hx
theorem sq (hx:h[r]?=some x):h.getD ((r:Nat):Int).toNat 0=x:=by rw [ed,aj,hx]; rfl
theorem sr {t:Nat} (ht:(bk t #[.slice A n c,.map (some k1),.map (some k2),aG nx] 218).P w0) (hh:(fg A n c h).P w0):
  Calls prog 138 #[cY t,aG v] w0 fun e w'=>e=.returned (aG (qy h v))/\Below w0.heap.size w0 w':=by
 refine gQ func138 I ntmps138 I fun σ=>?_
 have hlen:=hh.2.1
 have sK:=aD hh.1.cap hh.1.big
 unfold maxLen at sK
 replace σ:=(σ.lZ _ ht).aY hh
 refine Wu I<|cE I (fun η=>cC η rv I (ou σ.dw) I)<|ks (fun mz l w=>∃j:Nat,n - j=mz/\l=[(12,aM j),(1,aG v),(10,.slice A n c),(11,aM n)]/\St w0 w [] [fg A n c h,bk t #[.slice A n c,.map (some k1),.map (some k2),aG nx] 218]/\j<=n/\(∀x,x<j->h[x]?≠some v)) ⟨0,I,I,σ,(av _),(fun _ h=>absurd h (dB _))⟩ aT ?_
 rintro _ _ _ ⟨j,rfl,rfl,σ,hj,v7⟩
 refine il I<|wD (fun lC=>?_) fun lC=>?_
 ·have fh:j<n:=ae
  obtain ⟨x,eG⟩:∃e,h[j]?=some e:=⟨_,ag ae⟩
  refine iT I I<|vE I (fun η=>aX (i:=j) η underlying26 (bn.size) I I ae I σ.bW.1)<|cE I (fun η=>bE (i:=j) (j:=0) (e:=x) η bn I I di aB σ.bW.1 ae eG I)<|lK I<|wN (fun mX=>?_) fun mX=>?_
  ·exact iT I I<|can (j:=1) I ae<|gI ⟨j+1,I,I,σ,ae,(YQ v7 eG mX)⟩ aT ae
  ·exact iF I I<|o1 results138 I<|⟨by rw [YP v7 (by rw [eG]; congr 1<;>omega)],σ.below⟩
 ·exact iF I I<|o1 results138 I<|⟨by rw [Uf fun x hx=>v7 x ae],σ.below⟩
theorem Ug {t:Nat} (ht:(bk t #[.slice A n c,.map (some k1),.map (some k2),aG nx] 218).P w0) (hh:(fg A n c h).P w0) {tr ra rb:Nat} (hM:gl (op,((tr:Nat):Int),((ra:Nat):Int),((rb:Nat):Int),cn) (g:Nat)) (hg:h.length=g):
  Calls prog 183 #[cY t,.agg #[aG op,aM tr,aM ra,aM rb,aG cn]] w0 fun e w'=>e=.returned (.agg #[aG (kG ⟨h,kn,nx⟩ (op,((tr:Nat):Int),((ra:Nat):Int),((rb:Nat):Int),cn)).1,aG (kG ⟨h,kn,nx⟩ (op,((tr:Nat):Int),((ra:Nat):Int),((rb:Nat):Int),cn)).2.1,aG (kG ⟨h,kn,nx⟩ (op,((tr:Nat):Int),((ra:Nat):Int),((rb:Nat):Int),cn)).2.2.1,aG (kG ⟨h,kn,nx⟩ (op,((tr:Nat):Int),((ra:Nat):Int),((rb:Nat):Int),cn)).2.2.2])/\Below w0.heap.size w0 w':=by
 refine gQ func183 I ntmps183 I fun σ=>?_
 have hlen:=hh.2.1
 have sK:=aD hh.1.cap hh.1.big
 unfold maxLen at sK
 replace σ:=(σ.lZ _ ht).aY hh
 have Xf:=hM
 unfold gl at hM
 dsimp only at hM
 obtain ⟨xa,su⟩:∃x,h[ra]?=some x:=⟨_,ag ae⟩
 refine eE I<|ll σ I fun _ de σ=>eE I<|iR lG σ I fun _ eQ σ=>lj [14] [0,5,8,12,16,21,24,29,32,37,40,45,48,54,58] bI σ fun _ σ=>lS 1 I<|sE I (fun η hg=>cC η rv I (ou (hg.pt (j:=1) I)) I)<|lS 1 I<|vE I (fun η=>aX (i:=ra) η underlying26 (bn.size) I I ae I σ.bW.1)<|sE I (fun η hg=>bE (i:=ra) (j:=0) (e:=xa) η bn I I di aB (hg.pt (j:=0) I).1 ae su I)<|lS 1 I<|vE I (fun η=>eV (c:=#[aG op,aG xa,aG (-1),aG cn]) wT η I I)<|eS I<|iR lG σ I fun _ jh σ=>sk (σ.kd 1 0)<|eS I<|fB 0 σ I fun _ σ=>sz I<|gE 2 σ I<|eE I<|fk call121 (qv (op:=op) (tr:=((tr:Nat):Int)) (ra:=((ra:Nat):Int)) (rb:=((rb:Nat):Int)) (cn:=cn) ae) I ?_
 rintro _ _ ⟨xe,uL,n56,rfl,uM,Dr⟩
 refine ⟨_,I,?_⟩
 replace σ:=σ.more uM
 have ad':=ox op ((ra:Nat):Int) ((rb:Nat):Int)
 refine sG I<|wD (fun wh=>?_) fun wh=>?_
 ·have MA:(op=3∨op=4)↔1<n56:=by rw [<- Dr]; unfold gx; split<;>(try split)<;>simp_all
  obtain ⟨xb,BO⟩:∃x,h[rb]?=some x:=⟨_,ag ae⟩
  refine iT I I<|lj [9] [0,4,8,13,16,21,24,29,32,38] bI σ fun _ σ=>sE I (fun η hg=>cC η rv I (ou (hg.pt (j:=1) I)) I)<|lS 3 I<|vE I (fun η=>aX (i:=rb) η underlying26 (bn.size) I I ae I σ.bW.1)<|sE I (fun η hg=>bE (i:=rb) (j:=0) (e:=xb) η bn I I di aB (hg.pt (j:=0) I).1 ae BO I)<|eS I<|mK 1 σ I fun _ σ=>sz I<|lE 3 σ I<|gj I<|wQ (fun yL=>?_) fun yL=>?_
  ·refine lE 1 σ I<|lE 1 σ I<|il I<|wD (fun KO=>?_) fun KO=>?_
   ·exact iT I I<|lE 1 σ I<|lE 1 σ I<|eE I<|mK 1 σ I fun _ σ=>eE I<|mK 1 σ I fun _ σ=>gE 1 σ I<|eE I<|fB 2 σ I fun _ σ=>oR (fun e=>iJ results183 (RV.cell e kz I σ.EC I))<|⟨by rw [show kG ⟨h,kn,nx⟩ (op,((tr:Nat):Int),((ra:Nat):Int),((rb:Nat):Int),cn)=(op,xb,xa,cn) by unfold kG Tb.at; dsimp only; rw [sq su]; simp [*]<;>omega],σ.below⟩
   ·exact iF I I<|gE 1 σ I<|eE I<|fB 2 σ I fun _ σ=>oR (fun e=>iJ results183 (RV.cell e kz I σ.EC I))<|⟨by rw [show kG ⟨h,kn,nx⟩ (op,((tr:Nat):Int),((ra:Nat):Int),((rb:Nat):Int),cn)=(op,xa,xb,cn) by unfold kG Tb.at; dsimp only; rw [sq su]; simp [*]<;>omega],σ.below⟩
  ·exact iF I I<|gE 1 σ I<|eE I<|fB 2 σ I fun _ σ=>oR (fun e=>iJ results183 (RV.cell e kz I σ.EC I))<|⟨by rw [show kG ⟨h,kn,nx⟩ (op,((tr:Nat):Int),((ra:Nat):Int),((rb:Nat):Int),cn)=(op,xa,xb,cn) by unfold kG Tb.at; dsimp only; rw [sq su]; simp [*]<;>omega],σ.below⟩
 ·have MA:(op=3∨op=4)↔1<n56:=by rw [<- Dr]; unfold gx; split<;>(try split)<;>simp_all
  refine iF I I<|lE 3 σ I<|gj I<|wQ (fun Eu=>?_) fun Eu=>?_
  ·refine lE 1 σ I<|lE 1 σ I<|il I<|wD (fun JG=>?_) fun JG=>?_
   ·exact iT I I<|lE 1 σ I<|lE 1 σ I<|eE I<|mK 1 σ I fun _ σ=>eE I<|mK 1 σ I fun _ σ=>gE 1 σ I<|eE I<|fB 2 σ I fun _ σ=>oR (fun e=>iJ results183 (RV.cell e kz I σ.EC I))<|⟨by rw [show kG ⟨h,kn,nx⟩ (op,((tr:Nat):Int),((ra:Nat):Int),((rb:Nat):Int),cn)=(op,(-1),xa,cn) by unfold kG Tb.at; dsimp only; rw [sq su]; simp [*]<;>omega],σ.below⟩
   ·exact iF I I<|gE 1 σ I<|eE I<|fB 2 σ I fun _ σ=>oR (fun e=>iJ results183 (RV.cell e kz I σ.EC I))<|⟨by rw [show kG ⟨h,kn,nx⟩ (op,((tr:Nat):Int),((ra:Nat):Int),((rb:Nat):Int),cn)=(op,xa,(-1),cn) by unfold kG Tb.at; dsimp only; rw [sq su]; simp [*]<;>omega],σ.below⟩
  ·exact iF I I<|gE 1 σ I<|eE I<|fB 2 σ I fun _ σ=>oR (fun e=>iJ results183 (RV.cell e kz I σ.EC I))<|⟨by rw [show kG ⟨h,kn,nx⟩ (op,((tr:Nat):Int),((ra:Nat):Int),((rb:Nat):Int),cn)=(op,xa,(-1),cn) by unfold kG Tb.at; dsimp only; rw [sq su]; simp [*]<;>omega],σ.below⟩
theorem Uh {t:Nat} (ht:(bk t #[.slice A n c,.map (some k1),.map (some k2),aG nx] 218).P w0) (hh:(fg A n c h).P w0) {tr ra rb:Nat} (hM:gl (op,((tr:Nat):Int),((ra:Nat):Int),((rb:Nat):Int),cn) (g:Nat)) (hg:h.length=g):
  Calls prog 137 #[cY t,.agg #[aG op,aM tr,aM ra,aM rb,aG cn]] w0 fun e w'=>e=.returned (.agg #[aG (r8 h (op,((tr:Nat):Int),((ra:Nat):Int),((rb:Nat):Int),cn)).1,aG (r8 h (op,((tr:Nat):Int),((ra:Nat):Int),((rb:Nat):Int),cn)).2.1,aG (r8 h (op,((tr:Nat):Int),((ra:Nat):Int),((rb:Nat):Int),cn)).2.2.1,aG (r8 h (op,((tr:Nat):Int),((ra:Nat):Int),((rb:Nat):Int),cn)).2.2.2.1,aG (r8 h (op,((tr:Nat):Int),((ra:Nat):Int),((rb:Nat):Int),cn)).2.2.2.2])/\Below w0.heap.size w0 w':=by
 refine gQ func137 I ntmps137 I fun σ=>?_
 have hlen:=hh.2.1
 have sK:=aD hh.1.cap hh.1.big
 unfold maxLen at sK
 replace σ:=(σ.lZ _ ht).aY hh
 have Xf:=hM
 unfold gl at hM
 dsimp only at hM
 obtain ⟨xa,su⟩:∃x,h[ra]?=some x:=⟨_,ag ae⟩
 refine eE I<|ll σ I fun _ de σ=>eE I<|iR bm σ I fun _ eQ σ=>gE 1 σ I<|eE I<|fk call121 (qv (op:=op) (tr:=((tr:Nat):Int)) (ra:=((ra:Nat):Int)) (rb:=((rb:Nat):Int)) (cn:=cn) ae) I ?_
 rintro _ _ ⟨si,rk,n55,rfl,tp,zP⟩
 refine ⟨_,I,?_⟩
 replace σ:=σ.more tp
 have TQ:=ox op ((ra:Nat):Int) ((rb:Nat):Int)
 refine sG I<|wD (fun wX=>?_) fun wX=>?_
 ·have MA:(op=3∨op=4)↔1<n55:=by rw [<- zP]; unfold gx; split<;>(try split)<;>simp_all
  obtain ⟨xb,BO⟩:∃x,h[rb]?=some x:=⟨_,ag ae⟩
  exact lj [11] [0,4,8,12,17,20,25,28,33,38,40,46] bI σ fun _ σ=>sE I (fun η hg=>cC η rv I (ou (hg.pt (j:=1) I)) I)<|lS 2 I<|vE I (fun η=>aX (i:=ra) η underlying26 (bn.size) I I ae I σ.bW.1)<|sE I (fun η hg=>bE (i:=ra) (j:=0) (e:=xa) η bn I I di aB (hg.pt (j:=0) I).1 ae su I)<|eS I<|gV call138 (sr (v:=xa) σ.dw σ.bW) σ I fun _ σ=>sk σ.kn<|eS I<|mK 2 σ I fun _ σ=>sz I<|iT I I<|lj [11] [0,4,8,12,17,20,25,28,33,38,40,46] bI σ fun _ σ=>sE I (fun η hg=>cC η rv I (ou (hg.pt (j:=1) I)) I)<|lS 2 I<|vE I (fun η=>aX (i:=rb) η underlying26 (bn.size) I I ae I σ.bW.1)<|sE I (fun η hg=>bE (i:=rb) (j:=0) (e:=xb) η bn I I di aB (hg.pt (j:=0) I).1 ae BO I)<|eS I<|gV call138 (sr (v:=xb) σ.dw σ.bW) σ I fun _ σ=>sk σ.kn<|eS I<|mK 2 σ I fun _ σ=>sz I<|gE 2 σ I<|eE I<|fB 1 σ I fun _ σ=>oR (fun e=>iJ results137 (RV.cell e aF I σ.vN I))<|⟨by rw [show r8 h (op,((tr:Nat):Int),((ra:Nat):Int),((rb:Nat):Int),cn)=(op,((tr:Nat):Int),(qy h xa),(qy h xb),cn) by unfold r8; dsimp only; rw [sq su]; simp [*]<;>omega],σ.below⟩
 ·have MA:(op=3∨op=4)↔1<n55:=by rw [<- zP]; unfold gx; split<;>(try split)<;>simp_all
  exact lj [11] [0,4,8,12,17,20,25,28,33,38,40,46] bI σ fun _ σ=>sE I (fun η hg=>cC η rv I (ou (hg.pt (j:=1) I)) I)<|lS 2 I<|vE I (fun η=>aX (i:=ra) η underlying26 (bn.size) I I ae I σ.bW.1)<|sE I (fun η hg=>bE (i:=ra) (j:=0) (e:=xa) η bn I I di aB (hg.pt (j:=0) I).1 ae su I)<|eS I<|gV call138 (sr (v:=xa) σ.dw σ.bW) σ I fun _ σ=>sk σ.kn<|eS I<|mK 2 σ I fun _ σ=>sz I<|iF I I<|gE 2 σ I<|eE I<|fB 1 σ I fun _ σ=>oR (fun e=>iJ results137 (RV.cell e aF I σ.vN I))<|⟨by rw [show r8 h (op,((tr:Nat):Int),((ra:Nat):Int),((rb:Nat):Int),cn)=(op,((tr:Nat):Int),(qy h xa),((rb:Nat):Int),cn) by unfold r8; dsimp only; rw [sq su]; simp [*]<;>omega],σ.below⟩
abbrev Dt (x:Ky):Value:=Value.agg (ints (lsK x))
def tbF (t:Nat) (A:Option Addr) (n c k1 k2:Nat) (nx:Int) (h:List Int) (lm lf:List (Ky×Int)):PF:=star [bk t #[.slice A n c,.map (some k1),.map (some k2),aG nx] 218,cI A n c h,tV Dt k1 lm,tV Dt k2 lf]
theorem Fy {α:Type} [DecidableEq α] (x k:α) (v:Int) (l:List (α×Int)):uP x (l++[(k,v)])=(uP x l || decide (k=x)):=by
 unfold uP
 rw [xX]
 cases AM x l 0 with
 | none=>by_cases q:k=x<;>simp [q]
 | some r=>simp
theorem Nt {α:Type} [DecidableEq α] {k:α} {l:List (α×Int)} (h:uP k l=false):Gy k (l++[(k,v)])=v:=by
 unfold uP at h
 unfold Gy
 rw [xX]
 cases hf:AM k l 0 with
 | none=>simp
 | some r=>rw [hf] at h; cases h
section
variable {h:List Int} {kn lm:List (Ky×Int)} {nx:Int} {e:IE}
theorem aoU (h1:e.1=1):rO ⟨h,kn,nx⟩ e=(h.getD e.2.2.1.toNat 0,⟨h,kn,nx⟩):=by unfold rO; rw [au h1]; rfl
theorem aeP (hK:Ue lm kn) (h1:e.1≠1) (hm:uP (kG ⟨h,kn,nx⟩ e) lm=true):rO ⟨h,kn,nx⟩ e=(Gy (kG ⟨h,kn,nx⟩ e) lm,⟨h,kn,nx⟩):=by
 obtain ⟨a,b⟩:=hK (kG ⟨h,kn,nx⟩ e)
 rw [hm] at a
 obtain ⟨v,hv⟩:=Option.isSome_iff_exists.1 a.symm
 unfold rO
 rw [ak h1,b]
 dsimp only
 rw [hv]
 rfl
theorem ajg (hK:Ue lm kn) (h1:e.1≠1) (hm:uP (kG ⟨h,kn,nx⟩ e) lm=false):rO ⟨h,kn,nx⟩ e=(nx,⟨h,(kG ⟨h,kn,nx⟩ e,nx)::kn,nx+1⟩):=by
 obtain ⟨a,_⟩:=hK (kG ⟨h,kn,nx⟩ e)
 rw [hm] at a
 have hv:lkp kn (kG ⟨h,kn,nx⟩ e)=none:=by simpa using a.symm
 unfold rO
 rw [ak h1]
 dsimp only
 rw [hv]
end
theorem YR (i j:Nat):((List.range j).map fun r=>((min r i:Nat):Int))++[((min j i:Nat):Int)]=(List.range (j+1)).map fun r=>((min r i:Nat):Int):=by rw [iw,cD]; rfl
section
variable {P:Program} {N:Nat} {dq:List Deferred} {a:Act} {l:List (Nat×Value)} {w:World} {d:Nat} {ty:TypeId} {pos:String} {af:Array Edge} {gd:Option (Nat×Bool)} {α:Type} [DecidableEq α]
theorem IW {kt T:Nat} {m:Operand} {enc:α->Value} {lm:List (α×Int)} {x:α} {b:Bool} (h:b7 dq N a l) (K:Uc P kt enc) (ht:P.underlying T=some (.map kt E)) (hz:∀w,(zeroValue E).run P w=.ok (aG 0) w) (hm:eB l m=some (.map (some g))) (hy:eB l y=some (enc x)) (hb:uP x lm=b) (hp:(tV enc g lm).P w):
  (execOp a.eval ⟨some d,.lookup T m y true,ty,pos,af,gd⟩).run P w=.ok (.value (.tuple #[aG (Gy x lm),.bool b])) w:=by
 have:=nm (d:=d) (ty:=ty) (pos:=pos) (af:=af) (gd:=gd) true h K ht hz hm hy hp
 rw [au rfl,hb] at this
 exact this
theorem Nu {x:Operand} {T1 T2:Nat} (h:b7 dq N a l) (hx:eB l x=some (aM i)) (hy:eB l y=some (aM j)):(execOp a.eval ⟨some d,.call ⟨.builtin .min,#[x,y],#[T1,T2]⟩,ty,pos,af,gd⟩).run P w=.ok (.value (aM (min i j))) w:=Rt h hx hy
end
theorem aeQ {c1_:Nat} {A1_:Option Addr} (hi:i<=1000) (hg:g<=1000):
  Calls prog 135 #[.agg (lN i g A0 n0 c0 A1_ n1 c1_)] w0 fun e w'=>∃t A c k1 k2,e=.returned (cY t)/\St w0 w' [tbF t A g c k1 k2 ((i+1:Nat):Int) (Sh i g).held [] []] []:=by
 refine gQ func135 I ntmps135 I fun σ=>eE I<|ll σ I fun _ de σ=>eE I<|mmE Dt σ I fun _ eQ σ=>eE I<|mmE Dt σ I fun _ jh σ=>lE 2 σ I<|can (j:=1) I ae<|vE I (fun η=>eV (c:=#[bM,.map (some eQ),.map (some jh),aM (i+1)]) uK η I I)<|eE I<|ll σ I fun _ jY σ=>lE 3 σ I<|?_
 replace σ:=(σ.fp dD 3 1)
 refine ks (fun mz l w=>∃j:Nat,∃A1:Option Addr,∃c1:Nat,g - j=mz/\l=[(14,aM j),(1,cY de),(3,cY jY),(13,aM g)]/\St w0 w [bk jY #[.slice A1 j c1,.map (some eQ),.map (some jh),aM (i+1)] 218,cI A1 j c1 ((List.range j).map fun r=>((min r i:Nat):Int)),tV Dt jh ([]),tV Dt eQ ([]),bk de (lN i g A0 n0 c0 A1_ n1 c1_) 28] []/\j<=g) ⟨0,none,0,I,I,σ.pick [1,0,2,3,4] [] aB,(av _)⟩ aT ?_
 rintro _ _ _ ⟨j,A1,c1,rfl,rfl,σ,hj⟩
 refine il I<|wD (fun sI=>?_) fun sI=>?_
 ·refine iT I I<|lj [10,13] [0,4,8,12,17,20,24,29,32,38,42,44,48,54] bI σ fun _ σ=>lS 0 I<|lS 4 I<|vE I (fun η=>Nu η I I)<|eS I<|mi (z:=1) #[aM (min j i)] σ (bn.size) gY I bI fun _ zo σ=>sk (σ.kd 1 0)<|eS I<|oO (new:=[(((min j i):Nat):Int)]) 2 0 σ iv I (by unfold maxLen; omega) ae fun _ xW KD σ=>sz rfl<|?_
  rw [YR] at σ
  exact eS I<|mK 1 σ I fun _ σ=>sz I<|can (j:=1) I ae<|gI ⟨j+1,(cS xW),KD,I,I,σ.pick [1,2,3,4,5] [] aB,ae⟩ aT ae
 ·obtain rfl:g=j:=ae
  exact iF I I<|o1 results135 I<|⟨_,_,_,_,_,I,(σ.pick [0,1,3,2] [] aB).pack 4⟩
theorem Pz {t:Nat} {nn:Int} {lm lf:List (Ky×Int)} (hS:St w0 w1 [tbF t A n c k1 k2 nx h lm lf] [dA w1 (tbF t A n c k1 k2 nx h lm lf)]) (hn:h.length=n) (hK:Ue lm kn) (hF:∀x,uP x lf=uP x lm) (hnx:0<=nx/\nx<=100000) {tr ra rb:Nat} (hM:gl (op,((tr:Nat):Int),((ra:Nat):Int),((rb:Nat):Int),cn) (g:Nat)) (hg:h.length=g):
  Calls prog 136 #[cY t,aG nn,.agg #[aG op,aM tr,aM ra,aM rb,aG cn]] w1 fun e w'=>∃y lm' lf',e=.returned (.tuple #[aG (rO ⟨h,kn,nx⟩ (op,((tr:Nat):Int),((ra:Nat):Int),((rb:Nat):Int),cn)).1,aG y])/\St w0 w' [tbF t A n c k1 k2 (rO ⟨h,kn,nx⟩ (op,((tr:Nat):Int),((ra:Nat):Int),((rb:Nat):Int),cn)).2.next h lm' lf'] [dA w1 (tbF t A n c k1 k2 nx h lm lf)]/\Ue lm' (rO ⟨h,kn,nx⟩ (op,((tr:Nat):Int),((ra:Nat):Int),((rb:Nat):Int),cn)).2.known/\∀x,uP x lf'=uP x lm':=by
 refine gQ func136 I ntmps136 I fun σ=>?_
 replace σ:=hS
 replace σ:=σ.unpack
 have hM9:=hM
 unfold gl at hM
 dsimp only at hM
 have hgn:h.length=n:=hn
 obtain ⟨xa,su⟩:∃x,h[ra]?=some x:=⟨_,ag ae⟩
 refine eE I<|ll σ I fun _ de σ=>lE 0 σ I<|gj I<|wQ (fun mX=>?_) fun mX=>?_
 ·exact iT I I<|lj [] [0,4,8,13,16,21,24,29,32,36] bI σ fun _ σ=>lS 1 I<|lS 0 I<|vE I (fun η=>aX (i:=ra) η underlying26 (bn.size) I I ae I (aZ σ.pI))<|sE I (fun η hg=>bE (i:=ra) (j:=0) (e:=xa) η bn I I di aB (aZ (hg.ow (j:=2) I)) ae su I)<|o2 results136 I<|by rw [aoU ae]; dsimp only; rw [sq su]; exact ⟨_,_,_,rfl,(σ.pick [1,2,3,4] [0] aB).pack 4,hK,hF⟩
 ·refine iF I I<|gE 0 σ I<|eE I<|gV call183 (Ug (kn:=kn) σ.l8 ⟨aZ σ.pI,hgn,fun _ _=>trivial⟩ hM9 hg) σ I fun _ σ=>?_
  cases hm:uP (kG ⟨h,kn,nx⟩ (op,((tr:Nat):Int),((ra:Nat):Int),((rb:Nat):Int),cn)) lm
  ·exact eE I<|iR lG σ I fun _ jh σ=>eE I<|fB 0 σ I fun _ σ=>lj [] [0,4,8,13,17,21,24,28,32,36,40] bI σ fun _ σ=>lS 2 I<|gS 0 I<|sE I (fun η hg=>IW (lm:=lm) (x:=((kG ⟨h,kn,nx⟩ (op,((tr:Nat):Int),((ra:Nat):Int),((rb:Nat):Int),cn)).1,(kG ⟨h,kn,nx⟩ (op,((tr:Nat):Int),((ra:Nat):Int),((rb:Nat):Int),cn)).2.1,(kG ⟨h,kn,nx⟩ (op,((tr:Nat):Int),((ra:Nat):Int),((rb:Nat):Int),cn)).2.2.1,(kG ⟨h,kn,nx⟩ (op,((tr:Nat):Int),((ra:Nat):Int),((rb:Nat):Int),cn)).2.2.2)) (b:=false) η IV underlying216 kI I I hm (hg.ow (j:=4) I))<|iT I I<|JI [] [0,4,8,13,17,20,24,28,33,37,40,44,48,53,56,62,64,70,74,76,82] [0,1,2,3] [0] bI σ fun _ σ=>lS 2 I<|gS 0 I<|lS 2 I<|gS 0 I<|lS 2 I<|eS I<|meE 4 (kG ⟨h,kn,nx⟩ (op,((tr:Nat):Int),((ra:Nat):Int),((rb:Nat):Int),cn)) IV underlying216 kI σ I hm fun _ σ=>sk (σ.pick [0,1,2,3] [0] aB).kn<|eS I<|msE (lm:=lm) 4 (kG ⟨h,kn,nx⟩ (op,((tr:Nat):Int),((ra:Nat):Int),((rb:Nat):Int),cn)) nx σ I fun _ σ=>sk (σ.pick [0,1,2,3] [0] aB).kn<|eS I<|meE 5 (kG ⟨h,kn,nx⟩ (op,((tr:Nat):Int),((ra:Nat):Int),((rb:Nat):Int),cn)) IV underlying216 kI σ I ((hF _).trans hm) fun _ σ=>sk (σ.pick [0,1,2,3] [0] aB).kn<|eS I<|msE (lm:=lf) 5 (kG ⟨h,kn,nx⟩ (op,((tr:Nat):Int),((ra:Nat):Int),((rb:Nat):Int),cn)) nn σ I fun _ σ=>sk (σ.pick [0,1,2,3] [0] aB).kn<|lE 2 σ I<|Tg I ae<|eE I<|mK 2 σ I fun _ σ=>lj [] [0,4,8,13,17,21,24,28,32,37,41,45,48,52] bI σ fun _ σ=>lS 2 I<|gS 0 I<|sE I (fun η hg=>nm (lm:=(lm++[((kG ⟨h,kn,nx⟩ (op,((tr:Nat):Int),((ra:Nat):Int),((rb:Nat):Int),cn)),nx)])) (x:=(kG ⟨h,kn,nx⟩ (op,((tr:Nat):Int),((ra:Nat):Int),((rb:Nat):Int),cn))) false η IV underlying216 kI I I (hg.ow (j:=4) I))<|lS 2 I<|gS 0 I<|sE I (fun η hg=>nm (lm:=(lf++[((kG ⟨h,kn,nx⟩ (op,((tr:Nat):Int),((ra:Nat):Int),((rb:Nat):Int),cn)),nn)])) (x:=(kG ⟨h,kn,nx⟩ (op,((tr:Nat):Int),((ra:Nat):Int),((rb:Nat):Int),cn))) false η IV underlying216 kI I I (hg.ow (j:=5) I))<|o2 results136 I<|by rw [ajg hK (by dsimp only; omega) hm,Nt hm]; exact ⟨_,_,_,rfl,(σ.pick [2,3,4,5] [0] aB).pack 4,hK.add hm,fun x=>by rw [Fy,Fy,hF]⟩
  ·exact eE I<|iR lG σ I fun _ jY σ=>eE I<|fB 0 σ I fun _ σ=>lj [] [0,4,8,13,17,21,24,28,32,36,40] bI σ fun _ σ=>lS 2 I<|gS 0 I<|sE I (fun η hg=>IW (lm:=lm) (x:=((kG ⟨h,kn,nx⟩ (op,((tr:Nat):Int),((ra:Nat):Int),((rb:Nat):Int),cn)).1,(kG ⟨h,kn,nx⟩ (op,((tr:Nat):Int),((ra:Nat):Int),((rb:Nat):Int),cn)).2.1,(kG ⟨h,kn,nx⟩ (op,((tr:Nat):Int),((ra:Nat):Int),((rb:Nat):Int),cn)).2.2.1,(kG ⟨h,kn,nx⟩ (op,((tr:Nat):Int),((ra:Nat):Int),((rb:Nat):Int),cn)).2.2.2)) (b:=true) η IV underlying216 kI I I hm (hg.ow (j:=4) I))<|iF I I<|lj [] [0,4,8,13,17,21,24,28,32,37,41,45,48,52] bI σ fun _ σ=>lS 2 I<|gS 0 I<|sE I (fun η hg=>nm (lm:=lm) (x:=(kG ⟨h,kn,nx⟩ (op,((tr:Nat):Int),((ra:Nat):Int),((rb:Nat):Int),cn))) false η IV underlying216 kI I I (hg.ow (j:=4) I))<|lS 2 I<|gS 0 I<|sE I (fun η hg=>nm (lm:=lf) (x:=(kG ⟨h,kn,nx⟩ (op,((tr:Nat):Int),((ra:Nat):Int),((rb:Nat):Int),cn))) false η IV underlying216 kI I I (hg.ow (j:=5) I))<|o2 results136 I<|by rw [aeP hK (by dsimp only; omega) hm]; exact ⟨_,_,_,rfl,(σ.pick [2,3,4,5] [0] aB).pack 4,hK,hF⟩
theorem ajh (e:IE):∃v kn' WC,rO ⟨h,kn,nx⟩ e=(v,⟨h,kn',WC⟩)/\nx<=WC/\WC<=nx+1:=by
 unfold rO
 split
 ·exact ⟨_,_,_,I,Int.le_refl _,by omega⟩
 ·dsimp only
  split
  ·exact ⟨_,_,_,I,Int.le_refl _,by omega⟩
  ·exact ⟨_,_,_,I,by omega,Int.le_refl _⟩
section
variable {h:List Int} {kn kn':List (Ky×Int)} {nx WC v:Int} {st:List IE} {op ra rb cn:Int} {tr:Nat}
theorem YS (hr:rO ⟨h,kn,nx⟩ (op,((tr:Nat):Int),ra,rb,cn)=(v,⟨h,kn',WC⟩)) (ht:h[tr]?=some v):lx (⟨h,kn,nx⟩,st) (op,((tr:Nat):Int),ra,rb,cn)=(⟨h,kn',WC⟩,st):=by
 unfold lx
 dsimp only
 rw [hr]
 dsimp only
 rw [au (show Tb.at ⟨h,kn',WC⟩ ((tr:Nat):Int)=v from sq ht)]
theorem Nv {y:IE} (hr:rO ⟨h,kn,nx⟩ (op,((tr:Nat):Int),ra,rb,cn)=(v,⟨h,kn',WC⟩)) (ht:h[tr]?=some x) (hx:x≠v) (hy:(if 0<=qy h v then (1,((tr:Nat):Int),qy h v,0,0) else r8 h (op,((tr:Nat):Int),ra,rb,cn))=y):lx (⟨h,kn,nx⟩,st) (op,((tr:Nat):Int),ra,rb,cn)=(⟨h.set tr v,kn',WC⟩,st++[y]):=by
 unfold lx
 dsimp only
 rw [hr]
 dsimp only
 rw [ak (show ¬Tb.at ⟨h,kn',WC⟩ ((tr:Nat):Int)=v from fun q=>hx ((sq ht).symm.trans q)),hy]
 rfl
end
theorem Ui {s:Tb×List IE} {e:IE} (h:es[j]?=some e):(es.drop j).foldl lx s=(es.drop (j+1)).foldl lx (lx s e):=by
 obtain ⟨hi,rfl⟩:=aE.1 h
 rw [cA hi]
 rfl
theorem Uj {f:Int->Int} {es:List Int} (h:es[j]?=some x):(es.take j).map f++[f x]=(es.take (j+1)).map f:=by rw [take_one h,cD]; rfl
theorem YT (i g:Nat):(Sh i g).held.length=g:=by unfold Sh; simp
theorem YU (h0:(fC A0 n0 c0 es0).P w0) (h1:(fg A1 n1 c1 es1).P w0) (dy:mv (i:Nat) (g:Nat) n0 n1 es0 es1):
  Calls prog 90 #[.agg (lN i g A0 n0 c0 A1 n1 c1)] w0 fun e w'=>∃A n c B d,e=.returned (.tuple #[.agg (lN i g A n c B n1 d),aG 0])/\St w0 w' [dQ A n c (pY i g es0),cI B n1 d (oz i g es0 es1)] []/\(pY i g es0).length=n:=by
 have q1:=dy.i1
 have q2:=dy.ln
 refine gQ func90 I ntmps90 I fun σ=>?_
 have cQ:=h0.2.1
 have lu:=h0.1.cap
 have eN:=h0.1.big
 unfold maxLen at eN
 have iI:=h1.2.1
 have oI:=h1.1.cap
 have jB:=h1.1.big
 unfold maxLen at jB
 replace σ:=σ.aY h0
 replace σ:=σ.aY h1
 refine eE I<|ll σ I fun _ de σ=>eE I<|iR cM σ I fun _ eQ σ=>gE 1 σ I<|eE I<|gV call41 (kR σ.dw σ.bW dy) σ I fun _ σ=>lK I<|kB (b':=false) I<|iF I I<|gE 1 σ I<|eE I<|fk call135 (aeQ (i:=i) (g:=g) (A0:=A0) (n0:=n0) (c0:=c0) (A1_:=A1) (n1:=n1) (c1_:=c1) ae ae) I ?_
 rintro _ _ ⟨t,si,rk,k55,k56,rfl,uM⟩
 refine ⟨_,I,?_⟩
 replace σ:=σ.more uM
 replace σ:=σ.unpack
 refine lE 5 σ I<|lE 5 σ I<|vE I (fun η=>eV (c:=(lN i g none 0 0 none 0 0)) jq η I I)<|eE I<|iR cM σ I fun _ qt σ=>eE I<|fB 0 σ I fun _ σ=>lE 6 σ I<|?_
 replace σ:=(σ.fp dD 116 5)
 obtain ⟨k1,zL⟩:∃x,x=k55:=⟨_,rfl⟩
 obtain ⟨k2,MN⟩:∃x,x=k56:=⟨_,rfl⟩
 subst zL MN
 refine ks (fun mz l w=>∃j:Nat,∃A2:Option Addr,∃c2:Nat,∃n2:Nat,∃jU:List IE,∃A3:Option Addr,∃c3:Nat,∃nx:Int,∃h:List Int,∃kn:List (Ky×Int),∃lm:List (Ky×Int),∃lf:List (Ky×Int),n0 - j=mz/\l=[(34,aM j),(1,cY de),(2,cY eQ),(6,cY t),(7,cY qt),(32,.slice A0 n0 c0),(33,aM n0)]/\St w0 w [bk qt (lN i g A2 n2 c2 none 0 0) 28,dQ A2 n2 c2 jU,bk t #[.slice A3 g c3,.map (some k1),.map (some k2),aG nx] 218,cI A3 g c3 h,tV Dt k1 lm,tV Dt k2 lf,bk eQ #[aG 0,aG 0,bM,bM] 28,bk de (lN i g A0 n0 c0 A1 n1 c1) 28] [fg A1 n1 c1 es1,fC A0 n0 c0 es0]/\j<=n0/\(es0.drop j).foldl lx (⟨h,kn,nx⟩,jU)=nQ i g es0/\h.length=g/\Ue lm kn/\(∀x,uP x lf=uP x lm)/\(0<=nx/\nx<=i+1+j)/\jU.length=n2/\n2<=j) ⟨0,none,0,0,([]:List IE),si,rk,((i+1:Nat):Int),(Sh i g).held,[],[],[],I,I,σ.pick [1,0,2,3,4,5,6,7] [0,1] aB,(av _),I,(YT i g),Ue.nil,(fun _=>I),ae,I,(ar _)⟩ aT ?_
 rintro _ _ _ ⟨j,A2,c2,n2,jU,A3,c3,nx,h,kn,lm,lf,rfl,rfl,σ,hj,hi,Gz,hK,hF,hnx,mr,kY⟩
 refine il I<|wD (fun wX=>?_) fun wX=>?_
 ·have fh:j<n0:=ae
  obtain ⟨⟨op,Fz,zI,yj,cn⟩,eG⟩:∃e,es0[j]?=some e:=⟨_,ag ae⟩
  have hM:=dy.may _ (ah eG)
  have zt:=hM
  unfold gl at zt
  dsimp only at zt
  obtain ⟨tr,rfl⟩:=aU (show 0<=Fz by omega)
  obtain ⟨ra,rfl⟩:=aU (show 0<=zI by omega)
  obtain ⟨rb,rfl⟩:=aU (show 0<=yj by omega)
  obtain ⟨v9,kn9,nx9,hrk,Wp,hn2⟩:=ajh (h:=h) (kn:=kn) (nx:=nx) (op,((tr:Nat):Int),((ra:Nat):Int),((rb:Nat):Int),cn)
  obtain ⟨xt,hxt⟩:∃x,h[tr]?=some x:=⟨_,ag ae⟩
  refine iT I I<|vE I (fun η=>aX (i:=j) η underlying25 (aF.size) I I ae I σ.dw.1)<|cE I (fun η=>cX (v:=#[aG op,aM tr,aM ra,aM rb,aG cn]) (i:=j) (e:=(op,((tr:Nat):Int),((ra:Nat):Int),((rb:Nat):Int),cn)) η aF I I lL σ.dw.1 ae eG I)<|eE I<|iR bm σ I fun _ C9 σ=>eE I<|fB 0 σ I fun _ σ=>gE 0 σ I<|?_
  replace σ:=(σ.pick [3,4,5,6,0,1,2,7,8] [0,1] aB).pack 4
  refine eE I<|fk call136 (Pz (kn:=kn) (nn:=((j:Nat):Int)) (σ.cF (k:=0) I []) Gz hK hF ae hM Gz) I ?_
  rintro _ _ ⟨y9,lm9,lf9,rfl,hS9,hK9,hF9⟩
  refine ⟨_,I,?_⟩
  rw [hrk] at hS9 hK9
  dsimp only at hS9 hK9
  rw [hrk]
  replace σ:=σ.kL (k:=0) I hS9
  replace σ:=σ.unpack
  refine gE 4 σ I<|eE I<|gV call137 (Uh σ.jr ⟨aZ σ.l8,Gz,fun _ _=>trivial⟩ hM Gz) σ I fun _ σ=>eE I<|fB 4 σ I fun _ σ=>lj [] [0,4,8,13,16,21,24,29,32,36] bI σ fun _ σ=>lS 0 I<|lS 4 I<|vE I (fun η=>aX (i:=tr) η underlying26 (bn.size) I I ae I (aZ σ.l8))<|sE I (fun η hg=>bE (i:=tr) (j:=0) (e:=xt) η bn I I di aB (aZ (hg.ow (j:=1) I)) ae hxt I)<|gj I<|wQ (fun yL=>?_) fun yL=>?_
  ·exact iT I I<|can (j:=1) I ae<|gI ⟨j+1,A2,c2,n2,jU,A3,c3,nx9,h,kn9,lm9,lf9,I,I,σ.pick [5,6,0,1,2,3,7,8] [0,1] aB,ae,(by rw [<- hi,Ui eG,(YS hrk (by rw [hxt]; congr 1))]<;>rfl),Gz,hK9,hF9,ae,mr,ae⟩ aT ae
  ·refine iF I I<|eE I<|gV call138 (sr (v:=v9) σ.jr ⟨aZ σ.l8,Gz,fun _ _=>trivial⟩) σ I fun _ σ=>xo I<|wD (fun KO=>?_) fun KO=>?_
   ·exact iT I I<|lE 4 σ I<|vE I (fun η=>eV (c:=#[aG 1,aM tr,aG (qy h v9),aG 0,aG 0]) dg η I I)<|eE I<|fB 4 σ I fun _ σ=>lE 5 σ I<|gE 4 σ I<|eE I<|mi (z:=5) #[aG 1,aM tr,aG (qy h v9),aG 0,aG 0] σ (aF.size) bm I bI fun _ Qp σ=>eE I<|oO (new:=[((1:Int),((tr:Nat):Int),(qy h v9),(0:Int),(0:Int))]) 7 0 σ dK I (by unfold maxLen; omega) ae fun _ K7 TO σ=>eE rfl<|mK 6 σ rfl fun _ σ=>lj [8] [0,4,8,13,16,21,24,28,34] bI σ fun _ σ=>lS 1 rfl<|lS 5 rfl<|vE rfl (fun η=>aX (i:=tr) η underlying26 (bn.size) rfl rfl ae rfl (aZ σ.pI))<|eS rfl<|uH 2 tr (e1:=v9) di σ rfl rfl ae Gz fun _ σ=>sz rfl<|can (j:=1) rfl ae<|gI ⟨j+1,(cS K7),TO,(n2+1),(jU++[((1:Int),((tr:Nat):Int),(qy h v9),(0:Int),(0:Int))]),A3,c3,nx9,(h.set tr v9),kn9,lm9,lf9,rfl,rfl,σ.pick [6,7,1,2,3,4,8,9] [0,1] aB,ae,(by rw [<- hi,Ui eG,(Nv hrk hxt yL (au ae))]<;>rfl),(by rw [aP]; exact Gz),hK9,hF9,ae,(by simp [mr]),ae⟩ aT ae
   ·exact iF I I<|lE 5 σ I<|gE 4 σ I<|eE I<|mi (z:=5) #[aG op,aM tr,aG ((r8 h (op,((tr:Nat):Int),((ra:Nat):Int),((rb:Nat):Int),cn)).2.2.1),aG ((r8 h (op,((tr:Nat):Int),((ra:Nat):Int),((rb:Nat):Int),cn)).2.2.2.1),aG cn] σ (aF.size) bm I bI fun _ g66 σ=>eE I<|oO (new:=[(op,((tr:Nat):Int),(r8 h (op,((tr:Nat):Int),((ra:Nat):Int),((rb:Nat):Int),cn)).2.2.1,(r8 h (op,((tr:Nat):Int),((ra:Nat):Int),((rb:Nat):Int),cn)).2.2.2.1,cn)]) 7 0 σ dK I (by unfold maxLen; omega) ae fun _ g67 c68 σ=>eE rfl<|mK 6 σ rfl fun _ σ=>lj [8] [0,4,8,13,16,21,24,28,34] bI σ fun _ σ=>lS 1 rfl<|lS 5 rfl<|vE rfl (fun η=>aX (i:=tr) η underlying26 (bn.size) rfl rfl ae rfl (aZ σ.pI))<|eS rfl<|uH 2 tr (e1:=v9) di σ rfl rfl ae Gz fun _ σ=>sz rfl<|can (j:=1) rfl ae<|gI ⟨j+1,(cS g67),c68,(n2+1),(jU++[(op,((tr:Nat):Int),(r8 h (op,((tr:Nat):Int),((ra:Nat):Int),((rb:Nat):Int),cn)).2.2.1,(r8 h (op,((tr:Nat):Int),((ra:Nat):Int),((rb:Nat):Int),cn)).2.2.2.1,cn)]),A3,c3,nx9,(h.set tr v9),kn9,lm9,lf9,rfl,rfl,σ.pick [6,7,1,2,3,4,8,9] [0,1] aB,ae,(by rw [<- hi,Ui eG,(Nv hrk hxt yL (ak ae))]<;>rfl),(by rw [aP]; exact Gz),hK9,hF9,ae,(by simp [mr]),ae⟩ aT ae
 ·have hT:nQ i g es0=(⟨h,kn,nx⟩,jU):=by rw [<- hi,bo ae]; rfl
  refine iF I I<|lE 7 σ I<|?_
  replace σ:=(σ.fp dD 3 1)
  refine ks (fun mz l w=>∃u:Nat,∃B5:Option Addr,∃d5:Nat,n1 - u=mz/\l=[(86,aM u),(2,cY eQ),(6,cY t),(7,cY qt),(84,.slice A1 n1 c1),(85,aM n1)]/\St w0 w [bk qt (lN i g A2 n2 c2 B5 u d5) 28,cI B5 u d5 ((es1.take u).map (fun r=>qy h (h.getD r.toNat 0))),dQ A2 n2 c2 jU,bk t #[.slice A3 g c3,.map (some k1),.map (some k2),aG nx] 218,cI A3 g c3 h,tV Dt k1 lm,tV Dt k2 lf,bk eQ #[aG 0,aG 0,bM,bM] 28,bk de (lN i g A0 n0 c0 A1 n1 c1) 28] [fg A1 n1 c1 es1,fC A0 n0 c0 es0]/\u<=n1) ⟨0,none,0,I,I,σ.pick [1,0,2,3,4,5,6,7,8] [0,1] aB,(av _)⟩ aT ?_
  rintro _ _ _ ⟨u,B5,d5,rfl,rfl,σ,hu⟩
  refine il I<|wD (fun h69=>?_) fun h69=>?_
  ·have hlu:u<n1:=ae
   obtain ⟨r0,kf⟩:∃e,es1[u]?=some e:=⟨_,ag ae⟩
   have hr8:=dy.out _ (ah kf)
   obtain ⟨r9,rfl⟩:=aU hr8.1
   obtain ⟨xr,zQ⟩:∃x,h[r9]?=some x:=⟨_,ag ae⟩
   refine iT I I<|vE I (fun η=>aX (i:=u) η underlying26 (bn.size) I I ae I σ.bW.1)<|cE I (fun η=>bE (i:=u) (j:=0) (e:=((r9:Nat):Int)) η bn I I di aB σ.bW.1 ae kf I)<|lj [12,14] [0,5,8,12,16,20,25,28,32,37,42,46,50,52,58] bI σ fun _ σ=>lS 0 I<|lS 3 I<|vE I (fun η=>aX (i:=r9) η underlying26 (bn.size) I I ae I (aZ σ.Dh))<|sE I (fun η hg=>bE (i:=r9) (j:=0) (e:=xr) η bn I I di aB (aZ (hg.ow (j:=4) I)) ae zQ I)<|eS I<|gV call138 (sr (v:=xr) σ.wF ⟨aZ σ.Dh,Gz,fun _ _=>trivial⟩) σ I fun _ σ=>sk σ.kn<|eS I<|mi (z:=1) #[aG (qy h xr)] σ (bn.size) gY I bI fun _ g70 σ=>sk (σ.kd 1 0)<|eS I<|oO (new:=[(qy h xr)]) 2 0 σ iv I (by unfold maxLen; omega) ae fun _ g71 c72 σ=>sz rfl<|?_
   rw [show qy h xr=(fun r=>qy h (h.getD r.toNat 0)) ((r9:Nat):Int) by dsimp only; rw [sq zQ],Uj kf] at σ
   exact eS I<|mK 1 σ I fun _ σ=>sz I<|can (j:=1) I ae<|gI ⟨u+1,(cS g71),c72,I,I,σ.pick [1,2,3,4,5,6,7,8,9] [0,1] aB,ae⟩ aT ae
  ·obtain rfl:n1=u:=ae
   rw [ax (by omega)] at σ
   exact iF I I<|gE 0 σ I<|eE I<|fB 7 σ I fun _ σ=>oR (fun e=>lk results90 (RV.cell e bC I (σ.pV (k:=7) I) I) (RV.tmp e I))<|by rw [show pY i g es0=jU by unfold pY; rw [hT],show oz i g es0 es1=es1.map (fun r=>qy h (h.getD r.toNat 0)) by unfold oz; rw [hT]; rfl]; exact ⟨_,_,_,_,_,rfl,σ.pick [2,1] [] aB,mr⟩
abbrev zR (x:Int):Value:=aG x
theorem CK:Uc prog 3 zR:=kyI underlying3
def Qq (s k:Nat) (A:Option Addr) (n c:Nat) (fr:List Bool) (lm:List (Int×Int)):PF:=star [bk s #[.map (some k),.slice A n c] 227,kX A n c fr,tV zR k lm]
theorem YV (h:∀x,x<j->p.free[x]?=some false) (hj:p.free[j]?=some true):kN p=(((j:Nat):Int),(⟨p.at_++[((j:Nat):Int)],p.free.set j false⟩:Pk)):=by
 obtain ⟨hl,hv⟩:=aE.1 hj
 have:p.free.findIdx? id=some j:=gw.2 ⟨hl,hv,fun k hk=>by
  have:=h k hk
  rw [ag ae] at this
  simpa using this⟩
 unfold kN
 rw [this]
theorem YW (hn:p.free.length=n) (h:∀x,x<n->p.free[x]?=some false):kN p=(((n:Nat):Int),(⟨p.at_++[((n:Nat):Int)],p.free++[false]⟩:Pk)):=by
 have:p.free.findIdx? id=none:=jj.2 fun x hx=>by
  obtain ⟨i,hi⟩:=dO hx
  have:=h i (by have:=(aE.1 hi).1; omega)
  rw [hi] at this
  simpa using this
 unfold kN
 rw [this,hn]
theorem YX (h:∀x,x<j->fr[x]?=some false) (hj:fr[j]?=some false):∀x,x<j+1->fr[x]?=some false:=fun x hx=>by
 rcases aV x j with c | c
 ·exact h x c
 ·obtain rfl:x=j:=ae
  exact hj
def FA (lm:List (Int×Int)) (at_:List Int):Prop:=(∀v:Nat,v<at_.length->Gy ((v:Nat):Int) lm=gi at_ v)/\∀v:Nat,at_.length<=v->uP ((v:Nat):Int) lm=false
theorem YY {α:Type} [DecidableEq α] {x k:α} {l:List (α×Int)} (h:k≠x):Gy x (l++[(k,v)])=Gy x l:=by
 unfold Gy
 rw [xX,ak h]
 cases AM x l 0<;>rfl
theorem Uk {l:List Int} {v:Nat} {w:Int} (h:v<l.length):gi (l++[w]) v=gi l v:=by
 unfold gi; rw [aj,aj,bQ ae]
theorem Um {l:List Int} {w:Int}:gi (l++[w]) (l.length:Nat)=w:=by
 unfold gi; rw [aj,ed,bU (ar _),eH]; rfl
theorem FA.add {lm:List (Int×Int)} (h:FA lm at_) (r:Int):FA (lm++[(((at_.length:Nat):Int),r)]) (at_++[r]):=by
 refine ⟨fun v hv=>?_,fun v hv=>?_⟩
 ·rw [ai,bh] at hv
  rcases aV v at_.length with c | c
  ·rw [YY ae,h.1 v c,Uk c]
  ·obtain rfl:v=at_.length:=ae
   rw [Nt (h.2 _ (ar _)),Um]
 ·rw [ai,bh] at hv
  rw [Fy,h.2 v ae,aC ae]
  rfl
theorem Uo:
  Calls prog 186 #[.agg (lN i g A0 n0 c0 A1 n1 c1),aM r] w0 fun e w'=>e=.returned (aM (min r i))/\Below w0.heap.size w0 w':=by
 exact gQ func186 I ntmps186 I fun σ=>eE I<|ll σ I fun _ de σ=>lE 0 σ I<|vE I (fun η=>Nu η I I)<|o1 results186 I<|⟨I,σ.below⟩
theorem Up {lm:List (Int×Int)} {u:Int} (hS:St w0 w1 [Qq s k A n c fr lm] [dA w1 (Qq s k A n c fr lm)]) (hl:fr.length=n) (hn:n<=100000) (hx:uP v lm=false):
  Calls prog 142 #[cY s,aG v,aG u] w1 fun e w'=>∃A' c',e=.returned (.tuple #[])/\St w0 w' [Qq s k A' (n+1) c' (fr++[decide (u<0)]) (lm++[(v,((n:Nat):Int))])] [dA w1 (Qq s k A n c fr lm)]:=by
 refine gQ func142 I ntmps142 I fun σ=>?_
 replace σ:=hS
 replace σ:=σ.unpack
 exact JI [] [0,4,8,13,16,20,24,28,33,36,42] [0] [0] bI σ fun _ σ=>lS 0 I<|lS 0 I<|eS I<|muE 2 v ((n:Nat):Int) CK underlying225 σ I hx fun _ σ=>sk (σ.pick [0] [0] aB).kn<|lE 0 σ I<|il I<|eE I<|mi #[.bool (decide (u<(0:Int)))] σ (eD.size) DI I bI fun _ de σ=>eE I<|oO 2 0 σ qQ I (by unfold maxLen; omega) ae fun _ eQ wW σ=>eE rfl<|mK 1 σ rfl fun _ σ=>Dp results142<|⟨_,_,rfl,(σ.pick [1,2,3] [0] aB).pack 3⟩
theorem Nw {lm:List (Int×Int)} (hS:St w0 w1 [Qq s k A n c p.free lm] [dA w1 (Qq s k A n c p.free lm)]) (hl:p.free.length=n) (hn:n<=100000) (hx:uP v lm=false):
  Calls prog 143 #[cY s,aG v] w1 fun e w'=>∃A' n' c',e=.returned (aG (kN p).1)/\St w0 w' [Qq s k A' n' c' (kN p).2.free (lm++[(v,(kN p).1)])] [dA w1 (Qq s k A n c p.free lm)]/\(kN p).2.free.length=n':=by
 refine gQ func143 I ntmps143 I fun σ=>?_
 replace σ:=hS
 replace σ:=σ.unpack
 refine Wu I<|lE 0 σ I<|ks (fun mz l w=>∃j:Nat,n - j=mz/\l=[(12,aM j),(0,cY s),(1,aG v),(10,.slice A n c),(11,aM n)]/\St w0 w [bk s #[.map (some k),.slice A n c] 227,kX A n c p.free,tV zR k lm] [dA w1 (Qq s k A n c p.free lm)]/\j<=n/\(∀x,x<j->p.free[x]?=some false)) ⟨0,I,I,σ,(av _),(fun _ h=>absurd h (dB _))⟩ aT ?_
 rintro _ _ _ ⟨j,rfl,rfl,σ,hj,v7⟩
 refine il I<|wD (fun lC=>?_) fun lC=>?_
 ·have fh:j<n:=ae
  obtain ⟨bj,eG⟩:∃e,p.free[j]?=some e:=⟨_,ag ae⟩
  refine iT I I<|vE I (fun η=>aX (i:=j) η underlying219 (eD.size) I I ae I (aZ σ.l8))<|cE I (fun η=>bE (i:=j) (j:=0) (e:=bj) η eD I I kH aB (aZ σ.l8) ae eG I)<|wB (fun mX=>?_) fun mX=>?_
  ·subst mX
   exact iF I I<|JI [] [0,4,8,13,16,20,24,28,33,36,40,46,48,54,56,62] [0] [0] bI σ fun _ σ=>lS 0 I<|lS 0 I<|eS I<|meE 2 v CK underlying225 kI σ I hx fun _ σ=>sk (σ.pick [0] [0] aB).kn<|eS I<|msE (lm:=lm) 2 v ((j:Nat):Int) σ I fun _ σ=>sk (σ.pick [0] [0] aB).kn<|vE I (fun η=>aX (i:=j) η underlying219 (eD.size) I I ae I (aZ σ.l8))<|eS I<|uH 1 j (e1:=false) kH σ I I ae hl fun _ σ=>sk (σ.pick [0] [0] aB).kn<|o1 results143 I<|by rw [YV v7 eG]; exact ⟨_,_,_,rfl,(σ.pick [0,1,2] [0] aB).pack 3,by rw [aP]; exact hl⟩
  ·subst mX
   exact iT I I<|can (j:=1) I ae<|gI ⟨j+1,I,I,σ,ae,(YX v7 eG)⟩ aT ae
 ·obtain rfl:n=j:=ae
  exact iF I I<|JI [] [0,4,8,13,16,20,24,28,33,36,42] [0] [0] bI σ fun _ σ=>lS 0 I<|lS 0 I<|eS I<|muE 2 v ((n:Nat):Int) CK underlying225 σ I hx fun _ σ=>sk (σ.pick [0] [0] aB).kn<|lE 0 σ I<|eE I<|mi (z:=1) #[.bool false] σ (eD.size) DI I bI fun _ jh σ=>eE I<|oO (new:=[false]) 2 0 σ qQ I (by unfold maxLen; omega) ae fun _ jY uL σ=>eE rfl<|mK 1 σ rfl fun _ σ=>lE 1 σ rfl<|zN (j:=1) rfl ae<|o1 results143 rfl<|by rw [YW hl v7]; exact ⟨_,_,_,by congr 2<;>omega,(σ.pick [1,2,3] [0] aB).pack 3,by rw [ai,hl]<;>rfl⟩
open Go.RowKit Anv
theorem Uq {α:Type} {l:List α} {x z:α} (hj:l.length=j):(l++List.replicate (m+1) z).set j x=(l++[x])++List.replicate m z:=by
 subst hj
 rw [kg _ _ (ar _),eH,fG,List.set_cons_zero,aH]
 rfl
def rm {α:Type} (l:List α) (j n:Nat) (z:α):List α:=l.take j++List.replicate (n - j) z
theorem l7 {α:Type} {l:List α} {z:α} (h1:j<=n) (h2:n=l.length):(rm l j n z).length=n:=by unfold rm; simp; omega
theorem K8 {α:Type} (l:List α) (n:Nat) (z:α):rm l 0 n z=List.replicate n z:=by unfold rm; simp
theorem yS {α:Type} {l:List α} {z:α} (h:l.length=n):rm l n n z=l:=by unfold rm; rw [ax (by omega)]; simp
theorem pS {α:Type} {l:List α} {x z:α} (h:l[j]?=some x) (hn:j<n):(rm l j n z).set j x=rm l (j+1) n z:=by
 unfold rm
 have hj:=(aE.1 h).1
 rw [show n - j=(n - (j+1))+1 by omega,Uq (by rw [bJ]; omega),List.take_add_one,h]
 rfl
theorem AO {α:Type} {l:List α} {z:α} {x:α} (h:l[k]?=some x) (hk:k<j):(rm l j n z)[k]?=some x:=by
 unfold rm
 rw [bQ (by rw [bJ]; have:=(aE.1 h).1; omega),eM hk,h]
def lvB (i k:Nat) (h:List Int):Prop:=∀x∈h,0<=x/\x<((i+1+k:Nat):Int)
theorem ajl (i g:Nat):lvB i 0 (dj i g):=fun x hx=>by
 obtain ⟨r,_,rfl⟩:=bG.1 hx
 omega
theorem Nx (hb:lvB i k h) (t:Nat):lvB i (k+1) (h.set t ((i+1+k:Nat):Int)):=fun x hx=>by
 rcases dz hx with h1 | h1
 ·have:=hb x h1; omega
 ·omega
theorem qX (hx:h[r]?=some x):gi h ((r:Nat):Int)=x:=sq hx
theorem K9:∀(l:List (Int×Int)) (u:List Int) (k:Nat),(uR u k l).length=u.length+l.length
 | [],u,k=>rfl
 | q::l,u,k=>by rw [uR,K9 l]; unfold uS; simp; omega
theorem FB:∀{l:List (Int×Int)} {u:List Int} {k j:Nat} {q:Int×Int},l[j]?=some q->uR u k (l.take (j+1))=uS (uR u k (l.take j)) (k+j) q
 | [],_,_,_,_,h=>by simp at h
 | d::l,u,k,0,q,h=>by cases h; rfl
 | d::l,u,k,j+1,q,h=>by
  rw [iK,iK,uR,uR,FB (j:=j) (by simpa using h),show k+1+j=k+(j+1) by omega]
theorem YZ {vs:List Int} (h:vs[j]?=some v):uO u n (vs.take (j+1))=(uO u n (vs.take j)).set v.toNat n:=by
 unfold uO
 rw [take_one h,List.foldl_append]
 rfl
theorem Ur (n:Nat):∀(vs:List Int) (u:List Int),(uO u n vs).length=u.length
 | [],u=>rfl
 | v::vs,u=>by show (uO (u.set v.toNat n) n vs).length=_; rw [Ur n vs,aP]
section
variable {P:Program} {fn:Func} {R:Ending->World->Prop} {T:Ig P} {mix:P.follows .mixedOrders=true} {N:Nat} {w:World} {l:List (Nat×Value)} {v1 v2:Value} {t1 t2:Nat}
theorem oM2 {D:Nat} {ok:Ck (poM P fn R)} (h:fn.results=#[.tmp t1,.tmp t2]) (h1:(look l t1,look l t2)=(some v1,some v2)) (hD:w.heap[D]?=some (.deferred (some []))) (hR:R (.returned (.tuple #[v1,v2])) (w.putObj D (.deferred none))):np ⟨T,mix,none,9,[{ target:=.collected D,args:=#[] }],N,poM P fn R,ok⟩ w (.fin .ret) [] l:=⟨fun _ e=>xG e hD (lk h (RV.tmp e (aq (·.1) h1)) (RV.tmp e (aq (·.2) h1))) hR⟩
end
theorem PA {i:Int} (h0:(fC A0 n0 c0 es0).P w0) (h1:(fg A1 n1 c1 es1).P w0) (dy:mv i (g:Nat) n0 n1 es0 es1):
  Calls prog 185 #[.agg #[aG i,aM g,.slice A0 n0 c0,.slice A1 n1 c1]] w0 fun e w'=>∃A c,e=.returned (.tuple #[.slice A n0 c,aG 0])/\St w0 w' [fc dD 4 1 A n0 c (fl fO (ly es1 es0).1)] []:=by
 have k1:=dy.i1
 have k2:=dy.ln
 have hR:=D' dy
 refine enM tb mixed func185 I ntmps185 I fun σ=>?_
 have cQ:=h0.2.1
 have lu:=h0.1.cap
 have eN:=h0.1.big
 unfold maxLen at eN
 have iI:=h1.2.1
 have oI:=h1.1.cap
 have jB:=h1.1.big
 unfold maxLen at jB
 replace σ:=σ.aY h0
 replace σ:=σ.aY h1
 refine eE I<|ll σ I fun _ de σ=>gE 0 σ I<|eE I<|gV call212 (IQ σ.dw σ.bW dy) σ I fun _ σ=>iF I I<|lE 0 σ I<|eE I<|Cn fO false dD σ qQ I ae (by unfold maxLen; omega) fun _ eQ σ=>eE rfl<|iR sU σ rfl fun _ jh σ=>eE rfl<|mK 0 σ rfl fun _ σ=>lE 2 σ rfl<|eE rfl<|Cn fO false dD σ qQ rfl ae (by unfold maxLen; omega) fun _ jY σ=>eE rfl<|iR sU σ rfl fun _ sf σ=>eE rfl<|mK 0 σ rfl fun _ σ=>lE 4 σ rfl<|?_
 rw [Sm,show sF g (fun _=>false)=sF g (DV (fun _=>false) (es1.take 0)) from s6 fun r=>(EW (fun _=>false) r).symm] at σ
 refine ks (fun mz l w=>∃j:Nat,n1 - j=mz/\l=[(25,aM j),(1,cY de),(4,cY jh),(5,cY sf),(23,.slice A1 n1 c1),(24,aM n1)]/\St w0 w [bk sf #[.slice (cS jY) g g] 219,kX (cS jY) g g (sF g (DV (fun _=>false) (es1.take j))),bk jh #[.slice (cS eQ) n0 n0] 219,kX (cS eQ) n0 n0 (List.replicate n0 false),bk de #[aG i,aM g,.slice A0 n0 c0,.slice A1 n1 c1] 28] [fg A1 n1 c1 es1,fC A0 n0 c0 es0]/\j<=n1) ⟨0,I,I,σ,(av _)⟩ aT ?_
 rintro _ _ _ ⟨j,rfl,rfl,σ,hj⟩
 refine il I<|wD (fun wU=>?_) fun wU=>?_
 ·have fh:j<n1:=ae
  obtain ⟨x,eG⟩:∃e,es1[j]?=some e:=⟨_,ag ae⟩
  have zQ:=dy.out x (ah eG)
  obtain ⟨q,rfl⟩:=aU zQ.1
  have hqg:q<g:=ae
  refine iT I I<|vE I (fun η=>aX (i:=j) η underlying26 (bn.size) I I ae I σ.bW.1)<|cE I (fun η=>bE (i:=j) (j:=0) (e:=((q:Nat):Int)) η bn I I di aB σ.bW.1 ae eG I)<|lE 0 σ I<|vE I (fun η=>aX (i:=q) η underlying219 (eD.size) I I ae I (aZ σ.l8))<|eE I<|uH 1 q (e1:=true) kH σ I I ae (vt _ _) fun _ σ=>?_
  rw [Ac eG] at σ
  exact can (j:=1) I ae<|gI ⟨j+1,I,I,σ,ae⟩ aT ae
 ·rw [ax (by omega),My] at σ
  refine iF I I<|?_
  rw [<- Mx es1 cQ,show (ly es1 []).2=(ly es1 (es0.drop n0)).2 by rw [bo ae]] at σ
  refine gE 4 σ I<|eE I<|fk call184 (TX (i:=i) (g:=(g:Nat)) (A0:=A0) (n0:=n0) (c0:=c0) (A1:=A1) (n1:=n1) (c1:=c1)) I ?_
  rintro _ _ ⟨gB,rfl,hS,yo,hb⟩
  refine ⟨_,I,?_⟩
  replace σ:=σ.fresh hb (bk gB #[aG i,aM g,.slice A0 n0 c0,.slice A1 n1 c1] 28) hS (fun _ hb=>hb ▸ yo)
  refine nmE σ fun wL σ=>?_
  have qZ:=σ.below.size
  have T8:=T0 σ
  refine rgE (α:=YE) (encs:=fun x:YE=>#[aM x.1,.agg #[aG x.2.1,aG x.2.2.1,aG x.2.2.2.1,aG x.2.2.2.2.1,aG x.2.2.2.2.2]]) (V:=VB es0 n0) I call211 (fun _=>I) (by exact Cp rfl) (IU ⟨σ.bW,σ.fX,σ.dw⟩ hR) (IM) ((fun Y o o' h hc=>TZ h hc)) (fun pre W=>St w0 W [bk sf #[.slice (cS jY) g g] 219,kX (cS jY) g g (sF g (ly es1 (es0.drop (n0 - pre.length))).2),bk jh #[.slice (cS eQ) n0 n0] 219,kX (cS eQ) n0 n0 (za es1 es0 (n0 - pre.length)),bk de #[aG i,aM g,.slice A0 n0 c0,.slice A1 n1 c1] 28] [bk gB #[aG i,aM g,.slice A0 n0 c0,.slice A1 n1 c1] 28,fg A1 n1 c1 es1,fC A0 n0 c0 es0]/\wL.heap.size<=W.heap.size) (fun x l W=>∃g4,wL.heap.size<=g4/\l=[(4,cY jh),(5,cY sf),(8,aM x.1),(9,cY g4)]/\(bk g4 #[aG x.2.1,aG x.2.2.1,aG x.2.2.2.1,aG x.2.2.2.2.1,aG x.2.2.2.2.2] 116).P W) (fun _ _ _ _ ⟨σ,AL⟩ hg hr=>⟨σ.grown qZ ⟨iH,kE,iH,kE,iH,trivial⟩ ⟨iH,(kO (fun _ _ h=>h) aB),(kO (fun _ _ h=>h) aB),trivial⟩ hg hr,aD AL hg.size⟩) (fun x l s Y Z row ⟨g4,h1,h2,h3⟩ hg hr=>⟨g4,h1,h2,kr iH h3 hg hr⟩) ⟨σ.pick [0,1,2,3,4] [0,1,2] aB,ar _⟩ ?_ ?_ ?_
  ·rintro ix pre x W K hV ⟨hsi,AL⟩ hK
   have σ:=St.start W
   exact eE I<|iR bm σ I fun _ xW σ=>eE I<|fB 0 σ I fun _ σ=>qaE fun a ea=>hK a [(4,cY jh),(5,cY sf),(8,aM x.1),(9,cY xW)] _ (ea.sub aT) (Nl σ.below) (abk σ.below) ⟨hsi.grown (B:=wL.heap.size) qZ ⟨iH,kE,iH,kE,iH,trivial⟩ ⟨iH,(kO (fun _ _ h=>h) aB),(kO (fun _ _ h=>h) aB),trivial⟩ (qW σ.below) (fun r e=>by cases e),aD AL σ.below.size⟩ (⟨xW,aD AL (σ.oge (k:=0) rfl),rfl,σ.gq⟩)
  ·rintro ix pre ⟨xj,x1,x2,x3,x4,x5⟩ l W ⟨JX,hxi,hex⟩ ⟨σ,AL⟩ ⟨g4,hg4,rfl,hgb⟩
   dsimp only at hex hgb hxi
   have hmy:gl (x1,x2,x3,x4,x5) g:=dy.may _ (ah hex)
   have Qn:=hmy
   unfold gl at Qn
   dsimp only at Qn
   obtain ⟨t,ht⟩:∃t:Nat,x2=t:=⟨x2.toNat,by omega⟩
   subst ht
   have htg:t<g:=ae
   have hak:=tu hmy
   have hxj:n0 - pre.length=xj+1:=ae
   have aoP:xj<n0:=ae
   rw [hxj] at σ
   have wG:wj wL.heap.size [bk sf #[.slice (cS jY) g g] 219,kX (cS jY) g g (sF g (ly es1 (es0.drop (xj+1))).2),bk jh #[.slice (cS eQ) n0 n0] 219,kX (cS eQ) n0 n0 (za es1 es0 (xj+1)),bk de #[aG i,aM g,.slice A0 n0 c0,.slice A1 n1 c1] 28]:=T8
   replace σ:=σ.abj wG hg4 hgb
   replace σ:=σ.abi wG
   obtain ⟨bt,T9⟩:∃bt,(ly es1 (es0.drop (xj+1))).2 ((t:Nat):Int)=bt:=⟨_,rfl⟩
   have hbe:(sF g (ly es1 (es0.drop (xj+1))).2)[t]?=some bt:=by rw [Sl htg,T9]
   refine lE 0 σ I<|cE I (fun η=>cC η bn I (ou σ.dw) I)<|vE I (fun η=>aX (i:=t) η underlying219 (eD.size) I I ae I (aZ σ.l8))<|cE I (fun η=>bE (i:=t) (j:=0) (e:=bt) η eD I I kH aB (aZ σ.l8) ae hbe I)<|wB (fun tt=>?_) fun tt=>?_
   ·subst tt
    refine iF I I<|JI [] [1,4,9,12,17,20,26,28,34] [0,2,4] [0,1,2,3,4] bI σ fun _ σ=>lS 1 I<|lS 0 I<|sE I (fun η hg=>cC η bn I (ou (hg.pt (j:=1) I)) I)<|vE I (fun η=>aX (i:=xj) η underlying219 (eD.size) I I ae I (aZ σ.wF))<|eS I<|uH 3 xj (e1:=true) kH σ I I ae ((Mw ae).trans cQ) fun _ σ=>sk (σ.pick [0,2,4] [0,1,2,3,4] aB).kn<|vE I (fun η=>aX (i:=t) η underlying219 (eD.size) I I ae I (aZ σ.l8))<|eS I<|uH 1 t (e1:=false) kH σ I I ae (vt _ _) fun _ σ=>sk (σ.pick [0,2,4] [0,1,2,3,4] aB).kn<|cE I (fun η=>jz η aF I (ou σ.dw) I)<|eE I<|fk call121 (qv (op:=x1) (tr:=((t:Nat):Int)) (ra:=x3) (rb:=x4) (cn:=x5) ae) I ?_
    rintro _ _ ⟨Qm,JF,n61,rfl,wZ,xc⟩
    refine ⟨_,I,?_⟩
    replace σ:=σ.more wZ
    have Fp:=ox x1 x3 x4
    rw [EV,show sF g (fun r=>if r=((t:Nat):Int) then false else (ly es1 (es0.drop (xj+1))).2 r)=sF g (DV (fun r=>if r=((t:Nat):Int) then false else (ly es1 (es0.drop (xj+1))).2 r) ((gx x1 x3 x4).take 0)) from s6 fun r=>(EW (fun r=>if r=((t:Nat):Int) then false else (ly es1 (es0.drop (xj+1))).2 r) r).symm] at σ
    refine ks (fun mz l w=>∃m:Nat,n61 - m=mz/\l=[(53,aM m),(5,cY sf),(51,.slice Qm n61 JF),(52,aM n61)]/\St w0 w [cI Qm n61 JF (gx x1 x3 x4),bk sf #[.slice (cS jY) g g] 219,kX (cS jY) g g (sF g (DV (fun r=>if r=((t:Nat):Int) then false else (ly es1 (es0.drop (xj+1))).2 r) ((gx x1 x3 x4).take m))),bk jh #[.slice (cS eQ) n0 n0] 219,kX (cS eQ) n0 n0 ((za es1 es0 (xj+1)).set xj true),bk de #[aG i,aM g,.slice A0 n0 c0,.slice A1 n1 c1] 28] [kaF wL.heap.size W,bk g4 #[aG x1,aM t,aG x3,aG x4,aG x5] 116,bk gB #[aG i,aM g,.slice A0 n0 c0,.slice A1 n1 c1] 28,fg A1 n1 c1 es1,fC A0 n0 c0 es0]/\m<=n61) ⟨0,I,I,σ,(av _)⟩ aT ?_
    rintro _ _ _ ⟨m,rfl,rfl,σ,hm⟩
    refine il I<|wD (fun IA=>?_) fun IA=>?_
    ·have WR:m<(gx x1 x3 x4).length:=ae
     obtain ⟨x,eG⟩:∃e,(gx x1 x3 x4)[m]?=some e:=⟨_,ag WR⟩
     have zQ:=hak x (ah eG)
     obtain ⟨q,rfl⟩:=aU zQ.1
     have hqg:q<g:=ae
     refine iT I I<|vE I (fun η=>aX (i:=m) η underlying26 (bn.size) I I ae I (aZ σ.jr))<|cE I (fun η=>bE (i:=m) (j:=0) (e:=((q:Nat):Int)) η bn I I di aB (aZ σ.jr) ae eG I)<|lE 1 σ I<|vE I (fun η=>aX (i:=q) η underlying219 (eD.size) I I ae I (aZ σ.pI))<|eE I<|uH 2 q (e1:=true) kH σ I I ae (vt _ _) fun _ σ=>?_
     rw [Ac eG] at σ
     exact can (j:=1) I ae<|gI ⟨m+1,I,I,σ,ae⟩ aT ae
    ·refine iF I I<|?_
     rw [show (za es1 es0 (xj+1)).set xj true=za es1 es0 xj from by rw [<- T9]; exact EU hex,ax (show (gx x1 x3 x4).length<=m by omega),show sF g (DV (fun r=>if r=((t:Nat):Int) then false else (ly es1 (es0.drop (xj+1))).2 r) (gx x1 x3 x4))=sF g (ly es1 (es0.drop xj)).2 from Sn hex rfl T9] at σ
     have iI:n0 - (pre++[((xj,x1,(t:Int),x3,x4,x5):YE)]).length=xj:=by rw [ai,bh]; omega
     rw [<- iI] at σ
     exact rdE ⟨σ.ka (k:=0) I,σ.kax (k:=0) I ⟨σ.fX,σ.nX,σ.kC⟩,⟨σ.pick [1,2,3,4,5] [2,3,4] aB,aD AL (σ.ka (k:=0) I).size⟩⟩
   ·subst tt
    refine iT I I<|?_
    rw [show za es1 es0 (xj+1)=za es1 es0 xj from Nr hex T9,show (ly es1 (es0.drop (xj+1))).2=(ly es1 (es0.drop xj)).2 from (aaJ hex T9).symm] at σ
    have iI:n0 - (pre++[((xj,x1,(t:Int),x3,x4,x5):YE)]).length=xj:=by rw [ai,bh]; omega
    rw [<- iI] at σ
    exact rdE ⟨σ.ka (k:=0) I,σ.kax (k:=0) I ⟨σ.fX,σ.nX,σ.kC⟩,⟨σ.pick [0,1,2,3,4] [2,3,4] aB,aD AL (σ.ka (k:=0) I).size⟩⟩
  ·rintro D66 xs W aeM hS ⟨σ,AL⟩ Ua
   obtain rfl:=hS
   rw [AJ,eH] at σ
   replace σ:=σ.aco ⟨iH,kE,iH,kE,iH,trivial⟩ Ua
   have Ub:=aD qZ aeM
   refine lE 2 σ I<|?_
   have Bv:=σ.acp (k:=0) rfl Ub ⟨iH,kE,iH,kE,iH,trivial⟩ ⟨iH,(kO (fun _ _ h=>h) aB),(kO (fun _ _ h=>h) aB),trivial⟩
   exact oM2 results185 I σ.bW ⟨_,_,I,Bv.pick [3] [] aB⟩
theorem Y0 (h:r<g):(dj i g)[r]?=some ((min r i:Nat):Int):=by unfold dj; rw [ay,bN h]; rfl
theorem La (h:k<n):(List.replicate n true)[k]?=some true:=by rw [cK,au h]
def GC (i n:Nat):List Int:=(List.range n).map fun k=>((i+1+k:Nat):Int)
theorem FC (h:k<n):(GC i n)[k]?=some ((i+1+k:Nat):Int):=by unfold GC; rw [ay,bN h]; rfl
theorem FD (i n:Nat):(GC i n).length=n:=by simp [GC]
theorem Us (h0:(fC A0 n0 c0 es0).P w0) (h1:(fg A1 n1 c1 es1).P w0) (dy:mv (i:Nat) (g:Nat) n0 n1 es0 es1) (rH:(ly es1 es0).1=List.replicate n0 true):
  Calls prog 141 #[.agg (lN i g A0 n0 c0 A1 n1 c1)] w0 fun e w'=>∃L An cn ga gb gs B d Au cu,e=.returned (.tuple #[cY L,aG 0])/\St w0 w' [bk L #[aM i,aM g,.slice A0 n0 c0,.slice A1 n1 c1,.slice An n0 cn,.slice (cS ga) n0 n0,.slice (cS gb) n0 n0,.slice (cS gs) n0 n0,.slice B n1 d,.slice Au (i+1+n0) cu] 230,kX An n0 cn (List.replicate n0 true),cI (cS ga) n0 n0 ((mD i (dj i g) 0 es0).map Prod.fst),cI (cS gb) n0 n0 ((mD i (dj i g) 0 es0).map Prod.snd),cI (cS gs) n0 n0 (GC i n0),cI B n1 d (mb i g es0 es1),cI Au (i+1+n0) cu (kS i g es0 es1)] []:=by
 have q1:=dy.i1
 have q2:=dy.ln
 refine gQ func141 I ntmps141 I fun σ=>?_
 have cQ:=h0.2.1
 have lu:=h0.1.cap
 have eN:=h0.1.big
 unfold maxLen at eN
 have iI:=h1.2.1
 have oI:=h1.1.cap
 have jB:=h1.1.big
 unfold maxLen at jB
 replace σ:=σ.aY h0
 replace σ:=σ.aY h1
 refine eE I<|ll σ I fun _ de σ=>gE 0 σ I<|eE I<|fk call185 (PA σ.dw σ.bW dy) I ?_
 rintro _ _ ⟨An,cn,rfl,hN⟩
 refine ⟨_,I,?_⟩
 rw [rH] at hN
 replace σ:=σ.more hN
 refine lK I<|kB (b':=false) I<|iF I I<|lE 1 σ I<|Wt 0 (fun l w=>∃gL:Nat,∃ga:Nat,∃gb:Nat,∃gs:Nat,l=[(7,cY gL),(1,cY de),(4,.slice An n0 cn),(6,aM n0)]/\St w0 w [bk gL #[aM i,aM g,.slice A0 n0 c0,.slice A1 n1 c1,.slice An n0 cn,.slice (cS ga) n0 n0,.slice (cS gb) n0 n0,.slice (cS gs) n0 n0,bM,bM] 230,cI (cS ga) n0 n0 (List.replicate n0 (0:Int)),cI (cS gb) n0 n0 (List.replicate n0 (0:Int)),cI (cS gs) n0 n0 (List.replicate n0 (0:Int)),kX An n0 cn (List.replicate n0 true),bk de (lN i g A0 n0 c0 A1 n1 c1) 28] [fg A1 n1 c1 es1,fC A0 n0 c0 es0]) I ?_ ?_
 ·refine lj [] [1,4,8,16,24,3,0,0,0,0,0] bI σ fun _ σ=>gS 1 I<|Wv [(3,[3,0,0,0,0]),(5,[3,0,0,0,0]),(7,[3,0,0,0,0])] bI fW ⟨⟨⟨_,_,_,_,_,I,?_⟩,by kernel_rfl,rfl⟩,⟨⟨_,_,_,_,_,I,?_⟩,by kernel_rfl,rfl⟩,⟨⟨_,_,_,_,_,I,?_⟩,by kernel_rfl,rfl⟩,trivial⟩
  ·refine Cn fI (0:Int) dD σ iv I ae (by unfold maxLen; omega) fun _ eQ σ=>sk (σ.kd 1 0)<|Wv [(5,[30,32,38,40]),(7,[22,32,38,40])] bI fW ⟨⟨⟨_,_,_,_,_,rfl,?_⟩,by kernel_rfl,rfl⟩,⟨⟨_,_,_,_,_,rfl,?_⟩,by kernel_rfl,rfl⟩,trivial⟩
   ·exact Cn fI (0:Int) dD σ iv I ae (by unfold maxLen; omega) fun _ jh σ=>sk (σ.kd 2 0)<|eS rfl<|Cn fI (0:Int) dD σ iv rfl ae (by unfold maxLen; omega) fun _ jY σ=>sk (σ.kd 3 0)<|vE rfl (fun η=>eV (c:=#[aM i,aM g,.slice A0 n0 c0,.slice A1 n1 c1,.slice An n0 cn,.slice (cS eQ) n0 n0,.slice (cS jh) n0 n0,.slice (cS jY) n0 n0,bM,bM]) j7 η rfl bI)<|eS rfl<|ll σ rfl fun _ sf σ=>sk (σ.kd 4 0)<|xu ⟨sf,eQ,jh,jY,rfl,σ.pick [0,3,2,1,4,5] [0,1] aB⟩ aT
   ·exact Cn fI (0:Int) dD σ iv I ae (by unfold maxLen; omega) fun _ zo σ=>sk (σ.kd 2 0)<|eS rfl<|Cn fI (0:Int) dD σ iv rfl ae (by unfold maxLen; omega) fun _ xW σ=>sk (σ.kd 3 0)<|vE rfl (fun η=>eV (c:=#[aM i,aM g,.slice A0 n0 c0,.slice A1 n1 c1,.slice An n0 cn,.slice (cS eQ) n0 n0,.slice (cS xW) n0 n0,.slice (cS zo) n0 n0,bM,bM]) j7 η rfl bI)<|eS rfl<|ll σ rfl fun _ qt σ=>sk (σ.kd 4 0)<|xu ⟨qt,eQ,xW,zo,rfl,σ.pick [0,3,1,2,4,5] [0,1] aB⟩ aT
  ·refine Cn fI (0:Int) dD σ iv I ae (by unfold maxLen; omega) fun _ tU σ=>sk (σ.kd 1 0)<|Wv [(3,[30,32,38,40]),(7,[14,32,38,40])] bI fW ⟨⟨⟨_,_,_,_,_,rfl,?_⟩,by kernel_rfl,rfl⟩,⟨⟨_,_,_,_,_,rfl,?_⟩,by kernel_rfl,rfl⟩,trivial⟩
   ·exact Cn fI (0:Int) dD σ iv I ae (by unfold maxLen; omega) fun _ C9 σ=>sk (σ.kd 2 0)<|eS rfl<|Cn fI (0:Int) dD σ iv rfl ae (by unfold maxLen; omega) fun _ D8 σ=>sk (σ.kd 3 0)<|vE rfl (fun η=>eV (c:=#[aM i,aM g,.slice A0 n0 c0,.slice A1 n1 c1,.slice An n0 cn,.slice (cS C9) n0 n0,.slice (cS tU) n0 n0,.slice (cS D8) n0 n0,bM,bM]) j7 η rfl bI)<|eS rfl<|ll σ rfl fun _ WA σ=>sk (σ.kd 4 0)<|xu ⟨WA,C9,tU,D8,rfl,σ.pick [0,2,3,1,4,5] [0,1] aB⟩ aT
   ·exact Cn fI (0:Int) dD σ iv I ae (by unfold maxLen; omega) fun _ Qp σ=>sk (σ.kd 2 0)<|eS rfl<|Cn fI (0:Int) dD σ iv rfl ae (by unfold maxLen; omega) fun _ K7 σ=>sk (σ.kd 3 0)<|vE rfl (fun η=>eV (c:=#[aM i,aM g,.slice A0 n0 c0,.slice A1 n1 c1,.slice An n0 cn,.slice (cS K7) n0 n0,.slice (cS tU) n0 n0,.slice (cS Qp) n0 n0,bM,bM]) j7 η rfl bI)<|eS rfl<|ll σ rfl fun _ Nj σ=>sk (σ.kd 4 0)<|xu ⟨Nj,K7,tU,Qp,rfl,σ.pick [0,1,3,2,4,5] [0,1] aB⟩ aT
  ·refine Cn fI (0:Int) dD σ iv I ae (by unfold maxLen; omega) fun _ g66 σ=>sk (σ.kd 1 0)<|Wv [(3,[22,32,38,40]),(5,[14,32,38,40])] bI fW ⟨⟨⟨_,_,_,_,_,rfl,?_⟩,by kernel_rfl,rfl⟩,⟨⟨_,_,_,_,_,rfl,?_⟩,by kernel_rfl,rfl⟩,trivial⟩
   ·exact Cn fI (0:Int) dD σ iv I ae (by unfold maxLen; omega) fun _ g67 σ=>sk (σ.kd 2 0)<|eS rfl<|Cn fI (0:Int) dD σ iv rfl ae (by unfold maxLen; omega) fun _ g68 σ=>sk (σ.kd 3 0)<|vE rfl (fun η=>eV (c:=#[aM i,aM g,.slice A0 n0 c0,.slice A1 n1 c1,.slice An n0 cn,.slice (cS g67) n0 n0,.slice (cS g68) n0 n0,.slice (cS g66) n0 n0,bM,bM]) j7 η rfl bI)<|eS rfl<|ll σ rfl fun _ g69 σ=>sk (σ.kd 4 0)<|xu ⟨g69,g67,g68,g66,rfl,σ.pick [0,2,1,3,4,5] [0,1] aB⟩ aT
   ·exact Cn fI (0:Int) dD σ iv I ae (by unfold maxLen; omega) fun _ g70 σ=>sk (σ.kd 2 0)<|eS rfl<|Cn fI (0:Int) dD σ iv rfl ae (by unfold maxLen; omega) fun _ g71 σ=>sk (σ.kd 3 0)<|vE rfl (fun η=>eV (c:=#[aM i,aM g,.slice A0 n0 c0,.slice A1 n1 c1,.slice An n0 cn,.slice (cS g71) n0 n0,.slice (cS g70) n0 n0,.slice (cS g66) n0 n0,bM,bM]) j7 η rfl bI)<|eS rfl<|ll σ rfl fun _ g72 σ=>sk (σ.kd 4 0)<|xu ⟨g72,g71,g70,g66,rfl,σ⟩ aT
 rintro _ _ ⟨gL,ga,gb,gs,rfl,σ⟩
 refine lE 5 σ I<|eE I<|Cn fI (0:Int) dD σ iv I ae (by unfold maxLen; omega) fun _ Y1 σ=>?_
 rw [<- K8 (dj i g) g (0:Int)] at σ
 refine ks (fun mz l w=>∃j:Nat,g - j=mz/\l=[(40,aM j),(1,cY de),(4,.slice An n0 cn),(6,aM n0),(7,cY gL),(8,.slice (cS Y1) g g),(39,aM g)]/\St w0 w [cI (cS Y1) g g (rm (dj i g) j g 0),bk gL #[aM i,aM g,.slice A0 n0 c0,.slice A1 n1 c1,.slice An n0 cn,.slice (cS ga) n0 n0,.slice (cS gb) n0 n0,.slice (cS gs) n0 n0,bM,bM] 230,cI (cS ga) n0 n0 (List.replicate n0 (0:Int)),cI (cS gb) n0 n0 (List.replicate n0 (0:Int)),cI (cS gs) n0 n0 (List.replicate n0 (0:Int)),kX An n0 cn (List.replicate n0 true),bk de (lN i g A0 n0 c0 A1 n1 c1) 28] [fg A1 n1 c1 es1,fC A0 n0 c0 es0]/\j<=g) ⟨0,I,I,σ,(av _)⟩ aT ?_
 rintro _ _ _ ⟨j,rfl,rfl,σ,hj⟩
 refine il I<|wD (fun WD=>?_) fun WD=>?_
 ·have fh:j<g:=ae
  refine iT I I<|gE 6 σ I<|eE I<|gV call186 (Uo (i:=i) (g:=g) (r:=j) (n0:=n0) (c0:=c0) (n1:=n1) (c1:=c1) (A0:=A0) (A1:=A1)) σ I fun _ σ=>vE I (fun η=>aX (i:=j) η underlying26 (bn.size) I I ae I (aZ σ.jr))<|eE I<|uH 0 j (e1:=(((min j i):Nat):Int)) di σ I I ae (by rw [l7 hj (lD i g).symm]) fun _ σ=>?_
  rw [pS (Y0 fh) fh] at σ
  exact can (j:=1) I ae<|gI ⟨j+1,I,I,σ,ae⟩ aT ae
 ·obtain rfl:g=j:=ae
  rw [yS (lD i g)] at σ
  refine iF I I<|lE 6 σ I<|can (j:=1) I ae<|?_
  replace σ:=(σ.fp dD 3 1)
  refine ks (fun mz l w=>∃u:Nat,∃A6:Option Addr,∃c6:Nat,i+1 - u=mz/\l=[(53,aM u),(1,cY de),(4,.slice An n0 cn),(6,aM n0),(7,cY gL),(8,.slice (cS Y1) g g),(52,aM (i+1))]/\St w0 w [bk gL #[aM i,aM g,.slice A0 n0 c0,.slice A1 n1 c1,.slice An n0 cn,.slice (cS ga) n0 n0,.slice (cS gb) n0 n0,.slice (cS gs) n0 n0,bM,.slice A6 u c6] 230,cI A6 u c6 (List.replicate u (-1:Int)),cI (cS Y1) g g (dj i g),cI (cS ga) n0 n0 (List.replicate n0 (0:Int)),cI (cS gb) n0 n0 (List.replicate n0 (0:Int)),cI (cS gs) n0 n0 (List.replicate n0 (0:Int)),kX An n0 cn (List.replicate n0 true),bk de (lN i g A0 n0 c0 A1 n1 c1) 28] [fg A1 n1 c1 es1,fC A0 n0 c0 es0]/\u<=i+1) ⟨0,none,0,I,I,σ.pick [2,0,1,3,4,5,6,7] [0,1] aB,(av _)⟩ aT ?_
  rintro _ _ _ ⟨u,A6,c6,rfl,rfl,σ,hu⟩
  refine il I<|wD (fun h75=>?_) fun h75=>?_
  ·refine iT I I<|lE 0 σ I<|eE I<|mi (z:=1) #[aG (-1)] σ (bn.size) gY I bI fun _ g76 σ=>eE I<|oO (new:=[(-1)]) 2 0 σ iv I (by unfold maxLen; omega) ae fun _ g77 TH σ=>?_
   rw [<- List.replicate_succ'] at σ
   exact eE I<|mK 1 σ I fun _ σ=>can (j:=1) I ae<|gI ⟨u+1,(cS g77),TH,I,I,σ.pick [1,2,3,4,5,6,7,8] [0,1] aB,ae⟩ aT ae
  ·obtain rfl:u=i+1:=ae
   refine iF I I<|lE 7 σ I<|?_
   refine nmE σ fun wL σ=>?_
   refine ks (fun mz l w=>∃k:Nat,∃A7:Option Addr,∃c7:Nat,n0 - k=mz/\l=[(68,aM k),(1,cY de),(4,.slice An n0 cn),(6,aM n0),(7,cY gL),(8,.slice (cS Y1) g g),(66,.slice A0 n0 c0),(67,aM n0)]/\St w0 w [bk gL #[aM i,aM g,.slice A0 n0 c0,.slice A1 n1 c1,.slice An n0 cn,.slice (cS ga) n0 n0,.slice (cS gb) n0 n0,.slice (cS gs) n0 n0,bM,.slice A7 (i+1+k) c7] 230,cI (cS ga) n0 n0 (rm ((mD i (dj i g) 0 es0).map Prod.fst) k n0 0),cI (cS gb) n0 n0 (rm ((mD i (dj i g) 0 es0).map Prod.snd) k n0 0),cI (cS gs) n0 n0 (rm (GC i n0) k n0 0),cI (cS Y1) g g (pZ i (dj i g) 0 (es0.take k)),cI A7 (i+1+k) c7 (uR (List.replicate (i+1) (-1)) 0 ((mD i (dj i g) 0 es0).take k)),kX An n0 cn (List.replicate n0 true),bk de (lN i g A0 n0 c0 A1 n1 c1) 28] [fg A1 n1 c1 es1,fC A0 n0 c0 es0]/\k<=n0/\lvB i k (pZ i (dj i g) 0 (es0.take k))) ⟨0,A6,c6,I,I,σ.pick [0,3,4,5,2,1,6,7] [0,1] aB,(av _),(ajl i g)⟩ aT ?_
   rintro _ _ _ ⟨k,A7,c7,rfl,rfl,σ,hk,hB⟩
   refine il I<|wD (fun h79=>?_) fun h79=>?_
   ·have fh:k<n0:=ae
    obtain ⟨⟨op,Fz,zI,yj,Du⟩,eG⟩:∃e,es0[k]?=some e:=⟨_,ag ae⟩
    have hM:=dy.may _ (ah eG)
    have zt:=hM
    unfold gl at zt
    dsimp only at zt
    obtain ⟨tr,rfl⟩:=aU (show 0<=Fz by omega)
    obtain ⟨ra,rfl⟩:=aU (show 0<=zI by omega)
    obtain ⟨rb,rfl⟩:=aU (show 0<=yj by omega)
    have hHl:(pZ i (dj i g) 0 (es0.take k)).length=g:=by rw [tc,lD]
    obtain ⟨xa,su⟩:∃x,(pZ i (dj i g) 0 (es0.take k))[ra]?=some x:=⟨_,ag ae⟩
    have hba:=hB _ (ah su)
    obtain ⟨va,rfl⟩:=aU hba.1
    have Gr:(uR (List.replicate (i+1) (-1)) 0 ((mD i (dj i g) 0 es0).take k)).length=i+1+k:=by rw [K9,df,bJ,lh]; omega
    have yi:=uC i es0 (dj i g) 0 k _ eG
    have Y3:((mD i (dj i g) 0 es0).map Prod.fst)[k]?=some ((va:Nat):Int):=by rw [ay,yi]; exact aq some (qX su)
    refine iT I I<|vE I (fun η=>aX (i:=k) η underlying25 (aF.size) I I ae I σ.dw.1)<|cE I (fun η=>cX (v:=#[aG op,aM tr,aM ra,aM rb,aG Du]) (i:=k) (e:=(op,((tr:Nat):Int),((ra:Nat):Int),((rb:Nat):Int),Du)) η aF I I lL σ.dw.1 ae eG I)<|eE I<|iR bm σ I fun _ g80 σ=>eE I<|fB 0 σ I fun _ σ=>vE I (fun η=>aX (i:=k) η underlying219 (eD.size) I I ae I (aZ σ.vM))<|cE I (fun η=>bE (i:=k) (j:=0) (e:=true) η eD I I kH aB (aZ σ.vM) ae (La fh) I)<|iF I I<|JI [] [0,4,8,13,16,20,24,28,33,36,40,44,49,52,57,60,64,69,72,77,80,86,88,94] [0,1,4,5,6,7,8] [0,1] bI σ fun _ σ=>lS 1 I<|lS 1 I<|lS 0 I<|vE I (fun η=>aX (i:=ra) η underlying26 (bn.size) I I ae I (aZ σ.JW))<|sE I (fun η hg=>bE (i:=ra) (j:=0) (e:=((va:Nat):Int)) η bn I I di aB (aZ (hg.ow (j:=3) I)) ae su I)<|lS 0 I<|vE I (fun η=>aX (i:=ra) η underlying26 (bn.size) I I ae I (aZ σ.JW))<|sE I (fun η hg=>bE (i:=ra) (j:=0) (e:=((va:Nat):Int)) η bn I I di aB (aZ (hg.ow (j:=3) I)) ae su I)<|vE I (fun η=>aX (i:=k) η underlying26 (bn.size) I I ae I (aZ σ.pI))<|eS I<|uH 2 k (e1:=((va:Nat):Int)) di σ I I ae (l7 hk (by rw [aw,lh]; omega)) fun _ σ=>sk (σ.pick [0,1,4,5,6,7,8] [0,1] aB).kn<|vE rfl (fun η=>aX (i:=k) η underlying26 (bn.size) rfl rfl ae rfl (aZ σ.wF))<|eS rfl<|uH 3 k (e1:=((va:Nat):Int)) di σ rfl rfl ae (by first | exact l7 hk (by rw [aw,lh]; omega) | (rw [aP]; exact l7 hk (by rw [aw,lh]; omega))) fun _ σ=>sk (σ.pick [0,1,4,5,6,7,8] [0,1] aB).kn<|?_
    rw [pS Y3 fh] at σ
    refine gE 0 σ I<|eE I<|fk call121 (qv (op:=op) (tr:=((tr:Nat):Int)) (ra:=((ra:Nat):Int)) (rb:=((rb:Nat):Int)) (cn:=Du) ae) I ?_
    rintro _ _ ⟨A81,c82,Ut,rfl,aeT,ajn⟩
    refine ⟨_,I,?_⟩
    replace σ:=σ.more aeT
    have ao2:=ox op ((ra:Nat):Int) ((rb:Nat):Int)
    refine sG I<|wD (fun h87=>?_) fun h87=>?_
    ·have MA:(op=3∨op=4)↔1<Ut:=by rw [<- ajn]; unfold gx; split<;>(try split)<;>simp_all
     obtain ⟨xb,BO⟩:∃x,(pZ i (dj i g) 0 (es0.take k))[rb]?=some x:=⟨_,ag ae⟩
     have Wg:=hB _ (ah BO)
     obtain ⟨vb,rfl⟩:=aU Wg.1
     have Uu:((mD i (dj i g) 0 es0).map Prod.snd)[k]?=some ((vb:Nat):Int):=by rw [ay,yi]; refine aq some ?_; dsimp only; rw [au ae]; exact qX BO
     refine iT I I<|JI [] [0,4,8,13,16,20,24,29,32,37,40,46] [0,1,2,3,5,6,7,8,9] [0,1] bI σ fun _ σ=>lS 2 I<|lS 1 I<|vE I (fun η=>aX (i:=rb) η underlying26 (bn.size) I I ae I (aZ σ.OA))<|sE I (fun η hg=>bE (i:=rb) (j:=0) (e:=((vb:Nat):Int)) η bn I I di aB (aZ (hg.ow (j:=5) I)) ae BO I)<|vE I (fun η=>aX (i:=k) η underlying26 (bn.size) I I ae I (aZ σ.Dh))<|eS I<|uH 4 k (e1:=((vb:Nat):Int)) di σ I I ae (by first | exact l7 hk (by rw [aw,lh]; omega) | (rw [aP]; exact l7 hk (by rw [aw,lh]; omega))) fun _ σ=>sk (σ.pick [0,1,2,3,5,6,7,8,9] [0,1] aB).kn<|?_
     rw [List.set_set,pS Uu fh] at σ
     refine JI [] [0,4,8,13,16,20,24,29,32,36,41,44,48,52,57,60,64,68,73,76,80,85,88,92,96,102,104,110] [0,1,2,3,4,5,6,8,9] [0,1] bI σ fun _ σ=>lS 2 I<|lS 2 I<|vE I (fun η=>aX (i:=k) η underlying26 (bn.size) I I ae I (aZ σ.wF))<|sE I (fun η hg=>bE (i:=k) (j:=0) (e:=((va:Nat):Int)) η bn I I di aB (aZ (hg.ow (j:=3) I)) ae (AO Y3 (fx k)) I)<|lS 2 I<|lS 2 I<|vE I (fun η=>aX (i:=k) η underlying26 (bn.size) I I ae I (aZ σ.Dh))<|sE I (fun η hg=>bE (i:=k) (j:=0) (e:=((vb:Nat):Int)) η bn I I di aB (aZ (hg.ow (j:=4) I)) ae (AO Uu (fx k)) I)<|vE I (fun η=>aX (i:=va) η underlying26 (bn.size) I I ae I (aZ σ.vM))<|eS I<|uH 7 va (e1:=((k:Nat):Int)) di σ I I ae (by first | exact Gr | (rw [aP]; exact Gr)) fun _ σ=>sk (σ.pick [0,1,2,3,4,5,6,8,9] [0,1] aB).kn<|vE rfl (fun η=>aX (i:=vb) η underlying26 (bn.size) rfl rfl ae rfl (aZ σ.vM))<|eS rfl<|uH 7 vb (e1:=((k:Nat):Int)) di σ rfl rfl ae (by first | exact Gr | (rw [aP]; exact Gr)) fun _ σ=>sk (σ.pick [0,1,2,3,4,5,6,8,9] [0,1] aB).kn<|JI [] [0,4,8,13,16,20,24,29,32,36,40,45,48,52,56,60,65,68,72,78,80,86] [0,1,2,3,4,7,8,9] [0,1] bI σ fun _ σ=>lS 2 rfl<|lS 1 rfl<|lS 2 rfl<|lS 2 rfl<|vE rfl (fun η=>aX (i:=k) η underlying26 (bn.size) rfl rfl ae rfl (aZ σ.JW))<|eS rfl<|uH 5 k (e1:=((i+1+k:Nat):Int)) di σ rfl rfl ae (l7 hk (FD i n0).symm) fun _ σ=>sk (σ.pick [0,1,2,3,4,7,8,9] [0,1] aB).kn<|vE rfl (fun η=>aX (i:=tr) η underlying26 (bn.size) rfl rfl ae rfl (aZ σ.OA))<|eS rfl<|uH 6 tr (e1:=((i+1+k:Nat):Int)) di σ rfl rfl ae hHl fun _ σ=>sk (σ.pick [0,1,2,3,4,7,8,9] [0,1] aB).kn<|?_
     rw [pS (FC fh) fh,show (pZ i (dj i g) 0 (es0.take k)).set tr ((i+1+k:Nat):Int)=(pZ i (dj i g) 0 (es0.take (k+1))) from (nF eG).symm] at σ
     refine lE 2 σ I<|eE I<|mi (z:=1) #[aG (-1)] σ (bn.size) gY I bI fun _ g88 σ=>eE I<|oO (new:=[(-1)]) 8 0 σ iv I (by unfold maxLen; omega) ae fun _ g89 Yw σ=>eE rfl<|mK 3 σ rfl fun _ σ=>?_
     rw [show ((uR (List.replicate (i+1) (-1)) 0 ((mD i (dj i g) 0 es0).take k)).set va ((k:Nat):Int)).set vb ((k:Nat):Int)++[-1]=(uR (List.replicate (i+1) (-1)) 0 ((mD i (dj i g) 0 es0).take (k+1))) from by rw [FB yi]; unfold uS; dsimp only; rw [qX su,au ae,qX BO,bD]; rfl] at σ
     exact can (j:=1) I ae<|gI ⟨k+1,(cS g89),Yw,I,I,σ.pick [3,4,5,6,7,8,9,10] [0,1] aB,ae,(by rw [nF eG]; exact Nx hB _)⟩ aT ae
    ·have MA:(op=3∨op=4)↔1<Ut:=by rw [<- ajn]; unfold gx; split<;>(try split)<;>simp_all
     have Uu:((mD i (dj i g) 0 es0).map Prod.snd)[k]?=some ((va:Nat):Int):=by rw [ay,yi]; refine aq some ?_; dsimp only; rw [ak ae]; exact qX su
     rw [pS Uu fh] at σ
     refine iF I I<|JI [] [0,4,8,13,16,20,24,29,32,36,41,44,48,52,57,60,64,68,73,76,80,85,88,92,96,102,104,110] [0,1,2,3,4,5,6,8,9] [0,1] bI σ fun _ σ=>lS 2 I<|lS 2 I<|vE I (fun η=>aX (i:=k) η underlying26 (bn.size) I I ae I (aZ σ.wF))<|sE I (fun η hg=>bE (i:=k) (j:=0) (e:=((va:Nat):Int)) η bn I I di aB (aZ (hg.ow (j:=3) I)) ae (AO Y3 (fx k)) I)<|lS 2 I<|lS 2 I<|vE I (fun η=>aX (i:=k) η underlying26 (bn.size) I I ae I (aZ σ.Dh))<|sE I (fun η hg=>bE (i:=k) (j:=0) (e:=((va:Nat):Int)) η bn I I di aB (aZ (hg.ow (j:=4) I)) ae (AO Uu (fx k)) I)<|vE I (fun η=>aX (i:=va) η underlying26 (bn.size) I I ae I (aZ σ.vM))<|eS I<|uH 7 va (e1:=((k:Nat):Int)) di σ I I ae (by first | exact Gr | (rw [aP]; exact Gr)) fun _ σ=>sk (σ.pick [0,1,2,3,4,5,6,8,9] [0,1] aB).kn<|vE rfl (fun η=>aX (i:=va) η underlying26 (bn.size) rfl rfl ae rfl (aZ σ.vM))<|eS rfl<|uH 7 va (e1:=((k:Nat):Int)) di σ rfl rfl ae (by first | exact Gr | (rw [aP]; exact Gr)) fun _ σ=>sk (σ.pick [0,1,2,3,4,5,6,8,9] [0,1] aB).kn<|JI [] [0,4,8,13,16,20,24,29,32,36,40,45,48,52,56,60,65,68,72,78,80,86] [0,1,2,3,4,7,8,9] [0,1] bI σ fun _ σ=>lS 2 rfl<|lS 1 rfl<|lS 2 rfl<|lS 2 rfl<|vE rfl (fun η=>aX (i:=k) η underlying26 (bn.size) rfl rfl ae rfl (aZ σ.JW))<|eS rfl<|uH 5 k (e1:=((i+1+k:Nat):Int)) di σ rfl rfl ae (l7 hk (FD i n0).symm) fun _ σ=>sk (σ.pick [0,1,2,3,4,7,8,9] [0,1] aB).kn<|vE rfl (fun η=>aX (i:=tr) η underlying26 (bn.size) rfl rfl ae rfl (aZ σ.OA))<|eS rfl<|uH 6 tr (e1:=((i+1+k:Nat):Int)) di σ rfl rfl ae hHl fun _ σ=>sk (σ.pick [0,1,2,3,4,7,8,9] [0,1] aB).kn<|?_
     rw [pS (FC fh) fh,show (pZ i (dj i g) 0 (es0.take k)).set tr ((i+1+k:Nat):Int)=(pZ i (dj i g) 0 (es0.take (k+1))) from (nF eG).symm] at σ
     refine lE 2 σ I<|eE I<|mi (z:=1) #[aG (-1)] σ (bn.size) gY I bI fun _ g91 σ=>eE I<|oO (new:=[(-1)]) 8 0 σ iv I (by unfold maxLen; omega) ae fun _ g92 c93 σ=>eE rfl<|mK 3 σ rfl fun _ σ=>?_
     rw [show ((uR (List.replicate (i+1) (-1)) 0 ((mD i (dj i g) 0 es0).take k)).set va ((k:Nat):Int)).set va ((k:Nat):Int)++[-1]=(uR (List.replicate (i+1) (-1)) 0 ((mD i (dj i g) 0 es0).take (k+1))) from by rw [FB yi]; unfold uS; dsimp only; rw [qX su,ak ae,bD]; rfl] at σ
     exact can (j:=1) I ae<|gI ⟨k+1,(cS g92),c93,I,I,σ.pick [3,4,5,6,7,8,9,10] [0,1] aB,ae,(by rw [nF eG]; exact Nx hB _)⟩ aT ae
   ·obtain rfl:n0=k:=ae
    refine iF I I<|lE 7 σ I<|?_
    rw [ax (show es0.length<=n0 by omega)] at σ hB
    rw [ax (show (mD i (dj i g) 0 es0).length<=n0 by rw [lh]; omega)] at σ
    rw [yS (show ((mD i (dj i g) 0 es0).map Prod.fst).length=n0 by rw [aw,lh]; exact cQ),yS (show ((mD i (dj i g) 0 es0).map Prod.snd).length=n0 by rw [aw,lh]; exact cQ),yS (FD i n0)] at σ
    replace σ:=(σ.fp dD 3 1)
    refine ks (fun mz l w=>∃wi:Nat,∃B8:Option Addr,∃d8:Nat,n1 - wi=mz/\l=[(174,aM wi),(6,aM n0),(7,cY gL),(8,.slice (cS Y1) g g),(172,.slice A1 n1 c1),(173,aM n1)]/\St w0 w [bk gL #[aM i,aM g,.slice A0 n0 c0,.slice A1 n1 c1,.slice An n0 cn,.slice (cS ga) n0 n0,.slice (cS gb) n0 n0,.slice (cS gs) n0 n0,.slice B8 wi d8,.slice A7 (i+1+n0) c7] 230,cI B8 wi d8 ((mb i g es0 es1).take wi),cI A7 (i+1+n0) c7 (uO (uR (List.replicate (i+1) (-1)) 0 (mD i (dj i g) 0 es0)) n0 ((mb i g es0 es1).take wi)),cI (cS ga) n0 n0 ((mD i (dj i g) 0 es0).map Prod.fst),cI (cS gb) n0 n0 ((mD i (dj i g) 0 es0).map Prod.snd),cI (cS gs) n0 n0 (GC i n0),cI (cS Y1) g g (pZ i (dj i g) 0 es0),kX An n0 cn (List.replicate n0 true),bk de (lN i g A0 n0 c0 A1 n1 c1) 28] [fg A1 n1 c1 es1,fC A0 n0 c0 es0]/\wi<=n1) ⟨0,none,0,I,I,σ.pick [1,0,6,2,3,4,5,7,8] [0,1] aB,(av _)⟩ aT ?_
    rintro _ _ _ ⟨wi,B8,d8,rfl,rfl,σ,hw⟩
    refine il I<|wD (fun h94=>?_) fun h94=>?_
    ·have hlw:wi<n1:=ae
     obtain ⟨r0,kf⟩:∃e,es1[wi]?=some e:=⟨_,ag ae⟩
     have hr8:=dy.out _ (ah kf)
     obtain ⟨r9,rfl⟩:=aU hr8.1
     obtain ⟨xr,zQ⟩:∃x,(pZ i (dj i g) 0 es0)[r9]?=some x:=⟨_,ag (by rw [tc,lD]; omega)⟩
     have Ro:=hB _ (ah zQ)
     obtain ⟨vr,rfl⟩:=aU Ro.1
     have Gr:(uO (uR (List.replicate (i+1) (-1)) 0 (mD i (dj i g) 0 es0)) n0 ((mb i g es0 es1).take wi)).length=i+1+n0:=by rw [Ur,K9,df,lh]; omega
     have EF:(mb i g es0 es1)[wi]?=some ((vr:Nat):Int):=by unfold mb; rw [ay,kf]; exact aq some (qX zQ)
     refine iT I I<|vE I (fun η=>aX (i:=wi) η underlying26 (bn.size) I I ae I σ.bW.1)<|cE I (fun η=>bE (i:=wi) (j:=0) (e:=((r9:Nat):Int)) η bn I I di aB σ.bW.1 ae kf I)<|lj [10,13] [0,4,8,12,17,20,24,28,33,38,42,44,48,54] bI σ fun _ σ=>lS 0 I<|vE I (fun η=>aX (i:=r9) η underlying26 (bn.size) I I ae I (aZ σ.OA))<|sE I (fun η hg=>bE (i:=r9) (j:=0) (e:=((vr:Nat):Int)) η bn I I di aB (aZ (hg.ow (j:=6) I)) ae zQ I)<|eS I<|mi (z:=1) #[aM vr] σ (bn.size) gY I bI fun _ g95 σ=>sk (σ.kd 1 0)<|eS I<|oO (new:=[((vr:Nat):Int)]) 2 0 σ iv I (by unfold maxLen; omega) ae fun _ g96 c97 σ=>sz rfl<|?_
     rw [<- take_one EF] at σ
     refine eS I<|mK 1 σ I fun _ σ=>sz I<|JI [] [0,4,8,13,16,20,24,29,32,36,42] [0,1,2,4,5,6,7,8,9] [0,1] bI σ fun _ σ=>lS 1 I<|vE I (fun η=>aX (i:=r9) η underlying26 (bn.size) I I ae I (aZ σ.vM))<|sE I (fun η hg=>bE (i:=r9) (j:=0) (e:=((vr:Nat):Int)) η bn I I di aB (aZ (hg.ow (j:=6) I)) ae zQ I)<|vE I (fun η=>aX (i:=vr) η underlying26 (bn.size) I I ae I (aZ σ.wF))<|eS I<|uH 3 vr (e1:=((n0:Nat):Int)) di σ I I ae (by first | exact Gr | (rw [aP]; exact Gr)) fun _ σ=>sk (σ.pick [0,1,2,4,5,6,7,8,9] [0,1] aB).kn<|?_
     rw [show (uO (uR (List.replicate (i+1) (-1)) 0 (mD i (dj i g) 0 es0)) n0 ((mb i g es0 es1).take wi)).set vr ((n0:Nat):Int)=uO (uR (List.replicate (i+1) (-1)) 0 (mD i (dj i g) 0 es0)) n0 ((mb i g es0 es1).take (wi+1)) from (YZ EF).symm] at σ
     exact can (j:=1) I ae<|gI ⟨wi+1,(cS g96),c97,I,I,σ.pick [1,2,3,4,5,6,7,8,9] [0,1] aB,ae⟩ aT ae
    ·obtain rfl:n1=wi:=ae
     refine iF I I<|o2 results141 I<|?_
     rw [ax (show (mb i g es0 es1).length<=n1 by unfold mb; rw [aw]; omega)] at σ
     exact by rw [show kS i g es0 es1=uO (uR (List.replicate (i+1) (-1)) 0 (mD i (dj i g) 0 es0)) n0 (mb i g es0 es1) by unfold kS; rw [cQ]]; exact ⟨_,_,_,_,_,_,_,_,_,_,rfl,σ.pick [0,7,3,4,5,1,2] [] aB⟩
def Uv (p:Pk):Prop:=∀x∈p.at_,0<=x/\x<p.free.length
theorem qD (u:List Int) (k:Nat) (p:Pk) (v:Int):(jL u k p v).at_=p.at_/\(jL u k p v).free.length=p.free.length:=by
 unfold jL
 split
 ·exact ⟨I,aP⟩
 ·exact ⟨I,I⟩
theorem CL (h:Uv p):Uv (jL u k p v):=by
 obtain ⟨h1,h2⟩:=qD u k p v
 unfold Uv
 rw [h1,h2]
 exact h
theorem Uw (h:Uv p):Uv (kN p).2/\(kN p).2.at_=p.at_++[(kN p).1]/\0<=(kN p).1/\((kN p).2.free.length:Int)=max (p.free.length:Int) ((kN p).1+1):=by
 obtain ⟨rn,h1,h2,_,h4,_,h6,_⟩:=Ah p
 refine ⟨fun x hx=>?_,by rw [h4,h1],by omega,by rw [h6,h1]; omega⟩
 rw [h4] at hx
 rw [h6]
 rcases aK.1 hx with h7 | h7
 ·have:=h x h7; omega
 ·rw [aL.1 h7]; omega
theorem abv (hi:1<=i):Uv (vP i u):=fun x hx=>by
 rw [xN]
 unfold vP at hx
 dsimp only at hx
 rcases aK.1 hx with h | h
 ·obtain ⟨v,hv,rfl⟩:=bG.1 h
  have:=eR.1 hv
  split<;>omega
 ·rw [aL.1 h]
  split<;>omega
theorem Ux (i:Nat) (u:List Int):(vP i u).at_.length=i+1:=by unfold vP; simp
theorem xY {e:IE} {q:Int×Int} (he:es[j]?=some e) (hq:qs[j]?=some q):mE u k p (es.drop j) (qs.drop j)=((mE u (k+1) (qT u k p e q).1 (es.drop (j+1)) (qs.drop (j+1))).1,(qT u k p e q).2::(mE u (k+1) (qT u k p e q).1 (es.drop (j+1)) (qs.drop (j+1))).2):=by
 rw [oA he,oA hq,mE]
theorem Ea (h:es.length<=j):mE u k p (es.drop j) qs=(p,[]):=by
 rw [bo h]
 cases qs<;>rfl
def Qr (u:List Int) (v:Nat):List Bool:=(List.range v).map fun v=>decide (gi u (v:Nat)<0)
def Ny (v:Nat):List Int:=(List.range v).map fun v=>((v:Nat):Int)
theorem Nz (u:List Int) (v:Nat):(Qr u v).length=v:=by simp [Qr]
theorem FG (v:Nat):(Ny v).length=v:=by simp [Ny]
theorem CM {v:Nat} (h:u[v]?=some x):Qr u v++[decide (x<0)]=Qr u (v+1):=by unfold Qr; rw [iw,cD,List.map_singleton,qX h]
theorem Uy (v:Nat):Ny v++[((v:Nat):Int)]=Ny (v+1):=by unfold Ny; rw [iw,cD,List.map_singleton]
theorem FA.nil:FA [] (Ny 0):=⟨fun v h=>absurd h (dB _),fun _ _=>rfl⟩
theorem FA.step {lm:List (Int×Int)} {v:Nat} (h:FA lm (Ny v)):FA (lm++[(((v:Nat):Int),((v:Nat):Int))]) (Ny (v+1)):=by
 have:=h.add ((v:Nat):Int)
 rw [FG,Uy] at this
 exact this
theorem FA.no {lm:List (Int×Int)} {v:Nat} (h:FA lm (Ny v)):uP ((v:Nat):Int) lm=false:=h.2 v (by rw [FG]; exact ar _)
theorem aeU {l:List (Int×Int)} (h:uP x l=false):Gy x l=0:=by
 unfold uP at h; unfold Gy
 cases hf:AM x l 0 with
 | none=>rfl
 | some q=>rw [hf] at h; cases h
theorem FA.gap {lm:List (Int×Int)} (h:FA lm at_):FA lm (at_++[0]):=by
 refine ⟨fun v hv=>?_,fun v hv=>?_⟩
 ·rw [ai,bh] at hv
  rcases aV v at_.length with c | c
  ·rw [h.1 v c,Uk c]
  ·obtain rfl:v=at_.length:=ae
   rw [aeU (h.2 _ (ar _)),Um]
 ·rw [ai,bh] at hv
  exact h.2 v ae
theorem NA (h:0<=gi u i):vP i u=⟨Ny i++[((i:Nat):Int)],Qr u i++[false]⟩:=by unfold vP Ny Qr; rw [au h,au h]
theorem NB (h:¬0<=gi u i):vP i u=⟨Ny i++[0],Qr u i⟩:=by unfold vP Ny Qr; rw [ak h,ak h,bq]
def arN (a b j:Nat):Nat:=if j=0 then a else b
theorem Uz (a b j:Nat):tH ((a:Nat):Int) ((b:Nat):Int) j=((arN a b j:Nat):Int):=by unfold tH arN; split<;>rfl
def mW (u:List Int) (k:Nat) (p:Pk) (a b:Nat) (j:Nat):Pk:=if j=0 then p else if j=1 then jL u k p (a:Nat) else jL u k (jL u k p (a:Nat)) (b:Nat)
theorem vB {a:Nat} (h:j<2):mW u k p a b (j+1)=jL u k (mW u k p a b j) (arN a b j:Nat):=by
 rcases (show j=0∨j=1 by omega) with rfl | rfl<;>rfl
theorem nM (u:List Int) (k:Nat) (p:Pk) (a b j:Nat):(mW u k p a b j).at_=p.at_/\(mW u k p a b j).free.length=p.free.length:=by
 unfold mW
 split
 ·exact ⟨I,I⟩
 ·split
  ·exact qD ..
  ·exact ⟨(qD ..).1.trans (qD ..).1,(qD ..).2.trans (qD ..).2⟩
theorem UA {a:Nat} (h:Uv p):Uv (mW u k p a b j):=by
 unfold mW
 split
 ·exact h
 ·split
  ·exact CL h
  ·exact CL (CL h)
theorem NC (p:Pk):(kN p).1<=(p.free.length:Int):=by
 obtain ⟨rn,h1,h2,_⟩:=Ah p
 omega
theorem ajp (h:Uv p) {v:Nat} (hv:v<p.at_.length):∃x:Nat,gi p.at_ ((v:Nat):Int)=((x:Nat):Int)/\x<p.free.length:=by
 have hx:p.at_[v]?=some p.at_[v]:=ag hv
 have hb:=h _ (ah hx)
 obtain ⟨x,e⟩:=aU hb.1
 exact ⟨x,(qX hx).trans e,by omega⟩
theorem abw (mf:∀e∈es,gl e g) (ho:∀r∈os,0<=r/\r<g):∀x∈mb i g es os,0<=x/\x<((i+1+es.length:Nat):Int):=fun x hx=>by
 obtain ⟨r,hr,rfl⟩:=bG.1 hx
 have hh:=xM (i:=i) mf (lD i g) (fun r h0 h1=>by rw [qU h0 h1]; omega) es.length (ar _) r (ho r hr).1 (ho r hr).2
 rw [ax (ar _)] at hh
 omega
theorem ND (h0:(fC A0 n0 c0 es0).P w0) (h1:(fg A1 n1 c1 es1).P w0) (dy:mv (i:Nat) (g:Nat) n0 n1 es0 es1) (rH:(ly es1 es0).1=List.replicate n0 true):
  Calls prog 92 #[.agg (lN i g A0 n0 c0 A1 n1 c1)] w0 fun e w'=>∃A c B d,e=.returned (.tuple #[.agg #[aM i,aM (rB i g es0 es1),.slice A n0 c,.slice B n1 d],aG 0])/\St w0 w' [dQ A n0 c (BP i g es0 es1),cI B n1 d (qh i g es0 es1)] []:=by
 have q1:=dy.i1
 have q2:=dy.ln
 have Gr:=(aaO dy.may dy.out (i:=i)).2
 refine gQ func92 I ntmps92 I fun σ=>?_
 have cQ:=h0.2.1
 have lu:=h0.1.cap
 have eN:=h0.1.big
 unfold maxLen at eN
 have iI:=h1.2.1
 have oI:=h1.1.cap
 have jB:=h1.1.big
 unfold maxLen at jB
 replace σ:=σ.aY h0
 replace σ:=σ.aY h1
 refine eE I<|ll σ I fun _ de σ=>eE I<|iR cM σ I fun _ eQ σ=>gE 1 σ I<|eE I<|fk call141 (Us σ.dw σ.bW dy rH) I ?_
 rintro _ _ ⟨gL,An,cn,ga,gb,gs,B,d,Au,cu,rfl,hSl⟩
 refine ⟨_,I,?_⟩
 replace σ:=σ.more hSl
 refine lK I<|kB (b':=false) I<|iF I I<|eE I<|mmE zR σ I fun _ jh σ=>vE I (fun η=>eV (c:=#[.map (some jh),bM]) tT η I I)<|eE I<|ll σ I fun _ jY σ=>?_
 replace σ:=(σ.fp dD 4 1)
 replace σ:=(σ.pick [1,0,2,3,4,5,6,7,8,9,10,11] [0,1] aB).pack 3
 refine lE 9 σ I<|ks (fun mz l w=>∃v:Nat,∃A5:Option Addr,∃c5:Nat,∃lm:List (Int×Int),i - v=mz/\l=[(30,aM v),(1,cY de),(2,cY eQ),(4,cY gL),(6,cY jY),(29,aM i)]/\St w0 w [Qq jY jh A5 v c5 (Qr (kS i g es0 es1) v) lm,bk gL #[aM i,aM g,.slice A0 n0 c0,.slice A1 n1 c1,.slice An n0 cn,.slice (cS ga) n0 n0,.slice (cS gb) n0 n0,.slice (cS gs) n0 n0,.slice B n1 d,.slice Au (i+1+n0) cu] 230,kX An n0 cn (List.replicate n0 true),cI (cS ga) n0 n0 ((mD i (dj i g) 0 es0).map Prod.fst),cI (cS gb) n0 n0 ((mD i (dj i g) 0 es0).map Prod.snd),cI (cS gs) n0 n0 (GC i n0),cI B n1 d (mb i g es0 es1),cI Au (i+1+n0) cu (kS i g es0 es1),bk eQ #[aG 0,aG 0,bM,bM] 28,bk de (lN i g A0 n0 c0 A1 n1 c1) 28] [fg A1 n1 c1 es1,fC A0 n0 c0 es0]/\v<=i/\FA lm (Ny v)) ⟨0,none,0,[],I,I,σ,(av _),FA.nil⟩ aT ?_
 rintro _ _ _ ⟨v,A5,c5,lm,rfl,rfl,σ,hv,hP⟩
 refine il I<|wD (fun sI=>?_) fun sI=>?_
 ·have fh:v<i:=ae
  obtain ⟨uv,huv⟩:∃e,(kS i g es0 es1)[v]?=some e:=⟨_,ag (by rw [Gr]; omega)⟩
  refine iT I I<|lE 1 σ I<|vE I (fun η=>aX (i:=v) η underlying26 (bn.size) I I ae I (aZ σ.vM))<|cE I (fun η=>bE (i:=v) (j:=0) (e:=uv) η bn I I di aB (aZ σ.vM) ae huv I)<|eE I<|fk call142 (Up (σ.cF (k:=0) I []) (Nz _ _) ae hP.no) I ?_
  rintro _ _ ⟨KR,ID,rfl,ael⟩
  refine ⟨_,I,?_⟩
  replace σ:=σ.kL (k:=0) I ael
  rw [CM huv] at σ
  exact can (j:=1) I ae<|gI ⟨v+1,KR,ID,(lm++[(((v:Nat):Int),((v:Nat):Int))]),I,I,σ,ae,hP.step⟩ aT ae
 ·obtain rfl:i=v:=ae
  obtain ⟨ui,hui⟩:∃e,(kS i g es0 es1)[i]?=some e:=⟨_,ag (by rw [Gr]; omega)⟩
  refine iF I I<|lj [] [0,4,8,13,16,21,24,29,32] bI σ fun _ σ=>lS 1 I<|lS 9 I<|vE I (fun η=>aX (i:=i) η underlying26 (bn.size) I I ae I (aZ σ.vM))<|sE I (fun η hg=>bE (i:=i) (j:=0) (e:=ui) η bn I I di aB (aZ (hg.ow (j:=7) I)) ae hui I)<|xo I<|wD (fun wX=>?_) fun wX=>?_
  ·have yo:0<=gi (kS i g es0 es1) i:=by rw [qX hui]; exact wX
   refine iT I I<|JI [] [0,4,9,12,16,20,25,28,33,36,41,46] [1,2,3,4,5,6,7,8,9] [0,1] bI σ fun _ σ=>lS 8 I<|lS 0 I<|lS 8 I<|vE I (fun η=>aX (i:=i) η underlying26 (bn.size) I I ae I (aZ σ.vM))<|sE I (fun η hg=>bE (i:=i) (j:=0) (e:=ui) η bn I I di aB (aZ (hg.ow (j:=6) I)) ae hui I)<|eS I<|fk call142 (Up (σ.cF (k:=0) I []) (Nz _ _) ae hP.no) I ?_
   rintro _ _ ⟨Cz,xv,rfl,wZ⟩
   refine ⟨_,I,?_⟩
   replace σ:=σ.kL (k:=0) I wZ
   rw [CM hui] at σ
   refine sk (σ.pick [1,2,3,4,5,6,7,8,9] [0,1] aB).kn<|Wt 0 (fun l w=>∃g8:Nat,∃A6:Option Addr,∃n:Nat,∃c6:Nat,∃Y4:List (Int×Int),l=[(8,cY g8),(1,cY de),(2,cY eQ),(4,cY gL),(6,cY jY)]/\St w0 w [bk g8 (lN i n none 0 0 none 0 0) 28,Qq jY jh A6 n c6 ((vP i (kS i g es0 es1)).free) Y4,bk gL #[aM i,aM g,.slice A0 n0 c0,.slice A1 n1 c1,.slice An n0 cn,.slice (cS ga) n0 n0,.slice (cS gb) n0 n0,.slice (cS gs) n0 n0,.slice B n1 d,.slice Au (i+1+n0) cu] 230,kX An n0 cn (List.replicate n0 true),cI (cS ga) n0 n0 ((mD i (dj i g) 0 es0).map Prod.fst),cI (cS gb) n0 n0 ((mD i (dj i g) 0 es0).map Prod.snd),cI (cS gs) n0 n0 (GC i n0),cI B n1 d (mb i g es0 es1),cI Au (i+1+n0) cu (kS i g es0 es1),bk eQ #[aG 0,aG 0,bM,bM] 28,bk de (lN i g A0 n0 c0 A1 n1 c1) 28] [fg A1 n1 c1 es1,fC A0 n0 c0 es0]/\FA Y4 (vP i (kS i g es0 es1)).at_/\(vP i (kS i g es0 es1)).free.length=n/\i<=n/\n<=i+1) I ?_ ?_
   ·replace σ:=σ.unpack
    refine lj [12] [0,5,8,13,16,20,24,29,32,36,40,46,50] bI σ fun _ σ=>lS 11 I<|lS 11 I<|lS 0 I<|vE I (fun η=>vq η I I)<|vE I (fun η=>eV (c:=#[aM i,aM (max i (i+1)),bM,bM]) jq η I I)<|eS I<|iR cM σ I fun _ Qp σ=>sk (σ.kd 1 0)<|eS I<|fB 0 σ I fun _ σ=>sz I<|?_
    replace σ:=(σ.pick [1,2,3,0,4,5,6,7,8,9,10,11,12] [0,1] aB).pack 3
    rw [show max i (i+1)=(i+1) by omega] at σ
    rw [show (Qr (kS i g es0 es1) (i+1))=(vP i (kS i g es0 es1)).free from by rw [NA yo,<- CM hui,aC ae]] at σ
    exact xu ⟨Qp,Cz,(i+1),xv,(lm++[(((i:Nat):Int),((i:Nat):Int))]),I,σ.pick [1,0,2,3,4,5,6,7,8,9,10] [0,1] aB,(by rw [NA yo]; have:=hP.add ((i:Nat):Int); rw [FG] at this; exact this),(by rw [xN]; exact au yo),ae,ae⟩ aT
   rintro _ _ ⟨g8,A6,n,c6,Y4,rfl,σ,hP,Wi,nz,hni⟩
   refine lE 10 σ I<|?_
   replace σ:=(σ.pick [1,0,2,3,4,5,6,7,8,9,10] [0,1] aB).unpack
   replace σ:=(σ.fp dD 116 5)
   refine ks (fun mz l w=>∃k:Nat,∃p:Pk,∃IX:List IE,∃n7:Nat,∃A7:Option Addr,∃c7:Nat,∃CO:List (Int×Int),∃A8:Option Addr,∃c8:Nat,n0 - k=mz/\l=[(79,aM k),(2,cY eQ),(4,cY gL),(6,cY jY),(8,cY g8),(77,.slice A0 n0 c0),(78,aM n0)]/\St w0 w [bk g8 (lN i n7 A8 k c8 none 0 0) 28,dQ A8 k c8 IX,bk jY #[.map (some jh),.slice A7 n7 c7] 227,kX A7 n7 c7 p.free,tV zR jh CO,bk gL #[aM i,aM g,.slice A0 n0 c0,.slice A1 n1 c1,.slice An n0 cn,.slice (cS ga) n0 n0,.slice (cS gb) n0 n0,.slice (cS gs) n0 n0,.slice B n1 d,.slice Au (i+1+n0) cu] 230,kX An n0 cn (List.replicate n0 true),cI (cS ga) n0 n0 ((mD i (dj i g) 0 es0).map Prod.fst),cI (cS gb) n0 n0 ((mD i (dj i g) 0 es0).map Prod.snd),cI (cS gs) n0 n0 (GC i n0),cI B n1 d (mb i g es0 es1),cI Au (i+1+n0) cu (kS i g es0 es1),bk eQ #[aG 0,aG 0,bM,bM] 28,bk de (lN i g A0 n0 c0 A1 n1 c1) 28] [fg A1 n1 c1 es1,fC A0 n0 c0 es0]/\k<=n0/\Uv p/\p.at_.length=i+1+k/\FA CO p.at_/\p.free.length=n7/\i<=n7/\n7<=i+1+k/\IX.length=k/\(mE (kS i g es0 es1) k p (es0.drop k) ((mD i (dj i g) 0 es0).drop k)).1=(DW i g es0 es1).1/\IX++(mE (kS i g es0 es1) k p (es0.drop k) ((mD i (dj i g) 0 es0).drop k)).2=BP i g es0 es1) ⟨0,(vP i (kS i g es0 es1)),[],n,A6,c6,Y4,none,0,I,I,σ.pick [4,0,1,2,3,5,6,7,8,9,10,11,12,13] [0,1] aB,(av _),(abv ae),(Ux i _),hP,Wi,nz,hni,I,I,I⟩ aT ?_
   rintro _ _ _ ⟨k,p,IX,n7,A7,c7,CO,A8,c8,rfl,rfl,σ,hk,hB8,MA,PB,Lb,ao4,ao5,he8,yx,Dv⟩
   refine il I<|wD (fun JG=>?_) fun JG=>?_
   ·have fh:k<n0:=ae
    obtain ⟨⟨op,Fz,zI,yj,Du⟩,eG⟩:∃e,es0[k]?=some e:=⟨_,ag ae⟩
    have hM:=dy.may _ (ah eG)
    have zt:=hM
    unfold gl at zt
    dsimp only at zt
    obtain ⟨⟨va0,vb0⟩,yi⟩:∃q,(mD i (dj i g) 0 es0)[k]?=some q:=⟨_,ag (by rw [lh]; omega)⟩
    have Qh:=uD dy.may _ _ yi
    dsimp only at Qh
    obtain ⟨va,rfl⟩:=aU Qh.1.1
    obtain ⟨vb,rfl⟩:=aU Qh.2.1
    have Y3:((mD i (dj i g) 0 es0).map Prod.fst)[k]?=some ((va:Nat):Int):=by rw [ay,yi]; rfl
    have Uu:((mD i (dj i g) 0 es0).map Prod.snd)[k]?=some ((vb:Nat):Int):=by rw [ay,yi]; rfl
    refine iT I I<|vE I (fun η=>aX (i:=k) η underlying25 (aF.size) I I ae I σ.dw.1)<|cE I (fun η=>cX (v:=#[aG op,aG Fz,aG zI,aG yj,aG Du]) (i:=k) (e:=(op,Fz,zI,yj,Du)) η aF I I lL σ.dw.1 ae eG I)<|eE I<|iR bm σ I fun _ Nj σ=>eE I<|fB 0 σ I fun _ σ=>lE 6 σ I<|vE I (fun η=>aX (i:=k) η underlying219 (eD.size) I I ae I (aZ σ.vM))<|cE I (fun η=>bE (i:=k) (j:=0) (e:=true) η eD I I kH aB (aZ σ.vM) ae (La fh) I)<|iF I I<|gE 0 σ I<|eE I<|fk call121 (qv (op:=op) (tr:=Fz) (ra:=zI) (rb:=yj) (cn:=Du) ae) I ?_
    rintro _ _ ⟨Yu,TG,n68,rfl,Cu,Tz⟩
    refine ⟨_,I,?_⟩
    replace σ:=σ.more Cu
    have adL:=ox op zI yj
    refine sG I<|lj [13] [0,4,8,13,16,20,24,29,32,36,41,45,48,54] bI σ fun _ σ=>lS 4 I<|lS 7 I<|vE I (fun η=>aX (i:=k) η underlying26 (bn.size) I I ae I (aZ (σ.owns (k:=9) I)))<|sE I (fun η hg=>bE (i:=k) (j:=0) (e:=((va:Nat):Int)) η bn I I di aB (aZ (hg.ow (j:=9) I)) ae Y3 I)<|sE I (fun η hg=>nm (lm:=CO) (x:=((va:Nat):Int)) false η CK underlying225 kI I I (hg.ow (j:=6) I))<|M8 (aq (Value.int .i64) (PB.1 va ae))<|eS I<|mK 1 σ I fun _ σ=>sz I<|Wt 0 (fun l w=>∃Lc:Int,l=[(2,cY eQ),(4,cY gL),(6,cY jY),(8,cY g8),(9,aM k),(10,cY Nj),(77,.slice A0 n0 c0),(78,aM n0),(79,aM k)]/\St w0 w [bk Nj #[aG op,aG Fz,aG (gi p.at_ ((va:Nat):Int)),aG Lc,aG Du] 116,bk g8 (lN i n7 A8 k c8 none 0 0) 28,dQ A8 k c8 IX,bk jY #[.map (some jh),.slice A7 n7 c7] 227,kX A7 n7 c7 p.free,tV zR jh CO,bk gL #[aM i,aM g,.slice A0 n0 c0,.slice A1 n1 c1,.slice An n0 cn,.slice (cS ga) n0 n0,.slice (cS gb) n0 n0,.slice (cS gs) n0 n0,.slice B n1 d,.slice Au (i+1+n0) cu] 230,kX An n0 cn (List.replicate n0 true),cI (cS ga) n0 n0 ((mD i (dj i g) 0 es0).map Prod.fst),cI (cS gb) n0 n0 ((mD i (dj i g) 0 es0).map Prod.snd),cI (cS gs) n0 n0 (GC i n0),cI B n1 d (mb i g es0 es1),cI Au (i+1+n0) cu (kS i g es0 es1),bk eQ #[aG 0,aG 0,bM,bM] 28,bk de (lN i g A0 n0 c0 A1 n1 c1) 28] [fg A1 n1 c1 es1,fC A0 n0 c0 es0]/\Lc=if op=3∨op=4 then gi p.at_ ((vb:Nat):Int) else yj) I ?_ ?_
    ·refine dE I (fun Yo=>?_) fun Yo=>?_
     ·have Ld:(op=3∨op=4)↔1<n68:=by rw [<- Tz]; unfold gx; split<;>(try split)<;>simp_all
      exact lj [13] [0,4,8,13,16,20,24,29,32,36,41,45,48,54] bI σ fun _ σ=>lS 4 I<|lS 7 I<|vE I (fun η=>aX (i:=k) η underlying26 (bn.size) I I ae I (aZ (σ.owns (k:=10) I)))<|sE I (fun η hg=>bE (i:=k) (j:=0) (e:=((vb:Nat):Int)) η bn I I di aB (aZ (hg.ow (j:=10) I)) ae Uu I)<|sE I (fun η hg=>nm (lm:=CO) (x:=((vb:Nat):Int)) false η CK underlying225 kI I I (hg.ow (j:=6) I))<|M8 (aq (Value.int .i64) (PB.1 vb ae))<|eS I<|mK 1 σ I fun _ σ=>sz I<|xu ⟨(gi p.at_ ((vb:Nat):Int)),I,σ.pick [1,2,3,4,5,6,7,8,9,10,11,12,13,14,15] [0,1] aB,(by rw [au (Ld.2 ae)])⟩ aT
     ·have Ld:(op=3∨op=4)↔1<n68:=by rw [<- Tz]; unfold gx; split<;>(try split)<;>simp_all
      exact xu ⟨yj,I,σ.pick [1,2,3,4,5,6,7,8,9,10,11,12,13,14,15] [0,1] aB,(by rw [ak (fun q=>by have:=Ld.1 q; omega)])⟩ aT
    rintro _ _ ⟨Lc,rfl,σ,W5⟩
    refine lj [] [0,4,8,13,16,20,25,28,32,36,41,44,48,53,56,60] bI σ fun _ σ=>lS 6 I<|vE I (fun η=>aX (i:=k) η underlying26 (bn.size) I I ae I (aZ (σ.owns (k:=8) I)))<|sE I (fun η hg=>bE (i:=k) (j:=0) (e:=((va:Nat):Int)) η bn I I di aB (aZ (hg.ow (j:=8) I)) ae Y3 I)<|lS 6 I<|vE I (fun η=>aX (i:=k) η underlying26 (bn.size) I I ae I (aZ (σ.owns (k:=9) I)))<|sE I (fun η hg=>bE (i:=k) (j:=0) (e:=((vb:Nat):Int)) η bn I I di aB (aZ (hg.ow (j:=9) I)) ae Uu I)<|vE I (fun η=>xO η underlying231 (bn.size) pG I I)<|?_
    rw [show p.free=(mW (kS i g es0 es1) k p va vb 0).free from rfl] at σ
    refine ks (fun mz l w=>∃tj:Nat,2 - tj=mz/\l=[(138,aM tj),(2,cY eQ),(4,cY gL),(6,cY jY),(8,cY g8),(9,aM k),(10,cY Nj),(77,.slice A0 n0 c0),(78,aM n0),(79,aM k),(137,.agg #[aM va,aM vb])]/\St w0 w [bk Nj #[aG op,aG Fz,aG (gi p.at_ ((va:Nat):Int)),aG Lc,aG Du] 116,bk g8 (lN i n7 A8 k c8 none 0 0) 28,dQ A8 k c8 IX,bk jY #[.map (some jh),.slice A7 n7 c7] 227,kX A7 n7 c7 ((mW (kS i g es0 es1) k p va vb tj).free),tV zR jh CO,bk gL #[aM i,aM g,.slice A0 n0 c0,.slice A1 n1 c1,.slice An n0 cn,.slice (cS ga) n0 n0,.slice (cS gb) n0 n0,.slice (cS gs) n0 n0,.slice B n1 d,.slice Au (i+1+n0) cu] 230,kX An n0 cn (List.replicate n0 true),cI (cS ga) n0 n0 ((mD i (dj i g) 0 es0).map Prod.fst),cI (cS gb) n0 n0 ((mD i (dj i g) 0 es0).map Prod.snd),cI (cS gs) n0 n0 (GC i n0),cI B n1 d (mb i g es0 es1),cI Au (i+1+n0) cu (kS i g es0 es1),bk eQ #[aG 0,aG 0,bM,bM] 28,bk de (lN i g A0 n0 c0 A1 n1 c1) 28] [fg A1 n1 c1 es1,fC A0 n0 c0 es0]/\tj<=2) ⟨0,I,I,σ,(av _)⟩ aT ?_
    rintro _ _ _ ⟨tj,rfl,rfl,σ,ht⟩
    refine il I<|wD (fun h73=>?_) fun h73=>?_
    ·have zH:tj<2:=ae
     obtain ⟨v9,PD⟩:∃v,v=arN va vb tj:=⟨_,rfl⟩
     have hvb:v9<i+1+k:=by rw [PD]; unfold arN; split<;>omega
     have ao8:=σ
     obtain ⟨uw,huw⟩:∃e,(kS i g es0 es1)[v9]?=some e:=⟨_,ag (by rw [Gr]; omega)⟩
     refine iT I I<|vE I (fun η=>se (m:=((va:Nat):Int)) (n:=((vb:Nat):Int)) (j:=tj) η underlying231 bn I I ae)<|M8 (aq (Value.int .i64) ((Uz va vb tj).trans (aq (fun x:Nat=>((x:Nat):Int)) PD.symm)))<|lE 6 σ I<|vE I (fun η=>aX (i:=v9) η underlying26 (bn.size) I I ae I (aZ (σ.owns (k:=12) I)))<|cE I (fun η=>bE (i:=v9) (j:=0) (e:=uw) η bn I I di aB (aZ (σ.owns (k:=12) I)) ae huw I)<|gj I<|wQ (fun WD=>?_) fun WD=>?_
     ·obtain ⟨x9,Qt,hx8⟩:=ajp hB8 (v:=v9) ae
      refine iT I I<|lj [11] [0,4,8,13,16,20,24,29,32,37,40,46] bI σ fun _ σ=>lS 3 I<|lS 3 I<|sE I (fun η hg=>nm (lm:=CO) (x:=((v9:Nat):Int)) false η CK underlying225 kI I I (hg.ow (j:=5) I))<|M8 (aq (Value.int .i64) (PB.1 v9 ae))<|M8 (aq (Value.int .i64) Qt)<|vE I (fun η=>aX (i:=x9) η underlying219 (eD.size) I I ae I (aZ σ.Dh))<|eS I<|uH 4 x9 (e1:=true) kH σ I I ae ((nM ..).2.trans Lb) fun _ σ=>sz I<|can (j:=1) I ae<|?_
      rw [show (((mW (kS i g es0 es1) k p va vb tj).free).set x9 true)=(mW (kS i g es0 es1) k p va vb (tj+1)).free from by rw [vB zH,<- PD]; unfold jL; rw [au (by rw [qX huw]; exact WD),(nM ..).1,Qt]; rfl] at σ
      exact gI ⟨tj+1,I,I,σ,ae⟩ aT ae
     ·refine iF I I<|can (j:=1) I ae<|?_
      rw [show (mW (kS i g es0 es1) k p va vb tj).free=(mW (kS i g es0 es1) k p va vb (tj+1)).free from by rw [vB zH,<- PD]; unfold jL; rw [ak (by rw [qX huw]; exact WD)]] at σ
      exact gI ⟨tj+1,I,I,σ,ae⟩ aT ae
    ·obtain rfl:tj=2:=ae
     refine iF I I<|?_
     replace σ:=(σ.pick [3,4,5,0,1,2,6,7,8,9,10,11,12,13,14] [0,1] aB).pack 3
     refine lE 4 σ I<|vE I (fun η=>aX (i:=k) η underlying26 (bn.size) I I ae I (aZ (σ.owns (k:=8) I)))<|cE I (fun η=>bE (i:=k) (j:=0) (e:=((i+1+k:Nat):Int)) η bn I I di aB (aZ (σ.owns (k:=8) I)) ae (FC fh) I)<|eE I<|fk call143 (Nw (p:=(mW (kS i g es0 es1) k p va vb 2)) (σ.cF (k:=0) I []) ((nM ..).2.trans Lb) ae (PB.2 _ ae)) I ?_
     rintro _ _ ⟨A75,n76,YF,rfl,KP,aeY⟩
     refine ⟨_,I,?_⟩
     replace σ:=σ.kL (k:=0) I KP
     have hg9:=Uw (UA (a:=va) (b:=vb) (j:=2) (u:=(kS i g es0 es1)) (k:=k) hB8)
     have hg8:=NC (mW (kS i g es0 es1) k p va vb 2)
     have hg7:=(nM (kS i g es0 es1) k p va vb 2).2
     replace σ:=σ.unpack
     exact eE I<|mK 3 σ I fun _ σ=>lE 4 σ I<|gE 3 σ I<|eE I<|mi (z:=5) #[aG op,aG ((kN (mW (kS i g es0 es1) k p va vb 2)).1),aG (gi p.at_ ((va:Nat):Int)),aG Lc,aG Du] σ (aF.size) bm I bI fun _ g79 σ=>eE I<|oO (new:=[(op,(kN (mW (kS i g es0 es1) k p va vb 2)).1,(gi p.at_ ((va:Nat):Int)),Lc,Du)]) 6 0 σ dK I (by unfold maxLen; omega) ae fun _ g80 c81 σ=>eE rfl<|mK 5 σ rfl fun _ σ=>lE 5 σ rfl<|lE 4 σ rfl<|Tg rfl ae<|vE rfl (fun η=>vp η rfl rfl)<|M8 (aq (Value.int .i64) (show _=((n76:Nat):Int) by omega))<|eE rfl<|mK 5 σ rfl fun _ σ=>can (j:=1) rfl ae<|gI ⟨k+1,(kN (mW (kS i g es0 es1) k p va vb 2)).2,(IX++[(op,(kN (mW (kS i g es0 es1) k p va vb 2)).1,(gi p.at_ ((va:Nat):Int)),Lc,Du)]),n76,A75,YF,(CO++[(((i+1+k:Nat):Int),(kN (mW (kS i g es0 es1) k p va vb 2)).1)]),(cS g80),c81,rfl,rfl,σ.pick [5,6,1,2,3,7,8,9,10,11,12,13,14,15] [0,1] aB,ae,hg9.1,(by rw [hg9.2.1,ai,(nM ..).1,MA]; rfl),(by rw [hg9.2.1,(nM ..).1]; have:=PB.add (kN (mW (kS i g es0 es1) k p va vb 2)).1; rw [MA] at this; exact this),aeY,ae,ae,(by rw [ai,he8]; rfl),(by rw [xY eG yi] at yx; exact yx),(by rw [W5,aH]; rw [xY eG yi] at Dv; exact Dv)⟩ aT ae
   ·obtain rfl:n0=k:=ae
    rw [Ea ae] at yx Dv
    rw [bq] at Dv
    dsimp only at yx
    have hOB:=abw dy.may dy.out (i:=i)
    refine iF I I<|lE 5 σ I<|?_
    replace σ:=(σ.fp dD 3 1)
    refine ks (fun mz l w=>∃wi:Nat,∃B9:Option Addr,∃d9:Nat,n1 - wi=mz/\l=[(191,aM wi),(2,cY eQ),(6,cY jY),(8,cY g8),(189,.slice B n1 d),(190,aM n1)]/\St w0 w [bk g8 (lN i n7 A8 n0 c8 B9 wi d9) 28,cI B9 wi d9 ((qh i g es0 es1).take wi),dQ A8 n0 c8 IX,bk jY #[.map (some jh),.slice A7 n7 c7] 227,kX A7 n7 c7 p.free,tV zR jh CO,bk gL #[aM i,aM g,.slice A0 n0 c0,.slice A1 n1 c1,.slice An n0 cn,.slice (cS ga) n0 n0,.slice (cS gb) n0 n0,.slice (cS gs) n0 n0,.slice B n1 d,.slice Au (i+1+n0) cu] 230,kX An n0 cn (List.replicate n0 true),cI (cS ga) n0 n0 ((mD i (dj i g) 0 es0).map Prod.fst),cI (cS gb) n0 n0 ((mD i (dj i g) 0 es0).map Prod.snd),cI (cS gs) n0 n0 (GC i n0),cI B n1 d (mb i g es0 es1),cI Au (i+1+n0) cu (kS i g es0 es1),bk eQ #[aG 0,aG 0,bM,bM] 28,bk de (lN i g A0 n0 c0 A1 n1 c1) 28] [fg A1 n1 c1 es1,fC A0 n0 c0 es0]/\wi<=n1) ⟨0,none,0,I,I,σ.pick [1,0,2,3,4,5,6,7,8,9,10,11,12,13,14] [0,1] aB,(av _)⟩ aT ?_
    rintro _ _ _ ⟨wi,B9,d9,rfl,rfl,σ,hw⟩
    refine il I<|wD (fun Yv=>?_) fun Yv=>?_
    ·have hlw:wi<n1:=ae
     obtain ⟨vr0,EF⟩:∃e,(mb i g es0 es1)[wi]?=some e:=⟨_,ag (by unfold mb; rw [aw]; omega)⟩
     have Ro:=hOB _ (ah EF)
     obtain ⟨vr,rfl⟩:=aU Ro.1
     have hpo:(qh i g es0 es1)[wi]?=some (gi p.at_ ((vr:Nat):Int)):=by unfold qh; rw [ay,EF,<- yx]; rfl
     refine iT I I<|vE I (fun η=>aX (i:=wi) η underlying26 (bn.size) I I ae I (aZ (σ.owns (k:=11) I)))<|cE I (fun η=>bE (i:=wi) (j:=0) (e:=((vr:Nat):Int)) η bn I I di aB (aZ (σ.owns (k:=11) I)) ae EF I)<|lj [9,11] [0,5,8,12,16,21,24,29,34,38,40,46] bI σ fun _ σ=>lS 0 I<|lS 3 I<|sE I (fun η hg=>nm (lm:=CO) (x:=((vr:Nat):Int)) false η CK underlying225 kI I I (hg.ow (j:=5) I))<|M8 (aq (Value.int .i64) (PB.1 vr ae))<|eS I<|mi (z:=1) #[aG (gi p.at_ ((vr:Nat):Int))] σ (bn.size) gY I bI fun _ g83 σ=>sk (σ.kd 1 0)<|eS I<|oO (new:=[(gi p.at_ ((vr:Nat):Int))]) 2 0 σ iv I (by unfold maxLen; omega) ae fun _ g84 c85 σ=>sz rfl<|?_
     rw [<- take_one hpo] at σ
     exact eS I<|mK 1 σ I fun _ σ=>sz I<|can (j:=1) I ae<|gI ⟨wi+1,(cS g84),c85,I,I,σ.pick [1,2,3,4,5,6,7,8,9,10,11,12,13,14,15] [0,1] aB,ae⟩ aT ae
    ·obtain rfl:n1=wi:=ae
     refine iF I I<|gE 0 σ I<|eE I<|fB 13 σ I fun _ σ=>oR (fun e=>lk results92 (RV.cell e bC I (σ.pV (k:=13) I) I) (RV.tmp e I))<|?_
     rw [ax (show (qh i g es0 es1).length<=n1 by unfold qh mb; rw [aw,aw]; omega)] at σ
     exact by rw [Dv] at σ; exact ⟨_,_,_,_,by unfold rB; rw [<- yx,Lb],σ.pick [2,1] [] aB⟩
  ·have yo:¬0<=gi (kS i g es0 es1) i:=by rw [qX hui]; exact wX
   refine iF I I<|Wt 0 (fun l w=>∃g8:Nat,∃A6:Option Addr,∃n:Nat,∃c6:Nat,∃Y4:List (Int×Int),l=[(8,cY g8),(1,cY de),(2,cY eQ),(4,cY gL),(6,cY jY)]/\St w0 w [bk g8 (lN i n none 0 0 none 0 0) 28,Qq jY jh A6 n c6 ((vP i (kS i g es0 es1)).free) Y4,bk gL #[aM i,aM g,.slice A0 n0 c0,.slice A1 n1 c1,.slice An n0 cn,.slice (cS ga) n0 n0,.slice (cS gb) n0 n0,.slice (cS gs) n0 n0,.slice B n1 d,.slice Au (i+1+n0) cu] 230,kX An n0 cn (List.replicate n0 true),cI (cS ga) n0 n0 ((mD i (dj i g) 0 es0).map Prod.fst),cI (cS gb) n0 n0 ((mD i (dj i g) 0 es0).map Prod.snd),cI (cS gs) n0 n0 (GC i n0),cI B n1 d (mb i g es0 es1),cI Au (i+1+n0) cu (kS i g es0 es1),bk eQ #[aG 0,aG 0,bM,bM] 28,bk de (lN i g A0 n0 c0 A1 n1 c1) 28] [fg A1 n1 c1 es1,fC A0 n0 c0 es0]/\FA Y4 (vP i (kS i g es0 es1)).at_/\(vP i (kS i g es0 es1)).free.length=n/\i<=n/\n<=i+1) I ?_ ?_
   ·replace σ:=σ.unpack
    refine lj [12] [0,5,8,13,16,20,24,29,32,36,40,46,50] bI σ fun _ σ=>lS 11 I<|lS 11 I<|lS 0 I<|vE I (fun η=>vq η I I)<|vE I (fun η=>eV (c:=#[aM i,aM (max i i),bM,bM]) jq η I I)<|eS I<|iR cM σ I fun _ g86 σ=>sk (σ.kd 1 0)<|eS I<|fB 0 σ I fun _ σ=>sz I<|?_
    replace σ:=(σ.pick [1,2,3,0,4,5,6,7,8,9,10,11,12] [0,1] aB).pack 3
    rw [show max i i=i by omega] at σ
    rw [show (Qr (kS i g es0 es1) i)=(vP i (kS i g es0 es1)).free from by rw [NB yo]] at σ
    exact xu ⟨g86,A5,i,c5,lm,I,σ.pick [1,0,2,3,4,5,6,7,8,9,10] [0,1] aB,(by rw [NB yo]; exact hP.gap),(by rw [xN]; exact ak yo),ae,ae⟩ aT
   rintro _ _ ⟨g8,A6,n,c6,Y4,rfl,σ,hP,Wi,nz,hni⟩
   refine lE 10 σ I<|?_
   replace σ:=(σ.pick [1,0,2,3,4,5,6,7,8,9,10] [0,1] aB).unpack
   replace σ:=(σ.fp dD 116 5)
   refine ks (fun mz l w=>∃k:Nat,∃p:Pk,∃IX:List IE,∃n7:Nat,∃A7:Option Addr,∃c7:Nat,∃CO:List (Int×Int),∃A8:Option Addr,∃c8:Nat,n0 - k=mz/\l=[(79,aM k),(2,cY eQ),(4,cY gL),(6,cY jY),(8,cY g8),(77,.slice A0 n0 c0),(78,aM n0)]/\St w0 w [bk g8 (lN i n7 A8 k c8 none 0 0) 28,dQ A8 k c8 IX,bk jY #[.map (some jh),.slice A7 n7 c7] 227,kX A7 n7 c7 p.free,tV zR jh CO,bk gL #[aM i,aM g,.slice A0 n0 c0,.slice A1 n1 c1,.slice An n0 cn,.slice (cS ga) n0 n0,.slice (cS gb) n0 n0,.slice (cS gs) n0 n0,.slice B n1 d,.slice Au (i+1+n0) cu] 230,kX An n0 cn (List.replicate n0 true),cI (cS ga) n0 n0 ((mD i (dj i g) 0 es0).map Prod.fst),cI (cS gb) n0 n0 ((mD i (dj i g) 0 es0).map Prod.snd),cI (cS gs) n0 n0 (GC i n0),cI B n1 d (mb i g es0 es1),cI Au (i+1+n0) cu (kS i g es0 es1),bk eQ #[aG 0,aG 0,bM,bM] 28,bk de (lN i g A0 n0 c0 A1 n1 c1) 28] [fg A1 n1 c1 es1,fC A0 n0 c0 es0]/\k<=n0/\Uv p/\p.at_.length=i+1+k/\FA CO p.at_/\p.free.length=n7/\i<=n7/\n7<=i+1+k/\IX.length=k/\(mE (kS i g es0 es1) k p (es0.drop k) ((mD i (dj i g) 0 es0).drop k)).1=(DW i g es0 es1).1/\IX++(mE (kS i g es0 es1) k p (es0.drop k) ((mD i (dj i g) 0 es0).drop k)).2=BP i g es0 es1) ⟨0,(vP i (kS i g es0 es1)),[],n,A6,c6,Y4,none,0,I,I,σ.pick [4,0,1,2,3,5,6,7,8,9,10,11,12,13] [0,1] aB,(av _),(abv ae),(Ux i _),hP,Wi,nz,hni,I,I,I⟩ aT ?_
   rintro _ _ _ ⟨k,p,IX,n7,A7,c7,CO,A8,c8,rfl,rfl,σ,hk,hB8,MA,PB,Lb,ao4,ao5,he8,yx,Dv⟩
   refine il I<|wD (fun h87=>?_) fun h87=>?_
   ·have fh:k<n0:=ae
    obtain ⟨⟨op,Fz,zI,yj,Du⟩,eG⟩:∃e,es0[k]?=some e:=⟨_,ag ae⟩
    have hM:=dy.may _ (ah eG)
    have zt:=hM
    unfold gl at zt
    dsimp only at zt
    obtain ⟨⟨va0,vb0⟩,yi⟩:∃q,(mD i (dj i g) 0 es0)[k]?=some q:=⟨_,ag (by rw [lh]; omega)⟩
    have Qh:=uD dy.may _ _ yi
    dsimp only at Qh
    obtain ⟨va,rfl⟩:=aU Qh.1.1
    obtain ⟨vb,rfl⟩:=aU Qh.2.1
    have Y3:((mD i (dj i g) 0 es0).map Prod.fst)[k]?=some ((va:Nat):Int):=by rw [ay,yi]; rfl
    have Uu:((mD i (dj i g) 0 es0).map Prod.snd)[k]?=some ((vb:Nat):Int):=by rw [ay,yi]; rfl
    refine iT I I<|vE I (fun η=>aX (i:=k) η underlying25 (aF.size) I I ae I σ.dw.1)<|cE I (fun η=>cX (v:=#[aG op,aG Fz,aG zI,aG yj,aG Du]) (i:=k) (e:=(op,Fz,zI,yj,Du)) η aF I I lL σ.dw.1 ae eG I)<|eE I<|iR bm σ I fun _ g88 σ=>eE I<|fB 0 σ I fun _ σ=>lE 6 σ I<|vE I (fun η=>aX (i:=k) η underlying219 (eD.size) I I ae I (aZ σ.vM))<|cE I (fun η=>bE (i:=k) (j:=0) (e:=true) η eD I I kH aB (aZ σ.vM) ae (La fh) I)<|iF I I<|gE 0 σ I<|eE I<|fk call121 (qv (op:=op) (tr:=Fz) (ra:=zI) (rb:=yj) (cn:=Du) ae) I ?_
    rintro _ _ ⟨A89,Yw,Pg,rfl,apa,ajr⟩
    refine ⟨_,I,?_⟩
    replace σ:=σ.more apa
    have apb:=ox op zI yj
    refine sG I<|lj [13] [0,4,8,13,16,20,24,29,32,36,41,45,48,54] bI σ fun _ σ=>lS 4 I<|lS 7 I<|vE I (fun η=>aX (i:=k) η underlying26 (bn.size) I I ae I (aZ (σ.owns (k:=9) I)))<|sE I (fun η hg=>bE (i:=k) (j:=0) (e:=((va:Nat):Int)) η bn I I di aB (aZ (hg.ow (j:=9) I)) ae Y3 I)<|sE I (fun η hg=>nm (lm:=CO) (x:=((va:Nat):Int)) false η CK underlying225 kI I I (hg.ow (j:=6) I))<|M8 (aq (Value.int .i64) (PB.1 va ae))<|eS I<|mK 1 σ I fun _ σ=>sz I<|Wt 0 (fun l w=>∃Lc:Int,l=[(2,cY eQ),(4,cY gL),(6,cY jY),(8,cY g8),(9,aM k),(10,cY g88),(77,.slice A0 n0 c0),(78,aM n0),(79,aM k)]/\St w0 w [bk g88 #[aG op,aG Fz,aG (gi p.at_ ((va:Nat):Int)),aG Lc,aG Du] 116,bk g8 (lN i n7 A8 k c8 none 0 0) 28,dQ A8 k c8 IX,bk jY #[.map (some jh),.slice A7 n7 c7] 227,kX A7 n7 c7 p.free,tV zR jh CO,bk gL #[aM i,aM g,.slice A0 n0 c0,.slice A1 n1 c1,.slice An n0 cn,.slice (cS ga) n0 n0,.slice (cS gb) n0 n0,.slice (cS gs) n0 n0,.slice B n1 d,.slice Au (i+1+n0) cu] 230,kX An n0 cn (List.replicate n0 true),cI (cS ga) n0 n0 ((mD i (dj i g) 0 es0).map Prod.fst),cI (cS gb) n0 n0 ((mD i (dj i g) 0 es0).map Prod.snd),cI (cS gs) n0 n0 (GC i n0),cI B n1 d (mb i g es0 es1),cI Au (i+1+n0) cu (kS i g es0 es1),bk eQ #[aG 0,aG 0,bM,bM] 28,bk de (lN i g A0 n0 c0 A1 n1 c1) 28] [fg A1 n1 c1 es1,fC A0 n0 c0 es0]/\Lc=if op=3∨op=4 then gi p.at_ ((vb:Nat):Int) else yj) I ?_ ?_
    ·refine dE I (fun h95=>?_) fun h95=>?_
     ·have Ld:(op=3∨op=4)↔1<Pg:=by rw [<- ajr]; unfold gx; split<;>(try split)<;>simp_all
      exact lj [13] [0,4,8,13,16,20,24,29,32,36,41,45,48,54] bI σ fun _ σ=>lS 4 I<|lS 7 I<|vE I (fun η=>aX (i:=k) η underlying26 (bn.size) I I ae I (aZ (σ.owns (k:=10) I)))<|sE I (fun η hg=>bE (i:=k) (j:=0) (e:=((vb:Nat):Int)) η bn I I di aB (aZ (hg.ow (j:=10) I)) ae Uu I)<|sE I (fun η hg=>nm (lm:=CO) (x:=((vb:Nat):Int)) false η CK underlying225 kI I I (hg.ow (j:=6) I))<|M8 (aq (Value.int .i64) (PB.1 vb ae))<|eS I<|mK 1 σ I fun _ σ=>sz I<|xu ⟨(gi p.at_ ((vb:Nat):Int)),I,σ.pick [1,2,3,4,5,6,7,8,9,10,11,12,13,14,15] [0,1] aB,(by rw [au (Ld.2 ae)])⟩ aT
     ·have Ld:(op=3∨op=4)↔1<Pg:=by rw [<- ajr]; unfold gx; split<;>(try split)<;>simp_all
      exact xu ⟨yj,I,σ.pick [1,2,3,4,5,6,7,8,9,10,11,12,13,14,15] [0,1] aB,(by rw [ak (fun q=>by have:=Ld.1 q; omega)])⟩ aT
    rintro _ _ ⟨Lc,rfl,σ,W5⟩
    refine lj [] [0,4,8,13,16,20,25,28,32,36,41,44,48,53,56,60] bI σ fun _ σ=>lS 6 I<|vE I (fun η=>aX (i:=k) η underlying26 (bn.size) I I ae I (aZ (σ.owns (k:=8) I)))<|sE I (fun η hg=>bE (i:=k) (j:=0) (e:=((va:Nat):Int)) η bn I I di aB (aZ (hg.ow (j:=8) I)) ae Y3 I)<|lS 6 I<|vE I (fun η=>aX (i:=k) η underlying26 (bn.size) I I ae I (aZ (σ.owns (k:=9) I)))<|sE I (fun η hg=>bE (i:=k) (j:=0) (e:=((vb:Nat):Int)) η bn I I di aB (aZ (hg.ow (j:=9) I)) ae Uu I)<|vE I (fun η=>xO η underlying231 (bn.size) pG I I)<|?_
    rw [show p.free=(mW (kS i g es0 es1) k p va vb 0).free from rfl] at σ
    refine ks (fun mz l w=>∃tj:Nat,2 - tj=mz/\l=[(138,aM tj),(2,cY eQ),(4,cY gL),(6,cY jY),(8,cY g8),(9,aM k),(10,cY g88),(77,.slice A0 n0 c0),(78,aM n0),(79,aM k),(137,.agg #[aM va,aM vb])]/\St w0 w [bk g88 #[aG op,aG Fz,aG (gi p.at_ ((va:Nat):Int)),aG Lc,aG Du] 116,bk g8 (lN i n7 A8 k c8 none 0 0) 28,dQ A8 k c8 IX,bk jY #[.map (some jh),.slice A7 n7 c7] 227,kX A7 n7 c7 ((mW (kS i g es0 es1) k p va vb tj).free),tV zR jh CO,bk gL #[aM i,aM g,.slice A0 n0 c0,.slice A1 n1 c1,.slice An n0 cn,.slice (cS ga) n0 n0,.slice (cS gb) n0 n0,.slice (cS gs) n0 n0,.slice B n1 d,.slice Au (i+1+n0) cu] 230,kX An n0 cn (List.replicate n0 true),cI (cS ga) n0 n0 ((mD i (dj i g) 0 es0).map Prod.fst),cI (cS gb) n0 n0 ((mD i (dj i g) 0 es0).map Prod.snd),cI (cS gs) n0 n0 (GC i n0),cI B n1 d (mb i g es0 es1),cI Au (i+1+n0) cu (kS i g es0 es1),bk eQ #[aG 0,aG 0,bM,bM] 28,bk de (lN i g A0 n0 c0 A1 n1 c1) 28] [fg A1 n1 c1 es1,fC A0 n0 c0 es0]/\tj<=2) ⟨0,I,I,σ,(av _)⟩ aT ?_
    rintro _ _ _ ⟨tj,rfl,rfl,σ,ht⟩
    refine il I<|wD (fun h96=>?_) fun h96=>?_
    ·have zH:tj<2:=ae
     obtain ⟨v9,PD⟩:∃v,v=arN va vb tj:=⟨_,rfl⟩
     have hvb:v9<i+1+k:=by rw [PD]; unfold arN; split<;>omega
     have ao8:=σ
     obtain ⟨uw,huw⟩:∃e,(kS i g es0 es1)[v9]?=some e:=⟨_,ag (by rw [Gr]; omega)⟩
     refine iT I I<|vE I (fun η=>se (m:=((va:Nat):Int)) (n:=((vb:Nat):Int)) (j:=tj) η underlying231 bn I I ae)<|M8 (aq (Value.int .i64) ((Uz va vb tj).trans (aq (fun x:Nat=>((x:Nat):Int)) PD.symm)))<|lE 6 σ I<|vE I (fun η=>aX (i:=v9) η underlying26 (bn.size) I I ae I (aZ (σ.owns (k:=12) I)))<|cE I (fun η=>bE (i:=v9) (j:=0) (e:=uw) η bn I I di aB (aZ (σ.owns (k:=12) I)) ae huw I)<|gj I<|wQ (fun h97=>?_) fun h97=>?_
     ·obtain ⟨x9,Qt,hx8⟩:=ajp hB8 (v:=v9) ae
      refine iT I I<|lj [11] [0,4,8,13,16,20,24,29,32,37,40,46] bI σ fun _ σ=>lS 3 I<|lS 3 I<|sE I (fun η hg=>nm (lm:=CO) (x:=((v9:Nat):Int)) false η CK underlying225 kI I I (hg.ow (j:=5) I))<|M8 (aq (Value.int .i64) (PB.1 v9 ae))<|M8 (aq (Value.int .i64) Qt)<|vE I (fun η=>aX (i:=x9) η underlying219 (eD.size) I I ae I (aZ σ.Dh))<|eS I<|uH 4 x9 (e1:=true) kH σ I I ae ((nM ..).2.trans Lb) fun _ σ=>sz I<|can (j:=1) I ae<|?_
      rw [show (((mW (kS i g es0 es1) k p va vb tj).free).set x9 true)=(mW (kS i g es0 es1) k p va vb (tj+1)).free from by rw [vB zH,<- PD]; unfold jL; rw [au (by rw [qX huw]; exact h97),(nM ..).1,Qt]; rfl] at σ
      exact gI ⟨tj+1,I,I,σ,ae⟩ aT ae
     ·refine iF I I<|can (j:=1) I ae<|?_
      rw [show (mW (kS i g es0 es1) k p va vb tj).free=(mW (kS i g es0 es1) k p va vb (tj+1)).free from by rw [vB zH,<- PD]; unfold jL; rw [ak (by rw [qX huw]; exact h97)]] at σ
      exact gI ⟨tj+1,I,I,σ,ae⟩ aT ae
    ·obtain rfl:tj=2:=ae
     refine iF I I<|?_
     replace σ:=(σ.pick [3,4,5,0,1,2,6,7,8,9,10,11,12,13,14] [0,1] aB).pack 3
     refine lE 4 σ I<|vE I (fun η=>aX (i:=k) η underlying26 (bn.size) I I ae I (aZ (σ.owns (k:=8) I)))<|cE I (fun η=>bE (i:=k) (j:=0) (e:=((i+1+k:Nat):Int)) η bn I I di aB (aZ (σ.owns (k:=8) I)) ae (FC fh) I)<|eE I<|fk call143 (Nw (p:=(mW (kS i g es0 es1) k p va vb 2)) (σ.cF (k:=0) I []) ((nM ..).2.trans Lb) ae (PB.2 _ ae)) I ?_
     rintro _ _ ⟨A98,n99,apd,rfl,Nf,aeY⟩
     refine ⟨_,I,?_⟩
     replace σ:=σ.kL (k:=0) I Nf
     have hg9:=Uw (UA (a:=va) (b:=vb) (j:=2) (u:=(kS i g es0 es1)) (k:=k) hB8)
     have hg8:=NC (mW (kS i g es0 es1) k p va vb 2)
     have hg7:=(nM (kS i g es0 es1) k p va vb 2).2
     replace σ:=σ.unpack
     exact eE I<|mK 3 σ I fun _ σ=>lE 4 σ I<|gE 3 σ I<|eE I<|mi (z:=5) #[aG op,aG ((kN (mW (kS i g es0 es1) k p va vb 2)).1),aG (gi p.at_ ((va:Nat):Int)),aG Lc,aG Du] σ (aF.size) bm I bI fun _ aw4 σ=>eE I<|oO (new:=[(op,(kN (mW (kS i g es0 es1) k p va vb 2)).1,(gi p.at_ ((va:Nat):Int)),Lc,Du)]) 6 0 σ dK I (by unfold maxLen; omega) ae fun _ Y5 ape σ=>eE rfl<|mK 5 σ rfl fun _ σ=>lE 5 σ rfl<|lE 4 σ rfl<|Tg rfl ae<|vE rfl (fun η=>vp η rfl rfl)<|M8 (aq (Value.int .i64) (show _=((n99:Nat):Int) by omega))<|eE rfl<|mK 5 σ rfl fun _ σ=>can (j:=1) rfl ae<|gI ⟨k+1,(kN (mW (kS i g es0 es1) k p va vb 2)).2,(IX++[(op,(kN (mW (kS i g es0 es1) k p va vb 2)).1,(gi p.at_ ((va:Nat):Int)),Lc,Du)]),n99,A98,apd,(CO++[(((i+1+k:Nat):Int),(kN (mW (kS i g es0 es1) k p va vb 2)).1)]),(cS Y5),ape,rfl,rfl,σ.pick [5,6,1,2,3,7,8,9,10,11,12,13,14,15] [0,1] aB,ae,hg9.1,(by rw [hg9.2.1,ai,(nM ..).1,MA]; rfl),(by rw [hg9.2.1,(nM ..).1]; have:=PB.add (kN (mW (kS i g es0 es1) k p va vb 2)).1; rw [MA] at this; exact this),aeY,ae,ae,(by rw [ai,he8]; rfl),(by rw [xY eG yi] at yx; exact yx),(by rw [W5,aH]; rw [xY eG yi] at Dv; exact Dv)⟩ aT ae
   ·obtain rfl:n0=k:=ae
    rw [Ea ae] at yx Dv
    rw [bq] at Dv
    dsimp only at yx
    have hOB:=abw dy.may dy.out (i:=i)
    refine iF I I<|lE 5 σ I<|?_
    replace σ:=(σ.fp dD 3 1)
    refine ks (fun mz l w=>∃wi:Nat,∃B9:Option Addr,∃d9:Nat,n1 - wi=mz/\l=[(191,aM wi),(2,cY eQ),(6,cY jY),(8,cY g8),(189,.slice B n1 d),(190,aM n1)]/\St w0 w [bk g8 (lN i n7 A8 n0 c8 B9 wi d9) 28,cI B9 wi d9 ((qh i g es0 es1).take wi),dQ A8 n0 c8 IX,bk jY #[.map (some jh),.slice A7 n7 c7] 227,kX A7 n7 c7 p.free,tV zR jh CO,bk gL #[aM i,aM g,.slice A0 n0 c0,.slice A1 n1 c1,.slice An n0 cn,.slice (cS ga) n0 n0,.slice (cS gb) n0 n0,.slice (cS gs) n0 n0,.slice B n1 d,.slice Au (i+1+n0) cu] 230,kX An n0 cn (List.replicate n0 true),cI (cS ga) n0 n0 ((mD i (dj i g) 0 es0).map Prod.fst),cI (cS gb) n0 n0 ((mD i (dj i g) 0 es0).map Prod.snd),cI (cS gs) n0 n0 (GC i n0),cI B n1 d (mb i g es0 es1),cI Au (i+1+n0) cu (kS i g es0 es1),bk eQ #[aG 0,aG 0,bM,bM] 28,bk de (lN i g A0 n0 c0 A1 n1 c1) 28] [fg A1 n1 c1 es1,fC A0 n0 c0 es0]/\wi<=n1) ⟨0,none,0,I,I,σ.pick [1,0,2,3,4,5,6,7,8,9,10,11,12,13,14] [0,1] aB,(av _)⟩ aT ?_
    rintro _ _ _ ⟨wi,B9,d9,rfl,rfl,σ,hw⟩
    refine il I<|wD (fun apf=>?_) fun apf=>?_
    ·have hlw:wi<n1:=ae
     obtain ⟨vr0,EF⟩:∃e,(mb i g es0 es1)[wi]?=some e:=⟨_,ag (by unfold mb; rw [aw]; omega)⟩
     have Ro:=hOB _ (ah EF)
     obtain ⟨vr,rfl⟩:=aU Ro.1
     have hpo:(qh i g es0 es1)[wi]?=some (gi p.at_ ((vr:Nat):Int)):=by unfold qh; rw [ay,EF,<- yx]; rfl
     refine iT I I<|vE I (fun η=>aX (i:=wi) η underlying26 (bn.size) I I ae I (aZ (σ.owns (k:=11) I)))<|cE I (fun η=>bE (i:=wi) (j:=0) (e:=((vr:Nat):Int)) η bn I I di aB (aZ (σ.owns (k:=11) I)) ae EF I)<|lj [9,11] [0,5,8,12,16,21,24,29,34,38,40,46] bI σ fun _ σ=>lS 0 I<|lS 3 I<|sE I (fun η hg=>nm (lm:=CO) (x:=((vr:Nat):Int)) false η CK underlying225 kI I I (hg.ow (j:=5) I))<|M8 (aq (Value.int .i64) (PB.1 vr ae))<|eS I<|mi (z:=1) #[aG (gi p.at_ ((vr:Nat):Int))] σ (bn.size) gY I bI fun _ aw5 σ=>sk (σ.kd 1 0)<|eS I<|oO (new:=[(gi p.at_ ((vr:Nat):Int))]) 2 0 σ iv I (by unfold maxLen; omega) ae fun _ apg Ys σ=>sz rfl<|?_
     rw [<- take_one hpo] at σ
     exact eS I<|mK 1 σ I fun _ σ=>sz I<|can (j:=1) I ae<|gI ⟨wi+1,(cS apg),Ys,I,I,σ.pick [1,2,3,4,5,6,7,8,9,10,11,12,13,14,15] [0,1] aB,ae⟩ aT ae
    ·obtain rfl:n1=wi:=ae
     refine iF I I<|gE 0 σ I<|eE I<|fB 13 σ I fun _ σ=>oR (fun e=>lk results92 (RV.cell e bC I (σ.pV (k:=13) I) I) (RV.tmp e I))<|?_
     rw [ax (show (qh i g es0 es1).length<=n1 by unfold qh mb; rw [aw,aw]; omega)] at σ
     exact by rw [Dv] at σ; exact ⟨_,_,_,_,by unfold rB; rw [<- yx,Lb],σ.pick [2,1] [] aB⟩
end Go.Proofs.YtgopcdagnicekaaGreatDoor.W
