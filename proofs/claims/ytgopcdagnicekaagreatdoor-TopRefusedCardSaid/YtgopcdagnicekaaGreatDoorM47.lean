/- row.Over, Content, Primitive; the reference's Over, Content, Zero, Primitive. Printed by pv/gen_row9.py. No condition. -/
import Derived.Test.YtgopcdagnicekaaGreatDoorM46
import Derived.Test.YtgopcdagnicekaaGreatDoorM45
set_option linter.all false
open Go.Proofs.Tryz
set_option maxRecDepth 100000
set_option maxHeartbeats 2000000
namespace Go.Proofs.YtgopcdagnicekaaGreatDoor.W
open Go.RowKit Anv Go.Lib
variable {es es0 es1:List NE} {xs ys:List Int} {j c B d n n0 c0 k c1 E q:Nat} {A A0 A1:Option Addr} {z m x y:Int} {w0 w:World} {vs:List LE} {v:LE} {ps:List PF} {p:Pt}
theorem abA (hz:es.map zz=xs) (he:es[j]?=some (A,c,z)):xs[j]?=some z:=by rw [<- hz,ay,he]; rfl
theorem ae7 (hz:es.map zz=xs) (he:es[j]?=some (A,c,z)):z∈xs:=ah (abA hz he)
theorem UK {os:List NE} {B:Option Addr} (hz:es.map zz=xs) (ho:os.map zz=(xs.map (· / m)).take j) (he:es[j]?=some (A,c,z)):(os++[(B,d,z / m)]).map zz=(xs.map (· / m)).take (j+1):=by
 rw [cD,ho,take_one (by rw [ay,abA hz he]; rfl)]
 rfl
def ovr (x y:Int):Int:=if x%y=0 then x / y else 0
theorem yn (hz:es.map zz=xs) (hd:EN m (xs.take j)) (he:es[j]?=some (A,c,z)) (h:z%m=0):EN m (xs.take (j+1)):=by
 rw [Lh hz he]
 intro x hx
 rcases aK.1 hx with hx | hx
 ·exact hd x hx
 ·rw [aL.1 hx]; exact h
theorem Zd (hz:es.map zz=xs) (he:es[j]?=some (A,c,z)) (h:z%m≠0):¬EN m xs:=fun hd=>h (hd z (ae7 hz he))
theorem Dw {f:Int->Int} (h:n=xs.length):(xs.map f).take n=xs.map f:=ax (by rw [aw]; omega)
theorem Ze (h:(z.sign !=0)=true):z≠0:=fun e=>by rw [e] at h; cases h
theorem UL (h:(z.sign !=0)=false):z=0:=ji.1 (by simpa using h)
theorem UM (h:z≠0):(z.sign==0)=false:=du.2 fun e=>h (ji.1 e)
theorem UN {M:Option Addr} (h0:(bH fN FN 2 A0 n0 c0 es0).P w0) (mZ:es0.map zz=xs) (hM:iY w0 M d m) (hm:zl m<=100000) (Bt:m≠0) (hk:Zk 100000 xs) (hn:n0<=100000000):
  Calls prog 200 #[.slice A0 n0 c0,.agg #[.bool (neg m),.slice M (zl m) d]] w0 fun e w'=>((EN m xs/\∃v,e=.returned (.tuple #[v,.int .i64 0])/\tP w0.heap.size w' v n0 (xs.map (· / m)))∨(¬EN m xs/\e=.returned (.tuple #[bM,.int .i64 20])))/\Below w0.heap.size w0 w':=by
 have hzb:=hk.es mZ
 refine enter func200 I ntmps200 I ?_
 intro a η σ
 replace σ:=σ.j8 hM trivial
 have cQ:=h0.2.1
 have eN:=aD h0.1.cap h0.1.big
 unfold maxLen at eN
 replace σ:=σ.aY h0
 clear h0
 refine wp_seq (aI ?_)
 refine aS I (ns (c:=#[.bool (neg m),.slice M (zl m) d]) η σ I I I ?_)
 clear η σ a; intro a Wo de η σ
 revert a
 refine aA I I ?_
 refine aA I I ?_
 intro a η
 refine wpList_nil (b5 (wp_seq (wp_seq (aI ?_))))
 refine sv (v:=.agg #[.bool (neg m),.slice M (zl m) d]) η I (jz η az I σ.gq I) ?_
 clear η a; intro a η
 refine aS I (gG η I call60 I (wv (z:=m)) ?_)
 rintro e w53 ⟨rfl,hb⟩
 refine ⟨_,I,?_⟩
 clear η a; intro a η
 replace σ:=σ.call hb
 clear hb
 refine sv (v:=.bool (m.sign==(0:Int))) η I (cV η I I I) ?_
 clear η a; intro a η
 rw [show (m.sign==(0:Int))=false from (UM Bt)] at η
 refine wpList_nil (b5 ?_)
 refine rV η I (I) ?_
 refine wp_skip (b5 (wp_seq (aI ?_)))
 refine sv (v:=bM) η I (cf η I) ?_
 clear η a; intro a η
 refine wpList_nil (b5 (wp_seq (wp_seq (aI ?_))))
 revert a
 refine mA I I ?_
 refine sA (v:=.int .i64 (n0:Nat)) I (fun _ η=>ky η underlying43 I) ?_
 refine mA I I ?_
 intro a η
 refine wpList_nil (b5 (wp_block ?_))
 replace σ:=(σ.fp dD 52 2).rA FN
 refine wp_loop_ghost (fun mz a w=>∃(j:Nat) (B:Option Addr) (e:Nat) (os:List NE),n0 - j=mz/\Env 37 a [(3,cY de),(6,.slice B j e),(15,.slice A0 n0 c0),(16,.int .i64 (n0:Nat)),(17,.int .i64 (j:Nat))]/\St w0 w [fc dD 52 2 B j e (fl fN os),bk de #[.bool (neg m),.slice M (zl m) d] 52] [dW FN os,bH fN FN 2 A0 n0 c0 es0,DJ M d m]/\j<=n0/\os.map zz=(xs.map (· / m)).take j/\EN m (xs.take j)) _ ⟨0,none,0,[],I,η.sub aT,σ.pick [0,1] [0,1,2] aB,(av _),I,(fun _ h=>by cases h)⟩ ?_
 clear η σ a
 rintro mz a w54 ⟨j,B,e,os,rfl,η,σ,hj,ho,hd⟩
 refine wp_seq (aI ?_)
 refine sv (v:=.bool (decide (((j:Nat):Int)<((n0:Nat):Int)))) η I (cV η I I I) ?_
 clear η a; intro a η
 refine wpList_nil (b5 (wp_seq ?_))
 refine jA η I (fun ae8=>?_) (fun ae8=>?_)
 ·have fh:j<n0:=by have:=aN ae8; omega
  obtain ⟨⟨A,c,z⟩,eG⟩:∃e,es0[j]?=some e:=⟨_,ag ae⟩
  replace σ:=σ.elem (k:=1) I eG
  have RE:=hzb.at eG
  refine wp_skip (b5 (wp_seq (wp_block (wp_seq (aI ?_)))))
  revert a
  refine sA (v:=.pointer (some ⟨ab A0,ao A0+j*2,none⟩)) I (fun _ η=>m7 (i:=j) η underlying43 (az.size) I I ae I σ.fX.1) ?_
  refine sA (v:=.agg #[.bool (neg z),.slice A (zl z) c]) I (fun _ η=>cX (i:=j) (e:=(A,c,z)) η az I I jV σ.fX.1 ae eG I) ?_
  intro a η
  refine aS I (kQ (c:=#[.bool (neg 0),.slice none (zl 0) 0]) η σ I bA pW ?_)
  clear η σ a; intro a w57 zo η σ
  refine aS I (kZ (k:=0) (c':=#[.bool (neg z),.slice A (zl z) c]) η σ (az.size) I I I I fW I I ?_)
  clear η σ a; intro a w58 η σ
  refine wpList_nil (b5 (wp_seq (aI ?_)))
  revert a
  refine sA (v:=.agg #[.bool (neg z),.slice A (zl z) c]) I (fun _ η=>jz η az I σ.gq I) ?_
  refine sA (v:=.agg #[.bool (neg m),.slice M (zl m) d]) I (fun _ η=>jz η az I σ.EC I) ?_
  intro a η
  have axs:=Mg z m
  refine aS I (gG η I call61 I (R4 (x:=z) (y:=m) (show iY _ A c z from σ.bW) (show iY _ M d m from σ.kC) ae ae Bt) ?_)
  rintro e w66 ⟨_,_,rfl,⟨Cz,xv,rfl,ajL⟩,⟨Y9,c64,rfl,ajN⟩,hb⟩
  refine ⟨_,I,?_⟩
  clear η a; intro a η
  replace σ:=((σ.call hb).j8 ajL ⟨bV I,bX,bV I,trivial⟩).j8 ajN ⟨bV I,bX,bV I,trivial⟩
  clear ajL ajN
  clear hb
  revert a
  refine mA I I ?_
  refine sA (v:=.agg #[.bool (neg (z / m)),.slice Cz (zl (z / m)) xv]) I (fun _ η=>je η I I) ?_
  refine sA (v:=.agg #[.bool (neg (z%m)),.slice Y9 (zl (z%m)) c64]) I (fun _ η=>je η I I) ?_
  refine sA (v:=.int .i64 0) I (fun _ η=>je η I I) ?_
  intro a η
  refine aS I (kQ (c:=#[.bool (neg 0),.slice none (zl 0) 0]) η σ I bA pW ?_)
  clear η σ a; intro a w68 g67 η σ
  refine aS I (kQ (c:=#[.bool (neg 0),.slice none (zl 0) 0]) η σ I bA pW ?_)
  clear η σ a; intro a w70 g69 η σ
  refine aS I (kZ (k:=1) (c':=#[.bool (neg (z / m)),.slice Cz (zl (z / m)) xv]) η σ (az.size) I I I I fW I I ?_)
  clear η σ a; intro a w71 η σ
  refine aS I (kZ (k:=0) (c':=#[.bool (neg (z%m)),.slice Y9 (zl (z%m)) c64]) η σ (az.size) I I I I fW I I ?_)
  clear η σ a; intro a w72 η σ
  refine sv (v:=.int .i64 0) η I (cf η I) ?_
  clear η a; intro a η
  refine wpList_nil (b5 (wp_seq (wp_seq (aI ?_))))
  refine sv (v:=.agg #[.bool (neg (z%m)),.slice Y9 (zl (z%m)) c64]) η I (jz η az I σ.gq I) ?_
  clear η a; intro a η
  refine aS I (gG η I call60 I (wv (z:=z%m)) ?_)
  rintro e w73 ⟨rfl,hb⟩
  refine ⟨_,I,?_⟩
  clear η a; intro a η
  replace σ:=σ.call hb
  clear hb
  refine sv (v:=.bool ((z%m).sign !=(0:Int))) η I (cV η I I I) ?_
  clear η a; intro a η
  refine wpList_nil (b5 ?_)
  refine jA η I (fun ae9=>?_) (fun ae9=>?_)
  ·have u5:z%m≠0:=Ze ae9
   refine wp_seq (aI ?_)
   revert a
   refine aA I I ?_
   refine aA I I ?_
   intro a η
   refine wpList_nil (b5 (wp_ret (nN (qM (nN (nN (qM (nN ?_))))))))
   refine leave η (lk results200 (RV.tmp η I) (RV.tmp η I)) ?_
   exact ⟨.inr ⟨Zd mZ eG u5,I⟩,σ.below⟩
  ·have hze:z%m=0:=UL ae9
   refine wp_skip (b5 (aI ?_))
   revert a
   refine mA I I ?_
   refine sA (v:=.agg #[.bool (neg (z / m)),.slice Cz (zl (z / m)) xv]) I (fun _ η=>jz η az I σ.vN I) ?_
   intro a η
   refine aS I (nC (z:=2) (pv:=#[(0,.agg #[.bool (neg (z / m)),.slice Cz (zl (z / m)) xv])]) (c:=#[.bool (neg (z / m)),.slice Cz (zl (z / m)) xv]) η σ I underlying43 (az.size) bA aB aB I bI ?_)
   clear η σ a; intro a w76 g75 η σ
   refine aS I (sX (k:=4) (j:=0) η σ I underlying43 dP I I I I I I I I I I I (by unfold maxLen; omega) ae ?_)
   clear η σ a; intro a w79 g77 TH η σ
   rw [show fl fN os++(#[.bool (neg (z / m)),.slice Cz (zl (z / m)) xv]:Array Value).toList=fl fN (os++[(Cz,xv,(z / m))]) from EJ (f:=fN) os (Cz,xv,(z / m))] at σ
   replace σ:=σ.pX (e:=(Cz,xv,(z / m))) (i:=3) (j:=1) I I
   refine sv (v:=.slice (cS g77) (j+1) TH) η I (cf η I) ?_
   clear η a; intro a η
   refine wpList_nil (tK (b5 (aI ?_)))
   revert a
   refine sA (v:=.int .i64 (j+1:Nat)) I (fun _ η=>lY η I I (by rw [IntWalk.i64_in _ ae]; omega)) ?_
   refine mA I I ?_
   intro a η
   refine wpList_nil ?_
   exact b5 ⟨_,ae,⟨j+1,(cS g77),TH,(os++[(Cz,xv,(z / m))]),I,η.sub aT,σ.pick [4,5] [0,5,6] aB,ae,(UK mZ ho eG),(yn mZ hd eG hze)⟩⟩
 ·have hjn:j=n0:=by have:=bP ae8; omega
  refine wp_exit (oM (oM (wz (b5 (wp_seq (aI ?_))))))
  revert a
  refine mA I I ?_
  refine aA I I ?_
  refine aA I I ?_
  intro a η
  refine wpList_nil (b5 (wp_ret ?_))
  refine leave η (lk results200 (RV.tmp η I) (RV.tmp η I)) ?_
  have Wi:n0=xs.length:=by rw [<- mZ,aw]; exact cQ.symm
  rw [hjn,Wi,List.take_length] at hd
  rw [hjn,Dw Wi] at ho
  exact ⟨.inl ⟨hd,_,I,⟨_,_,os,aq (fun k=>Value.slice _ k _) hjn,(hjn ▸ σ.newRow (k:=0) (j:=0) I I),EL ho (by rw [aw]; exact Wi.symm),ho⟩⟩,σ.below⟩
theorem Zk.zb (h:Zk k (es.map zz)):ZB k es:=h.es rfl
theorem UR (h0:(bH fN FN 2 A0 n0 c0 es0).P w0) (mZ:es0.map zz=xs) (h1:(bH fN FN 2 A1 n0 c1 es1).P w0) (po:es1.map zz=ys) (JY:Zk 500000 xs) (zL:Zk 500000 ys) (hn:n0<=100000000):
  Calls prog 195 #[.slice A0 n0 c0,.slice A1 n0 c1] w0 fun e w'=>∃v,e=.returned (.tuple #[v,.int .i64 0])/\tP w0.heap.size w' v n0 (List.zipWith (·+·) xs ys)/\Below w0.heap.size w0 w':=by
 subst mZ po
 exact Xu h0 h1 JY.zb zL.zb hn
theorem US (h0:(bH fN FN 2 A0 n0 c0 es0).P w0) (mZ:es0.map zz=xs) (h1:(bH fN FN 2 A1 n0 c1 es1).P w0) (po:es1.map zz=ys) (JY:Zk 500000 xs) (zL:Zk 500000 ys) (hn:n0<=100000000):
  Calls prog 197 #[.slice A0 n0 c0,.slice A1 n0 c1] w0 fun e w'=>∃v,e=.returned (.tuple #[v,.int .i64 0])/\tP w0.heap.size w' v n0 (List.zipWith (· - ·) xs ys)/\Below w0.heap.size w0 w':=by
 subst mZ po
 exact Xv h0 h1 JY.zb zL.zb hn
section
variable {P:Program} {X:Cx P} {w w0:World} {own ps:List PF} {d:Nat} {l:List (Nat×Value)} {C:World->List (Nat×Value)->Prop}
theorem mkN {α:Type} {x y:Operand} {T z bytes:Nat} {zv:Value} (f:α->List Value) (e0:α) (q:Value->Bool) {kl kc:IntKind} (hs:St w0 w own ps) (hi:(P.info? E).map (fun i=>(i.zero,i.size,i.bytes))=some (some zv,z,bytes))
 (e:(Nat.blt d X.N,X.T.ty T,eB l x,eB l y,zv.cells.size,Nat.blt 0 z,zv.cells.toList.all q)=(true,.sl E,some (.int kl (n:Nat)),some (.int kc (n:Nat)),z,true,true)) (hf:f e0=zv.cells.toList) (hb:bytes*n<=140737488355328) (hn:n<=maxLen)
 (h:∀w' g,St w0 w' (fc q E z (cS g) n n (fl f (List.replicate n e0))::own) ps->C w' ((d,.slice (cS g) n n)::l)):WE X w l (.makeSlice T x y) (some d) C:=
 Cn f e0 q hs hi (by simp only [cP] at e ⊢; exact ⟨e.1,e.2.1,e.2.2.1,e.2.2.2.1,e.2.2.2.2.1,e.2.2.2.2.2.1,hf,e.2.2.2.2.2.2⟩) hb hn h
end
def U1 (x:Int) (j n:Nat):List Int:=(List.range n).map fun t=>if t<j then x ^ t else 0
def NR (x y:Int) (m n:Nat):List Int:=(List.range n).map fun t=>if m<=t then x ^ t*y ^ (n - 1 - t) else x ^ t
theorem apI (x:Int) (n:Nat):(List.replicate n ((none,0,0):NE)).map zz=U1 x 0 n:=by
 unfold U1
 rw [en]
 apply jM fW
 intro i h1 h2
 simp [zz]
theorem Zo {u:Int} (h:es.map zz=U1 x j n) (hu:u=x ^ j):(es.set j (A,c,u)).map zz=U1 x (j+1) n:=by
 have hl:es.length=n:=by have:=aq List.length h; simpa [U1] using this
 rw [fz,h]
 unfold U1
 apply jM fW
 intro i h1 h2
 rw [List.getElem_set]
 simp only [List.getElem_map,List.getElem_range]
 split
 ·rename_i q; subst q; rw [au ae]; exact hu
 ·split
  ·rw [au ae]
  ·rw [ak ae]
theorem ajR (x y:Int) (n:Nat):U1 x n n=NR x y n n:=by
 unfold U1 NR
 refine cZ fun t ht=>?_
 have:=eR.1 ht
 rw [au this,ak ae]
theorem abG (h:es.map zz=NR x y (q+1) n) (he:es[q]?=some (A,c,z)):z=x ^ q/\q<n:=by
 have h1:(es.map zz)[q]?=some z:=by rw [ay,he]; rfl
 rw [h] at h1
 unfold NR at h1
 rw [ay] at h1
 rcases aV q n with hq | hq
 ·rw [bN hq] at h1
  have:=aW h1
  dsimp only at this
  rw [ak ae] at this
  exact ⟨this.symm,hq⟩
 ·rw [bg (by simpa using hq)] at h1; cases h1
theorem Zp {d:Int} {B:Option Addr} {e:Nat} (h:es.map zz=NR x y (q+1) n) (he:es[q]?=some (A,c,z)) (hd:d=y ^ (n - (q+1))):(es.set q (B,e,z*d)).map zz=NR x y q n:=by
 obtain ⟨hz,hq⟩:=abG h he
 rw [fz,h]
 unfold NR
 apply jM fW
 intro i h1 h2
 rw [List.getElem_set]
 simp only [List.getElem_map,List.getElem_range]
 split
 ·rename_i p; subst p
  rw [au (ar _),show n - 1 - q=n - (q+1) by omega,<- hd,<- hz]
 ·split
  ·rw [au ae]
  ·rw [ak ae]
theorem afe (x y:Int) (n:Nat):NR x y 0 n=rf n (p8 n (x,y)):=by
 unfold NR rf p8
 refine cZ fun t ht=>?_
 rw [au (av _)]
theorem aff (h:-16<=x/\x<=16) (j:Nat):(x ^ j).natAbs<=16 ^ j:=by
 rw [kx]
 exact Nat.pow_le_pow_left ae j
theorem U2 (h:-16<=x/\x<=16) (hj:j<=17):zl (x ^ j)<=3:=by
 have h1:=aff h j
 have h2:16 ^ j<=16 ^ 17:=bS aB hj
 exact gC (fa (aD h1 h2) aB)
theorem Ed {pa pb:Int} (nz:yl pa/\yl pb) (hn:n<=16):
  Calls prog 114 #[.agg #[aG pa,aG pb],aM n] w0 fun e w'=>∃A c es,e=.returned (.tuple #[.slice A n c,aG 0])/\sW dD 52 2 fN FN w0.heap.size w' A n c es/\es.length=n/\es.map zz=rf n (p8 n (pa,pb))/\Below w0.heap.size w0 w':=by
 have apJ:=nz.1
 have apK:=nz.2
 unfold yl at apJ apK
 refine gQ func114 I ntmps114 I fun σ=>eE I<|ll σ I fun _ de σ=>gE 0 σ I<|eE I<|gV call69 (wb (pa:=pa) (pb:=pb)) σ I fun _ σ=>kB (b':=true) (a8 nz)<|il I<|kB (b':=false) (aC ae)<|sG I<|kB (b':=false) (aC ae)<|iF I I<|eE I<|mkN fN ((none,0,0):NE) dD σ dP I qo ae (by unfold maxLen; omega) fun _ eQ σ=>?_
 replace σ:=σ.vX (ov n _) ⟨bX,bV I,trivial⟩
 refine eE I<|fk call18 (Bi (n:=(1:Int)) ae ae) I ?_
 rintro _ _ ⟨_,rfl,⟨si,rk,rfl,UJ⟩,hb⟩
 refine ⟨_,I,?_⟩
 replace σ:=(σ.call hb).j8 UJ ⟨bX,bV I,trivial⟩
 refine eE I<|fk call18 (Bi (n:=(1:Int)) ae ae) I ?_
 rintro _ _ ⟨_,rfl,⟨KR,ID,rfl,zS⟩,hb⟩
 refine ⟨_,I,?_⟩
 replace σ:=(σ.call hb).j8 zS ⟨bX,bV I,trivial⟩
 refine eE I<|iR bA σ I fun _ tU σ=>eE I<|iR bA σ I fun _ C9 σ=>eE I<|fB 1 σ I fun _ σ=>eE I<|fB 0 σ I fun _ σ=>ks (fun mz l w=>∃j:Nat,∃es:List NE,∃u:Int,∃Au:Option Addr,∃cu:Nat,n - j=mz/\l=[(28,aM j),(1,aM n),(2,cY de),(6,.slice (cS eQ) n n),(7,cY tU),(8,cY C9),(27,aM n)]/\St w0 w [bk tU #[.bool (neg u),.slice Au (zl u) cu] 52,Dq (cS eQ) n n es,bk C9 #[.bool (neg 1),.slice KR (zl 1) ID] 52,bk de #[aG pa,aG pb] 61] [dW FN es,DJ Au cu u,DJ KR ID 1]/\j<=n/\u=pa ^ j/\es.map zz=U1 pa j n) ⟨0,(List.replicate n ((none,0,0):NE)),1,si,rk,I,I,σ.pick [1,2,0,3] [2,1,0] aB,(av _),(Int.pow_zero pa).symm,(apI pa n)⟩ aT ?_
 rintro _ _ _ ⟨j,es,u,Au,cu,rfl,rfl,σ,hj,hu,mf⟩
 refine il I<|wD (fun yL=>?_) fun yL=>?_
 ·have fh:j<n:=ae
  have hzu:zl u<=3:=by rw [hu]; exact U2 nz.1 ae
  refine iT I I<|gE 0 σ I<|vE I (fun η=>aX (i:=j) η underlying43 (az.size) I I ae I (aZ σ.l8))<|eE I<|srE 1 j (e1:=(Au,cu,u)) jV σ I I aB ae (by have:=aq List.length mf; simpa [U1,NR] using this) fun _ σ=>?_
  replace σ:=σ.tE (e:=(Au,cu,u)) (i:=0) (j:=1) I I j
  refine gE 0 σ I<|lE 3 σ I<|eE I<|fk call162 (Ex (x:=u) (n:=pa) (show iY _ Au cu u from σ.fX) ae ae ae) I ?_
  rintro _ _ ⟨_,rfl,⟨A62,c63,rfl,Zq⟩,hb⟩
  refine ⟨_,I,?_⟩
  replace σ:=(σ.call hb).j8 Zq ⟨bV I,bX,bV I,bV I,trivial⟩
  exact eE I<|fB 0 σ I fun _ σ=>can (j:=1) I ae<|gI ⟨j+1,(es.set j (Au,cu,u)),(u*pa),A62,c63,I,I,σ.pick [0,1,2,3] [1,0,4] aB,ae,(by rw [hu,gh]),(Zo mf hu)⟩ aT ae
 ·obtain rfl:n=j:=ae
  refine iF I I<|xq I ae<|ks (fun mz l w=>∃m:Nat,∃z:Int,∃es:List NE,∃d:Int,∃Ad:Option Addr,∃cd:Nat,m=mz/\l=[(10,aG z),(2,cY de),(6,.slice (cS eQ) n n),(8,cY C9)]/\St w0 w [bk C9 #[.bool (neg d),.slice Ad (zl d) cd] 52,Dq (cS eQ) n n es,bk de #[aG pa,aG pb] 61] [dW FN es,DJ Ad cd d]/\m<=n/\z=((m:Nat):Int) - 1/\d=pb ^ (n - m)/\es.map zz=NR pa pb m n) ⟨n,((n:Nat):Int) - 1,es,1,KR,ID,I,I,σ.pick [2,1,3] [0,2] aB,(ar _),I,(by rw [eH,Int.pow_zero]),(mf.trans (ajR pa pb n))⟩ aT ?_
  rintro _ _ _ ⟨m,z,es,d,Ad,cd,rfl,rfl,σ,hm,hz,hd,mf⟩
  refine xo I<|wD (fun IA=>?_) fun IA=>?_
  ·obtain ⟨q,rfl⟩:∃q,m=q+1:=⟨m-1,by omega⟩
   obtain rfl:z=((q:Nat):Int):=ae
   have Zr:es.length=n:=by have:=aq List.length mf; simpa [NR] using this
   obtain ⟨⟨Aq,cq,zq⟩,eG⟩:∃e,es[q]?=some e:=⟨_,ag ae⟩
   replace σ:=σ.tD (k:=0) I eG
   have RD:zl zq<=3:=by rw [(abG mf eG).1]; exact U2 nz.1 ae
   have hzd:zl d<=3:=by rw [hd]; exact U2 nz.2 ae
   refine iT I I<|lj [9] [0,4,8,12,16,21,25,30,32,38] bI σ fun _ σ=>vE I (fun η=>aX (i:=q) η underlying43 (az.size) I I ae I (aZ σ.l8))<|sE I (fun η hg=>cX (i:=q) (e:=(Aq,cq,zq)) η az I I jV (aZ (hg.ow (j:=1) I)) ae eG I)<|gS 0 I<|eS I<|fk call97 (LV (x:=zq) (y:=d) (show iY _ Aq cq zq from σ.bW) (show iY _ Ad cd d from σ.fX) ae ae) I ?_
   rintro _ _ ⟨_,rfl,⟨Yu,TG,rfl,apM⟩,hb⟩
   refine ⟨_,I,?_⟩
   replace σ:=(σ.call hb).j8 apM ⟨bV I,bX,bV I,trivial⟩
   refine sk (σ.kd 0 1)<|vE I (fun η=>aX (i:=q) η underlying43 (az.size) I I ae I (aZ σ.l8))<|eS I<|srE 1 q (e1:=(Yu,TG,(zq*d))) jV σ I I aB ae (by have:=aq List.length mf; simpa [U1,NR] using this) fun _ σ=>sz rfl<|?_
   replace σ:=σ.tE (e:=(Yu,TG,(zq*d))) (i:=2) (j:=0) I I q
   refine gE 0 σ I<|lE 2 σ I<|eE I<|fk call162 (Ex (x:=d) (n:=pb) (show iY _ Ad cd d from σ.nX) ae ae ae) I ?_
   rintro _ _ ⟨_,rfl,⟨A69,c70,rfl,apN⟩,hb⟩
   refine ⟨_,I,?_⟩
   replace σ:=(σ.call hb).j8 apN ⟨bV I,bX,bV I,trivial⟩
   exact eE I<|fB 0 σ I fun _ σ=>xq I ae<|gI ⟨q,((q:Nat):Int) - 1,(es.set q (Yu,TG,(zq*d))),(d*pb),A69,c70,I,I,σ.pick [0,1,2] [1,0] aB,ae,I,(by rw [hd,<- gh]; congr 1; omega),(Zp mf eG hd)⟩ aT ae
  ·obtain rfl:m=0:=ae
   exact iF I I<|o2 results114 I<|⟨_,_,_,I,σ.newRow (k:=1) (j:=0) I I,by have:=aq List.length mf; simpa [NR] using this,mf.trans (afe pa pb n),σ.below⟩
def lO (B:Nat) (vs:List LE):Prop:=∀v∈vs,∀a,v.1=some a->B<=a.block
theorem lO.nil (B:Nat):lO B []:=fun v h=>by cases h
theorem lO.snoc (h:lO B vs) (hv:∀a,v.1=some a->B<=a.block):lO B (vs++[v]):=fun u hu=>by
 rcases aK.1 hu with q | q
 ·exact h u q
 ·rw [aL.1 q]; exact hv
theorem lO.set (h:lO B vs) (hv:∀a,v.1=some a->B<=a.block):lO B (vs.set k v):=fun u hu=>by
 rcases dz hu with q | q
 ·exact h u q
 ·rw [q]; exact hv
theorem apL {own:List PF} (hE:(dW FL vs).P w) (hN:lO B vs) (hn:tO own) (fh:∀o∈own,∀b,o.gO b->b<B):∀o∈own,∀b,o.gO b->o.P w->¬(dW FL vs).gO b:=by
 rintro o ho b h1 hP ⟨v,hv,hf⟩
 rcases hf with ⟨_,off,e⟩ | hf
 ·have:=hN v hv _ e
  have h2:=fh o ho b h1
  exact absurd this (Nat.not_le.2 h2)
 ·exact oU (hE v hv).2.2 hn o ho b h1 hP hf
theorem St.sw {w':World} {own new:List PF} (h:St w0 w own ps) (hS:St w w' new [dW FL vs]) (hN:lO w.heap.size vs) (hn:tO own):St w0 w' (new++own) (dW FL vs::ps):=by
 have h1:St w w' new []:=⟨hS.below,hS.mine,hS.new,hS.nd,fun p h=>by simp at h,fun p h=>by simp at h⟩
 have h2:=h.more h1
 have h3:=h.call hS.below
 refine h2.l9 _ (hS.pat (k:=0) I) fun o ho b hb hf=>?_
 rcases aK.1 ho with q | q
 ·exact hS.apart _ (aJ ..) o q b hb hf
 ·exact apL (hS.pat (k:=0) I) hN hn (fun o ho b hb=>o.lt (h.mine o ho) hb) o q b hb (h3.mine o q) hf
theorem ajS {es:List Pt} (h:es[j]?=some p):(C8 es)[j]?=some (rf es.length (p8 es.length p)):=by unfold C8; rw [ay,h]; rfl
theorem abH (h:j<k):(zf k)[j]?=some (rf k (C7 j)):=by unfold zf; rw [ay,bN h]; rfl
theorem vC {R:List Rw} {r:Rw} (h:vs.map lz=R.take j) (hr:R[j]?=some r) (hv:lz v=r):(vs++[v]).map lz=R.take (j+1):=by
 rw [cD,h,take_one hr,List.map_singleton,hv]
theorem Zs {i:Nat}:((List.replicate k ((none,0,0):NE)).set i (A,c,1)).map zz=rf k (C7 i):=by
 unfold rf C7
 apply jM fW
 intro t h1 h2
 rw [List.getElem_map,List.getElem_set,List.getElem_map,List.getElem_range]
 split
 ·rename_i q; subst q; rw [au rfl]
 ·rename_i q; rw [ak (fw q)]; simp [zz]
theorem sx {q:Value->Bool} {own:List PF} {z g o:Nat} {vs:List Value} (h:St w0 w own ps) (hk:own[k]?=some (fc q E z (some ⟨g,o,none⟩) n c vs)):w0.heap.size<=g:=
 h.new _ (ah hk) g (by simp [fc,wJ,Value.ownBlock])
theorem ajT {es:List Pt} (h:lI es) (he:es[j]?=some p):yl p.1/\yl p.2:=by
 have:=(h.tQ p (ah he)).1
 exact this
theorem Zt {es0:List Pt} (h0:(jD A0 n0 c0 es0).P w0) (dy:lI es0):
  Calls prog 116 #[.slice A0 n0 c0] w0 fun e w'=>∃A c vs,e=.returned (.tuple #[.slice A n0 c,aG 0])/\St w0 w' [mc A n0 c vs] [dW FL vs]/\lO w0.heap.size vs/\vs.map lz=C8 es0:=by
 have hq:=dy.some_
 refine gQ func116 I ntmps116 I fun σ=>?_
 have cQ:=h0.2.1
 have lu:=h0.1.cap
 have eN:=h0.1.big
 unfold maxLen at eN
 replace σ:=σ.aY h0
 refine eE I<|gV call129 (IC σ.bW dy) σ I fun _ σ=>iF I I<|?_
 replace σ:=(σ.fp dD 43 1).rA FL
 refine ks (fun mz l w=>∃j:Nat,∃A4:Option Addr,∃c4:Nat,∃vs:List LE,n0 - j=mz/\l=[(14,aM j),(4,.slice A4 j c4),(0,.slice A0 n0 c0),(12,.slice A0 n0 c0),(13,aM n0)]/\St w0 w [mc A4 j c4 vs] [dW FL vs,jD A0 n0 c0 es0]/\j<=n0/\vs.map lz=(C8 es0).take j/\lO w0.heap.size vs) ⟨0,none,0,[],I,I,σ,(av _),I,(lO.nil _)⟩ aT ?_
 rintro _ _ _ ⟨j,A4,c4,vs,rfl,rfl,σ,hj,Lr,GF⟩
 refine il I<|wD (fun lC=>?_) fun lC=>?_
 ·have fh:j<n0:=ae
  obtain ⟨⟨pa,pb⟩,eG⟩:∃e,es0[j]?=some e:=⟨_,ag ae⟩
  refine iT I I<|vE I (fun η=>aX (i:=j) η underlying22 (aO.size) I I ae I σ.dw.1)<|cE I (fun η=>cX (v:=#[aG pa,aG pb]) (i:=j) (e:=(pa,pb)) η aO I I iX σ.dw.1 ae eG I)<|eE I<|iR b6 σ I fun _ eQ σ=>eE I<|fB 0 σ I fun _ σ=>gE 0 σ I<|eE I<|fk call114 (Ed (n:=n0) (ajT dy eG) ae) I ?_
  rintro _ _ ⟨si,rk,zT,rfl,CQ,zP,zS,hb⟩
  refine ⟨_,I,?_⟩
  have NS:=fun a (ha:si=some a)=>aD σ.below.size (CQ.2.2 a ha)
  replace σ:=σ.mB hb CQ zP (oU CQ.2.1 ⟨bV I,bX,trivial⟩)
  refine eE I<|mi (z:=1) #[.slice si n0 rk] σ (bF.size) jm I bI fun _ tU σ=>eE I<|oO (new:=[(si,n0,rk,zT)]) 2 0 σ iV I (by unfold maxLen; omega) ae fun _ C9 xv σ=>?_
  replace σ:=σ.pX (e:=(si,n0,rk,zT)) (i:=1) (j:=0) I I
  exact can (j:=1) I ae<|gI ⟨j+1,(cS C9),xv,(vs++[(si,n0,rk,zT)]),I,I,σ.pick [2] [0,3] aB,ae,(vC Lr (ajS eG) (by show zT.map zz=_; rw [cQ]; exact zS)),(GF.snoc (v:=(si,n0,rk,zT)) NS)⟩ aT ae
 ·obtain rfl:n0=j:=ae
  refine iF I I<|o2 results116 I<|?_
  rw [ax (by unfold C8; rw [aw]; omega)] at Lr
  exact ⟨_,_,_,I,σ.pick [0] [0] aB,GF,Lr⟩
theorem U3 (hk:k<=100):
  Calls prog 113 #[aM k] w0 fun e w'=>∃A c vs,e=.returned (.slice A k c)/\St w0 w' [mc A k c vs] [dW FL vs]/\lO w0.heap.size vs/\vs.map lz=zf k:=by
 refine gQ func113 I ntmps113 I fun σ=>?_
 replace σ:=(σ.fp dD 43 1).rA FL
 refine ks (fun mz l w=>∃j:Nat,∃A4:Option Addr,∃c4:Nat,∃vs:List LE,k - j=mz/\l=[(7,aM j),(3,.slice A4 j c4),(0,aM k),(6,aM k)]/\St w0 w [mc A4 j c4 vs] [dW FL vs]/\j<=k/\vs.map lz=(zf k).take j/\lO w0.heap.size vs) ⟨0,none,0,[],I,I,σ,(av _),I,(lO.nil _)⟩ aT ?_
 rintro _ _ _ ⟨j,A4,c4,vs,rfl,rfl,σ,hj,Lr,GF⟩
 refine il I<|wD (fun lC=>?_) fun lC=>?_
 ·have fh:j<k:=ae
  refine iT I I<|eE I<|mkN fN ((none,0,0):NE) dD σ dP I qo ae (by unfold maxLen; omega) fun _ eQ σ=>?_
  replace σ:=σ.vX (ov k _) ⟨bX,bX,trivial⟩
  refine eE I<|fk call18 (Bi (n:=(1:Int)) ae ae) I ?_
  rintro _ _ ⟨_,rfl,⟨si,rk,rfl,UJ⟩,hb⟩
  refine ⟨_,I,?_⟩
  replace σ:=(σ.call hb).j8 UJ ⟨bX,bX,trivial⟩
  refine vE I (fun η=>aX (i:=j) η underlying43 (az.size) I I ae I (aZ σ.jr))<|eE I<|srE 0 j (e1:=(si,rk,1)) jV σ I I aB ae fW fun _ σ=>?_
  replace σ:=σ.tE (e:=(si,rk,1)) (i:=1) (j:=0) I I j
  have rY:w0.heap.size<=eQ:=sx σ (k:=0) rfl
  replace σ:=σ.vh (k:=0) (j:=0) I I fW
  refine eE I<|mi (z:=1) #[.slice (cS eQ) k k] σ (bF.size) jm I bI fun _ zo σ=>eE I<|oO (new:=[(((cS eQ),k,k,((List.replicate k ((none,0,0):NE)).set j (si,rk,1))):LE)]) 1 0 σ iV I (by unfold maxLen; omega) ae fun _ xW KD σ=>?_
  replace σ:=σ.pX (e:=(((cS eQ),k,k,((List.replicate k ((none,0,0):NE)).set j (si,rk,1))):LE)) (i:=5) (j:=0) I I
  exact can (j:=1) I ae<|gI ⟨j+1,(cS xW),KD,(vs++[(((cS eQ),k,k,((List.replicate k ((none,0,0):NE)).set j (si,rk,1))):LE)]),I,I,σ.pick [1] [0] aB,ae,(vC Lr (abH ae) Zs),(GF.snoc (v:=((cS eQ),k,k,((List.replicate k ((none,0,0):NE)).set j (si,rk,1)))) (fun a ha=>by cases ha; exact rY))⟩ aT ae
 ·obtain rfl:k=j:=ae
  refine iF I I<|o1 results113 I<|?_
  rw [ax (by rw [oC]; omega)] at Lr
  exact ⟨_,_,_,I,σ.pick [0] [0] aB,GF,Lr⟩
def atu (B:Nat) (w:World) (v:Value) (n:Nat) (zs:List Int):Prop:=∃g es,v=.slice (cS g) n (n+2)/\sW dD 52 2 fN FN B w (cS g) (n+2) (n+2) es/\es.length=n+2/\es.map zz=zs++[0,0]
def atv (B:Nat) (w:World) (v:Value) (n:Nat) (zs:List Int):Prop:=∃A c es,v=.slice A n c/\sW dD 52 2 fN FN B w A n c es/\es.length=n/\es.map zz=zs/\(n=0->A=none)
theorem U4 {α:Type} {f:α->List Value} {F:α->PF} {z:Nat} {es:List α} (hn:0<n) (h:(bH f F z A n c es).P w):A.isNone=false:=by
 obtain ⟨b,off,rfl,_⟩:=h.1.cells hn
 rfl
theorem F6 (h0:(bH fN FN 2 A0 n0 c0 es0).P w0) (mZ:es0.map zz=xs) (hp:0<n0) (hn:n0<=10000000):
  Calls prog 161 #[.slice A0 n0 c0] w0 fun e w'=>∃v,e=.returned v/\tP w0.heap.size w' v n0 xs/\Below w0.heap.size w0 w':=by
 have AV:=U4 hp h0
 refine enter func161 I ntmps161 I ?_
 intro a η σ
 have cQ:=h0.2.1
 have eN:=aD h0.1.cap h0.1.big
 unfold maxLen at eN
 replace σ:=σ.aY h0
 clear h0
 refine wp_seq (aI ?_)
 refine sv (v:=bM) η I (cf η I) ?_
 clear η a; intro a η
 refine wpList_nil (b5 (wp_seq (wp_seq (aI ?_))))
 revert a
 refine mA I I ?_
 refine sA (v:=.bool A0.isNone) I (fun _ η=>pq η underlying43 I) ?_
 intro a η
 rw [show A0.isNone=false from AV] at η
 refine wpList_nil (b5 ?_)
 refine rV η I (I) ?_
 refine wp_skip (b5 (wp_seq (aI ?_)))
 refine aS I (uA η σ I underlying43 (az.size) ?_)
 clear η σ a; intro a Wo de η σ
 replace σ:=(σ.RQ (k:=0) I 2).rA FN
 replace σ:St w0 _ [fc dD 52 2 (cS de) 0 0 (fl fN ([]))] [dW FN ([]),bH fN FN 2 A0 n0 c0 es0]:=σ
 refine sv (v:=.slice A0 n0 c0) η I (ff η I) ?_
 clear η a; intro a η
 refine aS I (BC (k:=0) η σ I underlying43 dP I I I I I σ.dw.1 (J2 (fun _=>I) _) (J2 (fun _=>I) _) I ae (by unfold maxLen; omega) ae ?_)
 clear η σ a; intro a w55 jh rk η σ
 rw [show fl fN ([])++fl fN es0=fl fN es0 from rfl] at σ
 replace σ:=σ.ahJ (i:=1) I
 refine sv (v:=.slice (cS jh) (0+n0) rk) η I (cf η I) ?_
 clear η a; intro a η
 refine wpList_nil (b5 (wp_ret ?_))
 refine leave η (iJ results161 (RV.tmp η I)) ?_
 exact ⟨_,I,⟨_,_,es0,aq (fun k=>Value.slice _ k _) (bD _),(bD n0 ▸ σ.newRow (k:=0) (j:=0) I I),cQ,mZ⟩,σ.below⟩
theorem Lx {n1:Nat} (h0:(bH fN FN 2 A0 n0 c0 es0).P w0) (mZ:es0.map zz=xs) (h1:(bH fN FN 2 A1 n1 c1 es1).P w0) (po:es1.map zz=xs):
  Calls prog 118 #[.slice A0 n0 c0,.slice A1 n1 c1] w0 fun e w'=>e=.returned (.bool true)/\Below w0.heap.size w0 w':=by
 have h:=R7 h0 h1
 rw [mZ,po,Mj rfl rfl] at h
 exact h
end Go.Proofs.YtgopcdagnicekaaGreatDoor.W
