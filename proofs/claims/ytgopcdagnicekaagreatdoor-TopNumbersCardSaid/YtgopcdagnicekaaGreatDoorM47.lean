/- row.Over, Content, Primitive; the reference's Over, Content, Zero, Primitive. Printed by pv/gen_row9.py. No condition. -/
import Derived.Test.YtgopcdagnicekaaGreatDoorM1
import Derived.Test.YtgopcdagnicekaaGreatDoorM12
import Derived.Test.YtgopcdagnicekaaGreatDoorM44
import Derived.Test.YtgopcdagnicekaaGreatDoorM34
import Derived.Test.YtgopcdagnicekaaGreatDoorM46
import Derived.Test.YtgopcdagnicekaaGreatDoorM43
import Derived.Test.YtgopcdagnicekaaGreatDoorM21
import Derived.Test.YtgopcdagnicekaaGreatDoorM45
import Derived.Test.YtgopcdagnicekaaGreatDoorM31

set_option linter.unusedVariables false
set_option linter.unusedSimpArgs false
set_option linter.all false
set_option maxRecDepth 100000
set_option maxHeartbeats 2000000
namespace Go.Proofs.YtgopcdagnicekaaGreatDoor.W
open Go.RowKit Anv Go.Lib
theorem Zy {es:List NE} {xs:List Int} {j:Nat} {A:Option Addr} {c:Nat} {z:Int} (hz:es.map zz=xs) (he:es[j]?=some (A,c,z)):xs[j]?=some z:=by rw [<- hz,bo,he]; rfl
theorem ac9 {es:List NE} {xs:List Int} {j:Nat} {A:Option Addr} {c:Nat} {z:Int} (hz:es.map zz=xs) (he:es[j]?=some (A,c,z)):z∈xs:=aB (Zy hz he)
theorem SL {es os:List NE} {xs:List Int} {j:Nat} {A B:Option Addr} {c d:Nat} {z m:Int} (hz:es.map zz=xs) (ho:os.map zz=(xs.map (· / m)).take j) (he:es[j]?=some (A,c,z)):(os++[(B,d,z / m)]).map zz=(xs.map (· / m)).take (j+1):=by
 rw [je,ho,take_one (by rw [bo,Zy hz he]; rfl)]
 rfl
def ovr (x y:Int):Int:=if x%y=0 then x / y else 0
theorem vF {es:List NE} {xs:List Int} {j:Nat} {A:Option Addr} {c:Nat} {z m:Int} (hz:es.map zz=xs) (hd:Du m (xs.take j)) (he:es[j]?=some (A,c,z)) (h:z%m=0):Du m (xs.take (j+1)):=by
 rw [JC hz he]
 intro x hx
 rcases b6.1 hx with hx | hx
 ·exact hd x hx
 ·rw [cC.1 hx]; exact h
theorem Xd {es:List NE} {xs:List Int} {j:Nat} {A:Option Addr} {c:Nat} {z m:Int} (hz:es.map zz=xs) (he:es[j]?=some (A,c,z)) (h:z%m≠0):¬Du m xs:=fun hd=>h (hd z (ac9 hz he))
theorem BC {xs:List Int} {n:Nat} {f:Int->Int} (h:n=xs.length):(xs.map f).take n=xs.map f:=bD (by rw [aZ]; omega)
theorem Xe {z:Int} (h:(z.sign !=0)=true):z≠0:=fun e=>by rw [e] at h; cases h
theorem SM {z:Int} (h:(z.sign !=0)=false):z=0:=yL.1 (by simpa using h)
theorem SN {z:Int} (h:z≠0):(z.sign==0)=false:=kv.2 fun e=>h (yL.1 e)
theorem SO {A0:Option Addr} {n0 c0:Nat} {es0:List NE} {xs:List Int} {M:Option Addr} {d:Nat} {m:Int} {w0:World} (h0:(ag fN FN 2 A0 n0 c0 es0).P w0) (jF:es0.map zz=xs) (hM:dK w0 M d m) (hm:zl m<=100000) (Bn:m≠0) (hk:Zk 100000 xs) (hn:n0<=100000000):
  Calls Tryz.prog 200 #[.slice A0 n0 c0,.agg #[.bool (neg m),.slice M (zl m) d]] w0 fun e w'=>((Du m xs/\∃v,e=.returned (.tuple #[v,.int .i64 0])/\qC w0.heap.size w' v n0 (xs.map (· / m)))∨(¬Du m xs/\e=.returned (.tuple #[bA,.int .i64 20])))/\Below w0.heap.size w0 w':=by
 have hzb:=hk.es jF
 refine enter Tryz.func200 rfl Tryz.ntmps200 rfl ?_
 intro a η σ
 replace σ:=σ.eO hM trivial
 have a8:=h0.2.1
 have bW:=bq h0.1.cap h0.1.big
 unfold maxLen at bW
 replace σ:=σ.aE h0
 clear h0
 refine wp_seq (aj ?_)
 refine au rfl (jL (c:=#[.bool (neg m),.slice M (zl m) d]) η σ rfl rfl rfl ?_)
 clear η σ a; intro a Uf bJ η σ
 revert a
 refine aA rfl rfl ?_
 refine aA rfl rfl ?_
 intro a η
 refine wpList_nil (aT (wp_seq (wp_seq (aj ?_))))
 refine sv (v:=.agg #[.bool (neg m),.slice M (zl m) d]) η rfl (dX η ah rfl σ.dj rfl) ?_
 clear η a; intro a η
 refine au rfl (cV η rfl Tryz.call60 rfl (tp (z:=m)) ?_)
 rintro e w53 ⟨rfl,hb⟩
 refine ⟨_,rfl,?_⟩
 clear η a; intro a η
 replace σ:=σ.call hb
 clear hb
 refine sv (v:=.bool (m.sign==(0:Int))) η rfl (bg η rfl rfl rfl) ?_
 clear η a; intro a η
 rw [show (m.sign==(0:Int))=false from (SN Bn)] at η
 refine wpList_nil (aT ?_)
 refine oD η rfl (rfl) ?_
 refine wp_skip (aT (wp_seq (aj ?_)))
 refine sv (v:=bA) η rfl (aV η rfl) ?_
 clear η a; intro a η
 refine wpList_nil (aT (wp_seq (wp_seq (aj ?_))))
 revert a
 refine mA rfl rfl ?_
 refine sA (v:=.int .i64 (n0:Nat)) rfl (fun _ η=>eW η Tryz.underlying43 rfl) ?_
 refine mA rfl rfl ?_
 intro a η
 refine wpList_nil (aT (wp_block ?_))
 replace σ:=(σ.cl ar 52 2).nP FN
 refine wp_loop_ghost (fun mz a w=>∃(j:Nat) (B:Option Addr) (e:Nat) (os:List NE),n0 - j=mz/\Env 37 a [(3,bB bJ),(6,.slice B j e),(15,.slice A0 n0 c0),(16,.int .i64 (n0:Nat)),(17,.int .i64 (j:Nat))]/\St w0 w [av ar 52 2 B j e (fl fN os),bk bJ #[.bool (neg m),.slice M (zl m) d] 52] [bL FN os,ag fN FN 2 A0 n0 c0 es0,BW M d m]/\j<=n0/\os.map zz=(xs.map (· / m)).take j/\Du m (xs.take j)) _ ⟨0,none,0,[],rfl,η.sub ay,σ.pick [0,1] [0,1,2] ai,(bm _),rfl,(fun _ h=>by cases h)⟩ ?_
 clear η σ a
 rintro mz a w54 ⟨j,B,e,os,rfl,η,σ,hj,ho,hd⟩
 refine wp_seq (aj ?_)
 refine sv (v:=.bool (decide (((j:Nat):Int)<((n0:Nat):Int)))) η rfl (bg η rfl rfl rfl) ?_
 clear η a; intro a η
 refine wpList_nil (aT (wp_seq ?_))
 refine dY η rfl (fun ac'=>?_) (fun ac'=>?_)
 ·have cD:j<n0:=by have:=bX ac'; omega
  obtain ⟨⟨A,c,z⟩,b5⟩:∃e,es0[j]?=some e:=⟨_,aw ae⟩
  replace σ:=σ.elem (k:=1) rfl b5
  have Vg:=hzb.at b5
  refine wp_skip (aT (wp_seq (wp_block (wp_seq (aj ?_)))))
  revert a
  refine sA (v:=.pointer (some ⟨ab A0,ao A0+j*2,none⟩)) rfl (fun _ η=>jy (i:=j) η Tryz.underlying43 (ah.size) rfl rfl ae rfl σ.cF.1) ?_
  refine sA (v:=.agg #[.bool (neg z),.slice A (zl z) c]) rfl (fun _ η=>bF (i:=j) (e:=(A,c,z)) η ah rfl rfl eF σ.cF.1 ae b5 rfl) ?_
  intro a η
  refine au rfl (fA (c:=#[.bool (neg 0),.slice none (zl 0) 0]) η σ rfl aG lZ ?_)
  clear η σ a; intro a w57 yi η σ
  refine au rfl (fW (k:=0) (c':=#[.bool (neg z),.slice A (zl z) c]) η σ (ah.size) rfl rfl rfl rfl cT rfl rfl ?_)
  clear η σ a; intro a w58 η σ
  refine wpList_nil (aT (wp_seq (aj ?_)))
  revert a
  refine sA (v:=.agg #[.bool (neg z),.slice A (zl z) c]) rfl (fun _ η=>dX η ah rfl σ.dj rfl) ?_
  refine sA (v:=.agg #[.bool (neg m),.slice M (zl m) d]) rfl (fun _ η=>dX η ah rfl σ.Bm rfl) ?_
  intro a η
  have auR:=Kz z m
  refine au rfl (cV η rfl Tryz.call61 rfl (P4 (x:=z) (y:=m) (show dK _ A c z from σ.aU) (show dK _ M d m from σ.eY) ae ae Bn) ?_)
  rintro e w66 ⟨_,_,rfl,⟨As,uc,rfl,ahI⟩,⟨W9,c64,rfl,ahK⟩,hb⟩
  refine ⟨_,rfl,?_⟩
  clear η a; intro a η
  replace σ:=((σ.call hb).eO ahI ⟨aN rfl,aL,aN rfl,trivial⟩).eO ahK ⟨aN rfl,aL,aN rfl,trivial⟩
  clear ahI ahK
  clear hb
  revert a
  refine mA rfl rfl ?_
  refine sA (v:=.agg #[.bool (neg (z / m)),.slice As (zl (z / m)) uc]) rfl (fun _ η=>dQ η rfl rfl) ?_
  refine sA (v:=.agg #[.bool (neg (z%m)),.slice W9 (zl (z%m)) c64]) rfl (fun _ η=>dQ η rfl rfl) ?_
  refine sA (v:=.int .i64 0) rfl (fun _ η=>dQ η rfl rfl) ?_
  intro a η
  refine au rfl (fA (c:=#[.bool (neg 0),.slice none (zl 0) 0]) η σ rfl aG lZ ?_)
  clear η σ a; intro a w68 g67 η σ
  refine au rfl (fA (c:=#[.bool (neg 0),.slice none (zl 0) 0]) η σ rfl aG lZ ?_)
  clear η σ a; intro a w70 g69 η σ
  refine au rfl (fW (k:=1) (c':=#[.bool (neg (z / m)),.slice As (zl (z / m)) uc]) η σ (ah.size) rfl rfl rfl rfl cT rfl rfl ?_)
  clear η σ a; intro a w71 η σ
  refine au rfl (fW (k:=0) (c':=#[.bool (neg (z%m)),.slice W9 (zl (z%m)) c64]) η σ (ah.size) rfl rfl rfl rfl cT rfl rfl ?_)
  clear η σ a; intro a w72 η σ
  refine sv (v:=.int .i64 0) η rfl (aV η rfl) ?_
  clear η a; intro a η
  refine wpList_nil (aT (wp_seq (wp_seq (aj ?_))))
  refine sv (v:=.agg #[.bool (neg (z%m)),.slice W9 (zl (z%m)) c64]) η rfl (dX η ah rfl σ.dj rfl) ?_
  clear η a; intro a η
  refine au rfl (cV η rfl Tryz.call60 rfl (tp (z:=z%m)) ?_)
  rintro e w73 ⟨rfl,hb⟩
  refine ⟨_,rfl,?_⟩
  clear η a; intro a η
  replace σ:=σ.call hb
  clear hb
  refine sv (v:=.bool ((z%m).sign !=(0:Int))) η rfl (bg η rfl rfl rfl) ?_
  clear η a; intro a η
  refine wpList_nil (aT ?_)
  refine dY η rfl (fun ada=>?_) (fun ada=>?_)
  ·have sQ:z%m≠0:=Xe ada
   refine wp_seq (aj ?_)
   revert a
   refine aA rfl rfl ?_
   refine aA rfl rfl ?_
   intro a η
   refine wpList_nil (aT (wp_ret (j9 (mZ (j9 (j9 (mZ (j9 ?_))))))))
   refine leave η (gC Tryz.results200 (RV.tmp η rfl) (RV.tmp η rfl)) ?_
   exact ⟨.inr ⟨Xd jF b5 sQ,rfl⟩,σ.below⟩
  ·have hze:z%m=0:=SM ada
   refine wp_skip (aT (aj ?_))
   revert a
   refine mA rfl rfl ?_
   refine sA (v:=.agg #[.bool (neg (z / m)),.slice As (zl (z / m)) uc]) rfl (fun _ η=>dX η ah rfl σ.vQ rfl) ?_
   intro a η
   refine au rfl (jX (z:=2) (pv:=#[(0,.agg #[.bool (neg (z / m)),.slice As (zl (z / m)) uc])]) (c:=#[.bool (neg (z / m)),.slice As (zl (z / m)) uc]) η σ rfl Tryz.underlying43 (ah.size) aG ai ai rfl aK ?_)
   clear η σ a; intro a w76 g75 η σ
   refine au rfl (pG (k:=4) (j:=0) η σ rfl Tryz.underlying43 bK rfl rfl rfl rfl rfl rfl rfl rfl rfl rfl rfl (by unfold maxLen; omega) ae ?_)
   clear η σ a; intro a w79 g77 c78 η σ
   rw [show fl fN os++(#[.bool (neg (z / m)),.slice As (zl (z / m)) uc]:Array Value).toList=fl fN (os++[(As,uc,(z / m))]) from Dp (f:=fN) os (As,uc,(z / m))] at σ
   replace σ:=σ.l7 (e:=(As,uc,(z / m))) (i:=3) (j:=1) rfl rfl
   refine sv (v:=.slice (bh g77) (j+1) c78) η rfl (aV η rfl) ?_
   clear η a; intro a η
   refine wpList_nil (qA (aT (aj ?_)))
   revert a
   refine sA (v:=.int .i64 (j+1:Nat)) rfl (fun _ η=>im η rfl rfl (by rw [IntWalk.i64_in _ ae]; omega)) ?_
   refine mA rfl rfl ?_
   intro a η
   refine wpList_nil ?_
   exact aT ⟨_,ae,⟨j+1,(bh g77),c78,(os++[(As,uc,(z / m))]),rfl,η.sub ay,σ.pick [4,5] [0,5,6] ai,ae,(SL jF ho b5),(vF jF hd b5 hze)⟩⟩
 ·have hjn:j=n0:=by have:=fT ac'; omega
  refine wp_exit (kW (kW (tt (aT (wp_seq (aj ?_))))))
  revert a
  refine mA rfl rfl ?_
  refine aA rfl rfl ?_
  refine aA rfl rfl ?_
  intro a η
  refine wpList_nil (aT (wp_ret ?_))
  refine leave η (gC Tryz.results200 (RV.tmp η rfl) (RV.tmp η rfl)) ?_
  have T8:n0=xs.length:=by rw [<- jF,aZ]; exact a8.symm
  rw [hjn,T8,List.take_length] at hd
  rw [hjn,BC T8] at ho
  exact ⟨.inl ⟨hd,_,rfl,⟨_,_,os,aM (fun k=>Value.slice _ k _) hjn,(hjn ▸ σ.newRow (k:=0) (j:=0) rfl rfl),Ds ho (by rw [aZ]; exact T8.symm),ho⟩⟩,σ.below⟩
theorem Zk.zb {k:Nat} {es:List NE} (h:Zk k (es.map zz)):ZB k es:=h.es rfl
theorem SS {A0 A1:Option Addr} {n0 c0 c1:Nat} {es0 es1:List NE} {xs ys:List Int} {w0:World} (h0:(ag fN FN 2 A0 n0 c0 es0).P w0) (jF:es0.map zz=xs) (h1:(ag fN FN 2 A1 n0 c1 es1).P w0) (ld:es1.map zz=ys) (Ii:Zk 500000 xs) (Bc:Zk 500000 ys) (hn:n0<=100000000):
  Calls Tryz.prog 195 #[.slice A0 n0 c0,.slice A1 n0 c1] w0 fun e w'=>∃v,e=.returned (.tuple #[v,.int .i64 0])/\qC w0.heap.size w' v n0 (List.zipWith (·+·) xs ys)/\Below w0.heap.size w0 w':=by
 subst jF ld
 exact Vo h0 h1 Ii.zb Bc.zb hn
theorem SU {A0 A1:Option Addr} {n0 c0 c1:Nat} {es0 es1:List NE} {xs ys:List Int} {w0:World} (h0:(ag fN FN 2 A0 n0 c0 es0).P w0) (jF:es0.map zz=xs) (h1:(ag fN FN 2 A1 n0 c1 es1).P w0) (ld:es1.map zz=ys) (Ii:Zk 500000 xs) (Bc:Zk 500000 ys) (hn:n0<=100000000):
  Calls Tryz.prog 197 #[.slice A0 n0 c0,.slice A1 n0 c1] w0 fun e w'=>∃v,e=.returned (.tuple #[v,.int .i64 0])/\qC w0.heap.size w' v n0 (List.zipWith (· - ·) xs ys)/\Below w0.heap.size w0 w':=by
 subst jF ld
 exact Vp h0 h1 Ii.zb Bc.zb hn
section
variable {P:Program} {X:Cx P} {w w0:World} {own ps:List PF} {d:Nat} {l:List (Nat×Value)} {C:World->List (Nat×Value)->Prop}
theorem mkN {α:Type} {x y:Operand} {T E z bytes:Nat} {zv:Value} (f:α->List Value) (e0:α) (q:Value->Bool) {n:Nat} {kl kc:IntKind} (hs:St w0 w own ps) (hi:(P.info? E).map (fun i=>(i.zero,i.size,i.bytes))=some (some zv,z,bytes))
  (e:(Nat.blt d X.N,X.T.ty T,bV l x,bV l y,zv.cells.size,Nat.blt 0 z,zv.cells.toList.all q)=(true,.sl E,some (.int kl (n:Nat)),some (.int kc (n:Nat)),z,true,true)) (hf:f e0=zv.cells.toList) (hb:bytes*n<=140737488355328) (hn:n<=maxLen)
  (h:∀w' g,St w0 w' (av q E z (bh g) n n (fl f (List.replicate n e0))::own) ps->C w' ((d,.slice (bh g) n n)::l)):WE X w l (.makeSlice T x y) (some d) C:=
 yg f e0 q hs hi (by simp only [ji] at e ⊢; exact ⟨e.1,e.2.1,e.2.2.1,e.2.2.2.1,e.2.2.2.2.1,e.2.2.2.2.2.1,hf,e.2.2.2.2.2.2⟩) hb hn h
end
def S2 (x:Int) (j n:Nat):List Int:=(List.range n).map fun t=>if t<j then x ^ t else 0
def L' (x y:Int) (m n:Nat):List Int:=(List.range n).map fun t=>if m<=t then x ^ t*y ^ (n - 1 - t) else x ^ t
theorem anB (x:Int) (n:Nat):(List.replicate n ((none,0,0):NE)).map zz=S2 x 0 n:=by
 unfold S2
 rw [mN]
 apply CU cT
 intro i h1 h2
 simp [zz]
theorem Xo {x u:Int} {j n:Nat} {es:List NE} {A:Option Addr} {c:Nat} (h:es.map zz=S2 x j n) (hu:u=x ^ j):(es.set j (A,c,u)).map zz=S2 x (j+1) n:=by
 have hl:es.length=n:=by have:=aM List.length h; simpa [S2] using this
 rw [qK,h]
 unfold S2
 apply CU cT
 intro i h1 h2
 rw [List.getElem_set]
 simp only [List.getElem_map,List.getElem_range]
 split
 ·rename_i q; subst q; rw [aR ae]; exact hu
 ·split
  ·rw [aR ae]
  ·rw [aQ ae]
theorem ahO (x y:Int) (n:Nat):S2 x n n=L' x y n n:=by
 unfold S2 L'
 refine jh fun t ht=>?_
 have:=nZ.1 ht
 rw [aR this,aQ ae]
theorem ZF {x y:Int} {q n:Nat} {es:List NE} {A:Option Addr} {c:Nat} {z:Int} (h:es.map zz=L' x y (q+1) n) (he:es[q]?=some (A,c,z)):z=x ^ q/\q<n:=by
 have h1:(es.map zz)[q]?=some z:=by rw [bo,he]; rfl
 rw [h] at h1
 unfold L' at h1
 rw [bo] at h1
 rcases dr q n with hq | hq
 ·rw [fQ hq] at h1
  have:=dw h1
  dsimp only at this
  rw [aQ ae] at this
  exact ⟨this.symm,hq⟩
 ·rw [dz (by simpa using hq)] at h1; cases h1
theorem Xq {x y d:Int} {q n:Nat} {es:List NE} {A B:Option Addr} {c e:Nat} {z:Int} (h:es.map zz=L' x y (q+1) n) (he:es[q]?=some (A,c,z)) (hd:d=y ^ (n - (q+1))):(es.set q (B,e,z*d)).map zz=L' x y q n:=by
 obtain ⟨hz,hq⟩:=ZF h he
 rw [qK,h]
 unfold L'
 apply CU cT
 intro i h1 h2
 rw [List.getElem_set]
 simp only [List.getElem_map,List.getElem_range]
 split
 ·rename_i p; subst p
  rw [aR (aY _),show n - 1 - q=n - (q+1) by omega,<- hd,<- hz]
 ·split
  ·rw [aR ae]
  ·rw [aQ ae]
theorem adj (x y:Int) (n:Nat):L' x y 0 n=rf n (ma n (x,y)):=by
 unfold L' rf ma
 refine jh fun t ht=>?_
 rw [aR (bm _)]
theorem adk {x:Int} (h:-16<=x/\x<=16) (j:Nat):(x ^ j).natAbs<=16 ^ j:=by
 rw [OH]
 exact CY ae j
theorem S3 {x:Int} (h:-16<=x/\x<=16) {j:Nat} (hj:j<=17):zl (x ^ j)<=3:=by
 have h1:=adk h j
 have h2:16 ^ j<=16 ^ 17:=fE ai hj
 exact cQ (qf (bq h1 h2) ai)
theorem CH {w0:World} {pa pb:Int} {n:Nat} (km:vq pa/\vq pb) (hn:n<=16):
  Calls Tryz.prog 114 #[.agg #[aq pa,aq pb],ak n] w0 fun e w'=>∃A c es,e=.returned (.tuple #[.slice A n c,aq 0])/\pF ar 52 2 fN FN w0.heap.size w' A n c es/\es.length=n/\es.map zz=rf n (ma n (pa,pb))/\Below w0.heap.size w0 w':=by
 have anC:=km.1
 have anD:=km.2
 unfold vq at anC anD
 refine dp Tryz.func114 rfl Tryz.ntmps114 rfl fun σ=>eE rfl<|gN σ rfl fun _ bJ σ=>gE 0 σ rfl<|eE rfl<|dx Tryz.call69 (uY (pa:=pa) (pb:=pb)) σ rfl fun _ σ=>kB (b':=true) (dU km)<|ei rfl<|kB (b':=false) (bR ae)<|pd rfl<|kB (b':=false) (bR ae)<|iF rfl rfl<|eE rfl<|mkN fN ((none,0,0):NE) ar σ bK rfl mu ae (by unfold maxLen; omega) fun _ cJ σ=>?_
 replace σ:=σ.sU (kI n _) ⟨aL,aN rfl,trivial⟩
 refine eE rfl<|cS Tryz.call18 (yU (n:=(1:Int)) ae ae) rfl ?_
 rintro _ _ ⟨_,rfl,⟨oK,nv,rfl,SK⟩,hb⟩
 refine ⟨_,rfl,?_⟩
 replace σ:=(σ.call hb).eO SK ⟨aL,aN rfl,trivial⟩
 refine eE rfl<|cS Tryz.call18 (yU (n:=(1:Int)) ae ae) rfl ?_
 rintro _ _ ⟨_,rfl,⟨GD,D4,rfl,xI⟩,hb⟩
 refine ⟨_,rfl,?_⟩
 replace σ:=(σ.call hb).eO xI ⟨aL,aN rfl,trivial⟩
 refine eE rfl<|eL aG σ rfl fun _ B4 σ=>eE rfl<|eL aG σ rfl fun _ Bt σ=>eE rfl<|cX 1 σ rfl fun _ σ=>eE rfl<|cX 0 σ rfl fun _ σ=>fX (fun mz l w=>∃j:Nat,∃es:List NE,∃u:Int,∃Au:Option Addr,∃cu:Nat,n - j=mz/\l=[(28,ak j),(1,ak n),(2,bB bJ),(6,.slice (bh cJ) n n),(7,bB B4),(8,bB Bt),(27,ak n)]/\St w0 w [bk B4 #[.bool (neg u),.slice Au (zl u) cu] 52,abi (bh cJ) n n es,bk Bt #[.bool (neg 1),.slice GD (zl 1) D4] 52,bk bJ #[aq pa,aq pb] 61] [bL FN es,BW Au cu u,BW GD D4 1]/\j<=n/\u=pa ^ j/\es.map zz=S2 pa j n) ⟨0,(List.replicate n ((none,0,0):NE)),1,oK,nv,rfl,rfl,σ.pick [1,2,0,3] [2,1,0] ai,(bm _),(Int.pow_zero pa).symm,(anB pa n)⟩ ay ?_
 rintro _ _ _ ⟨j,es,u,Au,cu,rfl,rfl,σ,hj,hu,iI⟩
 refine ei rfl<|wD (fun wj=>?_) fun wj=>?_
 ·have cD:j<n:=ae
  have hzu:zl u<=3:=by rw [hu]; exact S3 km.1 ae
  refine iT rfl rfl<|gE 0 σ rfl<|vE rfl (fun η=>az (i:=j) η Tryz.underlying43 (ah.size) rfl rfl ae rfl (ax σ.fK))<|eE rfl<|srE 1 j (e1:=(Au,cu,u)) eF σ rfl rfl ai ae (by have:=aM List.length iI; simpa [S2,L'] using this) fun _ σ=>?_
  replace σ:=σ.qp (e:=(Au,cu,u)) (i:=0) (j:=1) rfl rfl j
  refine gE 0 σ rfl<|lE 3 σ rfl<|eE rfl<|cS Tryz.call162 (Da (x:=u) (n:=pa) (show dK _ Au cu u from σ.cF) ae ae ae) rfl ?_
  rintro _ _ ⟨_,rfl,⟨A62,Wn,rfl,Xr⟩,hb⟩
  refine ⟨_,rfl,?_⟩
  replace σ:=(σ.call hb).eO Xr ⟨aN rfl,aL,aN rfl,aN rfl,trivial⟩
  exact eE rfl<|cX 0 σ rfl fun _ σ=>can (j:=1) rfl ae<|dF ⟨j+1,(es.set j (Au,cu,u)),(u*pa),A62,Wn,rfl,rfl,σ.pick [0,1,2,3] [1,0,4] ai,ae,(by rw [hu,sM]),(Xo iI hu)⟩ ay ae
 ·obtain rfl:n=j:=ae
  refine iF rfl rfl<|yf rfl ae<|fX (fun mz l w=>∃m:Nat,∃z:Int,∃es:List NE,∃d:Int,∃Ad:Option Addr,∃cd:Nat,m=mz/\l=[(10,aq z),(2,bB bJ),(6,.slice (bh cJ) n n),(8,bB Bt)]/\St w0 w [bk Bt #[.bool (neg d),.slice Ad (zl d) cd] 52,abi (bh cJ) n n es,bk bJ #[aq pa,aq pb] 61] [bL FN es,BW Ad cd d]/\m<=n/\z=((m:Nat):Int) - 1/\d=pb ^ (n - m)/\es.map zz=L' pa pb m n) ⟨n,((n:Nat):Int) - 1,es,1,GD,D4,rfl,rfl,σ.pick [2,1,3] [0,2] ai,(aY _),rfl,(by rw [mR,Int.pow_zero]),(iI.trans (ahO pa pb n))⟩ ay ?_
  rintro _ _ _ ⟨m,z,es,d,Ad,cd,rfl,rfl,σ,hm,hz,hd,iI⟩
  refine xd rfl<|wD (fun Gz=>?_) fun Gz=>?_
  ·obtain ⟨q,rfl⟩:∃q,m=q+1:=⟨m-1,by omega⟩
   obtain rfl:z=((q:Nat):Int):=ae
   have Xs:es.length=n:=by have:=aM List.length iI; simpa [L'] using this
   obtain ⟨⟨Aq,cq,zq⟩,b5⟩:∃e,es[q]?=some e:=⟨_,aw ae⟩
   replace σ:=σ.qo (k:=0) rfl b5
   have Ve:zl zq<=3:=by rw [(ZF iI b5).1]; exact S3 km.1 ae
   have hzd:zl d<=3:=by rw [hd]; exact S3 km.2 ae
   refine iT rfl rfl<|gY [9] [0,4,8,12,16,21,25,30,32,38] aK σ fun _ σ=>vE rfl (fun η=>az (i:=q) η Tryz.underlying43 (ah.size) rfl rfl ae rfl (ax σ.fK))<|sE rfl (fun η hg=>bF (i:=q) (e:=(Aq,cq,zq)) η ah rfl rfl eF (ax (hg.ow (j:=1) rfl)) ae b5 rfl)<|gS 0 rfl<|eS rfl<|cS Tryz.call97 (Ka (x:=zq) (y:=d) (show dK _ Aq cq zq from σ.aU) (show dK _ Ad cd d from σ.cF) ae ae) rfl ?_
   rintro _ _ ⟨_,rfl,⟨Wt,RE,rfl,anE⟩,hb⟩
   refine ⟨_,rfl,?_⟩
   replace σ:=(σ.call hb).eO anE ⟨aN rfl,aL,aN rfl,trivial⟩
   refine sk (σ.kd 0 1)<|vE rfl (fun η=>az (i:=q) η Tryz.underlying43 (ah.size) rfl rfl ae rfl (ax σ.fK))<|eS rfl<|srE 1 q (e1:=(Wt,RE,(zq*d))) eF σ rfl rfl ai ae (by have:=aM List.length iI; simpa [S2,L'] using this) fun _ σ=>sz rfl<|?_
   replace σ:=σ.qp (e:=(Wt,RE,(zq*d))) (i:=2) (j:=0) rfl rfl q
   refine gE 0 σ rfl<|lE 2 σ rfl<|eE rfl<|cS Tryz.call162 (Da (x:=d) (n:=pb) (show dK _ Ad cd d from σ.jW) ae ae ae) rfl ?_
   rintro _ _ ⟨_,rfl,⟨A69,c70,rfl,anF⟩,hb⟩
   refine ⟨_,rfl,?_⟩
   replace σ:=(σ.call hb).eO anF ⟨aN rfl,aL,aN rfl,trivial⟩
   exact eE rfl<|cX 0 σ rfl fun _ σ=>yf rfl ae<|dF ⟨q,((q:Nat):Int) - 1,(es.set q (Wt,RE,(zq*d))),(d*pb),A69,c70,rfl,rfl,σ.pick [0,1,2] [1,0] ai,ae,rfl,(by rw [hd,<- sM]; congr 1; omega),(Xq iI b5 hd)⟩ ay ae
  ·obtain rfl:m=0:=ae
   exact iF rfl rfl<|o2 Tryz.results114 rfl<|⟨_,_,_,rfl,σ.newRow (k:=1) (j:=0) rfl rfl,by have:=aM List.length iI; simpa [L'] using this,iI.trans (adj pa pb n),σ.below⟩
def gZ (B:Nat) (vs:List LE):Prop:=∀v∈vs,∀a,v.1=some a->B<=a.block
theorem gZ.nil (B:Nat):gZ B []:=fun v h=>by cases h
theorem gZ.snoc {B:Nat} {vs:List LE} {v:LE} (h:gZ B vs) (hv:∀a,v.1=some a->B<=a.block):gZ B (vs++[v]):=fun u hu=>by
 rcases b6.1 hu with q | q
 ·exact h u q
 ·rw [cC.1 q]; exact hv
theorem gZ.set {B:Nat} {vs:List LE} {v:LE} {k:Nat} (h:gZ B vs) (hv:∀a,v.1=some a->B<=a.block):gZ B (vs.set k v):=fun u hu=>by
 rcases kr hu with q | q
 ·exact h u q
 ·rw [q]; exact hv
theorem apL {w:World} {own:List PF} {vs:List LE} {B:Nat} (hE:(bL FL vs).P w) (hN:gZ B vs) (hn:qB own) (cD:∀o∈own,∀b,o.di b->b<B):∀o∈own,∀b,o.di b->o.P w->¬(bL FL vs).di b:=by
 rintro o ho b h1 hP ⟨v,hv,hf⟩
 rcases hf with ⟨_,off,e⟩ | hf
 ·have:=hN v hv _ e
  have h2:=cD o ho b h1
  exact absurd this (Nat.not_le.2 h2)
 ·exact lh (hE v hv).2.2 hn o ho b h1 hP hf
theorem St.oT {w0 w w':World} {own ps new:List PF} {vs:List LE} (h:St w0 w own ps) (hS:St w w' new [bL FL vs]) (hN:gZ w.heap.size vs) (hn:qB own):St w0 w' (new++own) (bL FL vs::ps):=by
 have h1:St w w' new []:=⟨hS.below,hS.mine,hS.new,hS.nd,fun p h=>by simp at h,fun p h=>by simp at h⟩
 have h2:=h.more h1
 have h3:=h.call hS.below
 refine h2.iB _ (hS.pat (k:=0) rfl) fun o ho b hb hf=>?_
 rcases b6.1 ho with q | q
 ·exact hS.apart _ (bS ..) o q b hb hf
 ·exact apL (hS.pat (k:=0) rfl) hN hn (fun o ho b hb=>o.lt (h.mine o ho) hb) o q b hb (h3.mine o q) hf
theorem ahP {es:List Pt} {j:Nat} {p:Pt} (h:es[j]?=some p):(Bb es)[j]?=some (rf es.length (ma es.length p)):=by unfold Bb; rw [bo,h]; rfl
theorem ZG {k j:Nat} (h:j<k):(wW k)[j]?=some (rf k (Ba j)):=by unfold wW; rw [bo,fQ h]; rfl
theorem sq {vs:List LE} {R:List Rw} {j:Nat} {v:LE} {r:Rw} (h:vs.map lz=R.take j) (hr:R[j]?=some r) (hv:lz v=r):(vs++[v]).map lz=R.take (j+1):=by
 rw [je,h,take_one hr,List.map_singleton,hv]
theorem Xt {k i:Nat} {A:Option Addr} {c:Nat}:((List.replicate k ((none,0,0):NE)).set i (A,c,1)).map zz=rf k (Ba i):=by
 unfold rf Ba
 apply CU cT
 intro t h1 h2
 rw [List.getElem_map,List.getElem_set,List.getElem_map,List.getElem_range]
 split
 ·rename_i q; subst q; rw [aR rfl]
 ·rename_i q; rw [aQ (qm q)]; simp [zz]
theorem oU {q:Value->Bool} {w0 w:World} {own ps:List PF} {E z n c k g o:Nat} {vs:List Value} (h:St w0 w own ps) (hk:own[k]?=some (av q E z (some ⟨g,o,none⟩) n c vs)):w0.heap.size<=g:=
 h.new _ (aB hk) g (by simp [av,tE,Value.ownBlock])
theorem ahQ {es:List Pt} (h:iA es) {j:Nat} {p:Pt} (he:es[j]?=some p):vq p.1/\vq p.2:=by
 have:=(h.qH p (aB he)).1
 exact this
theorem Xu {w0:World} {A0:Option Addr} {n0 c0:Nat} {es0:List Pt} (h0:(u3 A0 n0 c0 es0).P w0) (bH:iA es0):
  Calls Tryz.prog 116 #[.slice A0 n0 c0] w0 fun e w'=>∃A c vs,e=.returned (.tuple #[.slice A n0 c,aq 0])/\St w0 w' [aaP A n0 c vs] [bL FL vs]/\gZ w0.heap.size vs/\vs.map lz=Bb es0:=by
 have hq:=bH.some_
 refine dp Tryz.func116 rfl Tryz.ntmps116 rfl fun σ=>?_
 have a8:=h0.2.1
 have ic:=h0.1.cap
 have bW:=h0.1.big
 unfold maxLen at bW
 replace σ:=σ.aE h0
 refine eE rfl<|dx Tryz.call129 (GC σ.aU bH) σ rfl fun _ σ=>iF rfl rfl<|?_
 replace σ:=(σ.cl ar 43 1).nP FL
 refine fX (fun mz l w=>∃j:Nat,∃A4:Option Addr,∃c4:Nat,∃vs:List LE,n0 - j=mz/\l=[(14,ak j),(4,.slice A4 j c4),(0,.slice A0 n0 c0),(12,.slice A0 n0 c0),(13,ak n0)]/\St w0 w [aaP A4 j c4 vs] [bL FL vs,u3 A0 n0 c0 es0]/\j<=n0/\vs.map lz=(Bb es0).take j/\gZ w0.heap.size vs) ⟨0,none,0,[],rfl,rfl,σ,(bm _),rfl,(gZ.nil _)⟩ ay ?_
 rintro _ _ _ ⟨j,A4,c4,vs,rfl,rfl,σ,hj,JK,EM⟩
 refine ei rfl<|wD (fun iz=>?_) fun iz=>?_
 ·have cD:j<n0:=ae
  obtain ⟨⟨pa,pb⟩,b5⟩:∃e,es0[j]?=some e:=⟨_,aw ae⟩
  refine iT rfl rfl<|vE rfl (fun η=>az (i:=j) η Tryz.underlying22 (aC.size) rfl rfl ae rfl σ.bC.1)<|cE rfl (fun η=>bF (v:=#[aq pa,aq pb]) (i:=j) (e:=(pa,pb)) η aC rfl rfl ft σ.bC.1 ae b5 rfl)<|eE rfl<|eL bp σ rfl fun _ cJ σ=>eE rfl<|cX 0 σ rfl fun _ σ=>gE 0 σ rfl<|eE rfl<|cS Tryz.call114 (CH (n:=n0) (ahQ bH b5) ae) rfl ?_
  rintro _ _ ⟨oK,nv,xJ,rfl,AR,xF,xI,hb⟩
  refine ⟨_,rfl,?_⟩
  have Ma:=fun a (ha:oK=some a)=>bq σ.below.size (AR.2.2 a ha)
  replace σ:=σ.iW hb AR xF (lh AR.2.1 ⟨aN rfl,aL,trivial⟩)
  refine eE rfl<|lr (z:=1) #[.slice oK n0 nv] σ (aH.size) dV rfl aK fun _ B4 σ=>eE rfl<|pT (new:=[(oK,n0,nv,xJ)]) 2 0 σ dI rfl (by unfold maxLen; omega) ae fun _ Bt uc σ=>?_
  replace σ:=σ.l7 (e:=(oK,n0,nv,xJ)) (i:=1) (j:=0) rfl rfl
  exact can (j:=1) rfl ae<|dF ⟨j+1,(bh Bt),uc,(vs++[(oK,n0,nv,xJ)]),rfl,rfl,σ.pick [2] [0,3] ai,ae,(sq JK (ahP b5) (by show xJ.map zz=_; rw [a8]; exact xI)),(EM.snoc (v:=(oK,n0,nv,xJ)) Ma)⟩ ay ae
 ·obtain rfl:n0=j:=ae
  refine iF rfl rfl<|o2 Tryz.results116 rfl<|?_
  rw [bD (by unfold Bb; rw [aZ]; omega)] at JK
  exact ⟨_,_,_,rfl,σ.pick [0] [0] ai,EM,JK⟩
theorem S4 {w0:World} {k:Nat} (hk:k<=100):
  Calls Tryz.prog 113 #[ak k] w0 fun e w'=>∃A c vs,e=.returned (.slice A k c)/\St w0 w' [aaP A k c vs] [bL FL vs]/\gZ w0.heap.size vs/\vs.map lz=wW k:=by
 refine dp Tryz.func113 rfl Tryz.ntmps113 rfl fun σ=>?_
 replace σ:=(σ.cl ar 43 1).nP FL
 refine fX (fun mz l w=>∃j:Nat,∃A4:Option Addr,∃c4:Nat,∃vs:List LE,k - j=mz/\l=[(7,ak j),(3,.slice A4 j c4),(0,ak k),(6,ak k)]/\St w0 w [aaP A4 j c4 vs] [bL FL vs]/\j<=k/\vs.map lz=(wW k).take j/\gZ w0.heap.size vs) ⟨0,none,0,[],rfl,rfl,σ,(bm _),rfl,(gZ.nil _)⟩ ay ?_
 rintro _ _ _ ⟨j,A4,c4,vs,rfl,rfl,σ,hj,JK,EM⟩
 refine ei rfl<|wD (fun iz=>?_) fun iz=>?_
 ·have cD:j<k:=ae
  refine iT rfl rfl<|eE rfl<|mkN fN ((none,0,0):NE) ar σ bK rfl mu ae (by unfold maxLen; omega) fun _ cJ σ=>?_
  replace σ:=σ.sU (kI k _) ⟨aL,aL,trivial⟩
  refine eE rfl<|cS Tryz.call18 (yU (n:=(1:Int)) ae ae) rfl ?_
  rintro _ _ ⟨_,rfl,⟨oK,nv,rfl,SK⟩,hb⟩
  refine ⟨_,rfl,?_⟩
  replace σ:=(σ.call hb).eO SK ⟨aL,aL,trivial⟩
  refine vE rfl (fun η=>az (i:=j) η Tryz.underlying43 (ah.size) rfl rfl ae rfl (ax σ.dm))<|eE rfl<|srE 0 j (e1:=(oK,nv,1)) eF σ rfl rfl ai ae cT fun _ σ=>?_
  replace σ:=σ.qp (e:=(oK,nv,1)) (i:=1) (j:=0) rfl rfl j
  have oE:w0.heap.size<=cJ:=oU σ (k:=0) rfl
  replace σ:=σ.rU (k:=0) (j:=0) rfl rfl cT
  refine eE rfl<|lr (z:=1) #[.slice (bh cJ) k k] σ (aH.size) dV rfl aK fun _ yi σ=>eE rfl<|pT (new:=[(((bh cJ),k,k,((List.replicate k ((none,0,0):NE)).set j (oK,nv,1))):LE)]) 1 0 σ dI rfl (by unfold maxLen; omega) ae fun _ u5 I2 σ=>?_
  replace σ:=σ.l7 (e:=(((bh cJ),k,k,((List.replicate k ((none,0,0):NE)).set j (oK,nv,1))):LE)) (i:=5) (j:=0) rfl rfl
  exact can (j:=1) rfl ae<|dF ⟨j+1,(bh u5),I2,(vs++[(((bh cJ),k,k,((List.replicate k ((none,0,0):NE)).set j (oK,nv,1))):LE)]),rfl,rfl,σ.pick [1] [0] ai,ae,(sq JK (ZG ae) Xt),(EM.snoc (v:=((bh cJ),k,k,((List.replicate k ((none,0,0):NE)).set j (oK,nv,1)))) (fun a ha=>by cases ha; exact oE))⟩ ay ae
 ·obtain rfl:k=j:=ae
  refine iF rfl rfl<|o1 Tryz.results113 rfl<|?_
  rw [bD (by rw [kN]; omega)] at JK
  exact ⟨_,_,_,rfl,σ.pick [0] [0] ai,EM,JK⟩
def aqU (B:Nat) (w:World) (v:Value) (n:Nat) (zs:List Int):Prop:=∃g es,v=.slice (bh g) n (n+2)/\pF ar 52 2 fN FN B w (bh g) (n+2) (n+2) es/\es.length=n+2/\es.map zz=zs++[0,0]
def aqV (B:Nat) (w:World) (v:Value) (n:Nat) (zs:List Int):Prop:=∃A c es,v=.slice A n c/\pF ar 52 2 fN FN B w A n c es/\es.length=n/\es.map zz=zs/\(n=0->A=none)
theorem S5 {α:Type} {f:α->List Value} {F:α->PF} {z n c:Nat} {A:Option Addr} {es:List α} {w:World} (hn:0<n) (h:(ag f F z A n c es).P w):A.isNone=false:=by
 obtain ⟨b,off,rfl,_⟩:=h.1.cells hn
 rfl
theorem En {A0:Option Addr} {n0 c0:Nat} {es0:List NE} {xs:List Int} {w0:World} (h0:(ag fN FN 2 A0 n0 c0 es0).P w0) (jF:es0.map zz=xs) (hp:0<n0) (hn:n0<=10000000):
  Calls Tryz.prog 161 #[.slice A0 n0 c0] w0 fun e w'=>∃v,e=.returned v/\qC w0.heap.size w' v n0 xs/\Below w0.heap.size w0 w':=by
 have yw:=S5 hp h0
 refine enter Tryz.func161 rfl Tryz.ntmps161 rfl ?_
 intro a η σ
 have a8:=h0.2.1
 have bW:=bq h0.1.cap h0.1.big
 unfold maxLen at bW
 replace σ:=σ.aE h0
 clear h0
 refine wp_seq (aj ?_)
 refine sv (v:=bA) η rfl (aV η rfl) ?_
 clear η a; intro a η
 refine wpList_nil (aT (wp_seq (wp_seq (aj ?_))))
 revert a
 refine mA rfl rfl ?_
 refine sA (v:=.bool A0.isNone) rfl (fun _ η=>lB η Tryz.underlying43 rfl) ?_
 intro a η
 rw [show A0.isNone=false from yw] at η
 refine wpList_nil (aT ?_)
 refine oD η rfl (rfl) ?_
 refine wp_skip (aT (wp_seq (aj ?_)))
 refine au rfl (rk η σ rfl Tryz.underlying43 (ah.size) ?_)
 clear η σ a; intro a Uf bJ η σ
 replace σ:=(σ.PS (k:=0) rfl 2).nP FN
 replace σ:St w0 _ [av ar 52 2 (bh bJ) 0 0 (fl fN ([]))] [bL FN ([]),ag fN FN 2 A0 n0 c0 es0]:=σ
 refine sv (v:=.slice A0 n0 c0) η rfl (b7 η rfl) ?_
 clear η a; intro a η
 refine au rfl (zh (k:=0) η σ rfl Tryz.underlying43 bK rfl rfl rfl rfl rfl σ.bC.1 (Im (fun _=>rfl) _) (Im (fun _=>rfl) _) rfl ae (by unfold maxLen; omega) ae ?_)
 clear η σ a; intro a w55 fo nv η σ
 rw [show fl fN ([])++fl fN es0=fl fN es0 from rfl] at σ
 replace σ:=σ.afD (i:=1) rfl
 refine sv (v:=.slice (bh fo) (0+n0) nv) η rfl (aV η rfl) ?_
 clear η a; intro a η
 refine wpList_nil (aT (wp_ret ?_))
 refine leave η (dA Tryz.results161 (RV.tmp η rfl)) ?_
 exact ⟨_,rfl,⟨_,_,es0,aM (fun k=>Value.slice _ k _) (fz _),(fz n0 ▸ σ.newRow (k:=0) (j:=0) rfl rfl),a8,jF⟩,σ.below⟩
theorem JP {A0 A1:Option Addr} {n0 c0 n1 c1:Nat} {es0 es1:List NE} {xs:List Int} {w0:World} (h0:(ag fN FN 2 A0 n0 c0 es0).P w0) (jF:es0.map zz=xs) (h1:(ag fN FN 2 A1 n1 c1 es1).P w0) (ld:es1.map zz=xs):
  Calls Tryz.prog 118 #[.slice A0 n0 c0,.slice A1 n1 c1] w0 fun e w'=>e=.returned (.bool true)/\Below w0.heap.size w0 w':=by
 have h:=P7 h0 h1
 rw [jF,ld,KF rfl rfl] at h
 exact h
end Go.Proofs.YtgopcdagnicekaaGreatDoor.W
